/- An abstract machine over the model, and contracts of functions of this program on it (part 5): words and lemmas for the proof in the last text. -/
import Derived.Lib.Walk
import Derived.Handy
import Derived.Lib.Small
import Derived.Deep.RegionHeld3
import Derived.Deep.DrawnRows
import Derived.Shelf.SlSortCmp.WholeK
import Derived.Shelf.SlSortCmp.NoneTotal
import Derived.WalkKit
import Derived.ProofKit
import Derived.OpenShut
import Derived.JoinedCond
import Derived.Carry
import Derived.Test.YtbehhclclhfhkaaGreatDoorCards
import Derived.Test.YtbehhclclhfhkaaGreatDoorTie
import Derived.Deep.DeepHandedRow
import Derived.Shelf.Vars
import Derived.MakeChecks
import Derived.Test.YtbehhclclhfhkaaGreatDoorCD
set_option linter.unusedSimpArgs false
set_option linter.unusedVariables false
set_option linter.unusedSectionVars false
noncomputable section
open Go.Proofs.Tryz

namespace Go.Aw.Try
open Go Go.Proofs Go.Aw
set_option maxRecDepth 100000
set_option maxHeartbeats 4000000
theorem trim_self:∀ {l:List UInt8},(∀ h:l≠[],l.getLast h≠0)→Nv.trimZ l=l
 | [],_=>rfl
 | [b],h=>by
  have:=h (by simp)
  simp at this
  simp [Nv.trimZ,this]
 | b :: c :: r,h=>by
  have ih:=trim_self (l:=c :: r) fun h'=>by have:=h (by simp); rwa [List.getLast_cons h'] at this
  have hne:Nv.trimZ (c :: r)≠[]:=by rw [ih]; simp
  rw [Nv.trimZ,if_neg (fun q=>hne q.1),ih]
theorem take_digs {l:List UInt8} {n:Nat} (hn:n≤l.length) (hv:Nv.valB (l.take n)=Nv.valB l) (hz:n=0∨l.getD (n-1) 0≠0):l.take n=Nv.digs (Nv.valB l):=by
 rw [← hv,Nv.digs_valB]
 symm
 refine trim_self fun h=>?_
 rcases hz with rfl | hz
 ·simp at h
 ·have hn0:0<n:=by
   rcases Nat.eq_zero_or_pos n with q | q
   ·subst q; simp at h
   ·exact q
  rw [List.getLast_eq_getElem,List.getElem_take]
  have e:(List.take n l).length-1=n-1:=by rw [List.length_take]; omega
  rw [List.getD_eq_getElem?_getD,List.getElem?_eq_getElem (by omega)] at hz
  have hz:l[n-1]'(by omega)≠0:=by simpa using hz
  simpa only [e] using hz
theorem ext_take (s:ByteArray) (n:Nat) (h:n≤s.size):s.extract 0 n=⟨((bl8 s).take n).toArray⟩:=by
 apply ByteArray.ext
 rw [ByteArray.data_extract]
 apply Array.toList_inj.1
 simp [bl8]
theorem k1149 (s:ByteArray) (h:s.size<4611686018427387904):ACalls prog G0 158 [Sx s] [] fun t H=>t = .str (nB (nV s))∧H=[]:=by
 refine acallsX (X:=[]) trivial tab hmix func158 c1149 (by rfl) fun hw=>?_
 simp -implicitDefEqProofs (disch:=omega) [gz,ir1149,b1149,wrap64]
 refine loopE (fun k st=>k≤s.size∧Nv.valB ((bl8 s).take k)=Nv.valB (bl8 s)∧st=⟨ofL [(0,.v (.c (.d (.v (.string s))))),(3,.int .i64 k)],[]⟩)
  (fun st=>∃ n,n≤s.size∧Nv.valB ((bl8 s).take n)=Nv.valB (bl8 s)∧(n=0∨(bl8 s).getD (n-1) 0≠0)∧AtS [(0,.v (.c (.d (.v (.string s))))),(3,.int .i64 n)] [] st) ?_ ?_ ?_
 ·refine wk_keep [0,3] ⟨s.size,Nat.le_refl _,by rw [List.take_of_length_le (by rw [bl8_len]; omega)],?_⟩
  simp
 ·rintro J L hJ hL k st ⟨hk,hv,rfl⟩
  by_cases hk0:k=0
  ·subst hk0
   simp -implicitDefEqProofs (disch:=omega) [gz,wrap64]
   subst hL
   exact ⟨0,by omega,hv,.inl rfl,at_mk (by simp) rfl⟩
  ·obtain ⟨q,rfl⟩:∃ q,k=q+1:=⟨k-1,by omega⟩
   have hq:q<s.size:=by omega
   have h1:(0:Int)<((q+1:Nat):Int):=by omega
   have h1':(0:Int)<(q:Int)+1:=by omega
   have h2:((q+1:Nat):Int)-1=(q:Int):=by omega
   have h2':(q:Int)+1-1=(q:Int):=by omega
   have hg:(s.data[q]?.getD 0)=(bl8 s)[q]'(by rw [bl8_len]; exact hq):=by rw [bl8_at]; exact bl8_get hq
   obtain ⟨y,hy⟩:∃ y,y=(s.data[q]?.getD 0).toNat:=⟨_,rfl⟩
   by_cases hz:y=0
   ·subst hz
    simp -implicitDefEqProofs (disch:=omega) [gz,wrap64,h1,h1',h2,h2',hq,← hy]
    subst hJ
    refine wk_keep [0,3] ⟨q,by omega,by omega,?_,?_⟩
    ·have:=Nv.valB_take (l:=bl8 s) (i:=q) (by rw [bl8_len]; exact hq)
     rw [hv,← hg,← hy] at this
     omega
    ·simp
   ·have hz':¬ (y:Int)=0:=by omega
    simp -implicitDefEqProofs (disch:=omega) [gz,wrap64,h1,h1',h2,h2',hq,← hy,hz,hz']
    subst hL
    refine ⟨q+1,by omega,hv,.inr fun e=>hz ?_,at_mk (by simp) rfl⟩
    rw [Nat.add_sub_cancel,← bl8_at] at e
    rw [hy,e]; rfl
 ·rintro _ ⟨n,hn,hv,hz,sl,rfl⟩
  have e:s.extract 0 n=nB (nV s):=by
   rw [ext_take s n hn,take_digs (by rw [bl8_len]; exact hn) hv hz]; rfl
  simp -implicitDefEqProofs (disch:=omega) [gz,wrap64,e,hn]
  exact fin_nil ⟨rfl,rfl⟩
def x1149:XE:=mkX true (fun (s:ByteArray)=>[.c (.v (.string s))]) (fun s=>s.size<4611686018427387904) (fun s=>.str (nB (nV s)))
theorem kx1149:Contract prog G0 158 x1149:=mkX_scal (fun _=>rfl) fun s h=>k1149 s h
theorem xg1149 (s:ByteArray) (h:s.size<4611686018427387904):x1149.g [.c (.v (.string s))]=some (True,.str (nB (nV s))):=mkX_g (fun a b h=>by simp at h; exact h) s h
def bt (s:ByteArray) (i:Nat):Nat:=(s.data[i]?.getD 0).toNat
theorem bt_lt (s:ByteArray) (i:Nat):bt s i<256:=UInt8.toNat_lt _
theorem k1169 (s:ByteArray) (i:Nat) (h:s.size<4611686018427387904):ACalls prog G0 159 [Sx s,I i] [] fun t H=>t = .int .i64 (bt s i)∧H=[]:=by
 refine acallsX (X:=[]) trivial tab hmix func159 c1169 (by rfl) fun hw=>?_
 obtain ⟨y,hy⟩:∃ y,y=(s.data[i]?.getD 0).toNat:=⟨_,rfl⟩
 have hy2:bt s i=y:=hy.symm
 have hyl:y<256:=by rw [← hy2]; exact bt_lt s i
 rw [hy2]
 by_cases c:i<s.size
 ·have c':(i:Int)<(s.size:Int):=by omega
  simp -implicitDefEqProofs (disch:=omega) [gz,ir1169,b1169,wrap64,c,c',← hy]
  exact fin_nil ⟨rfl,rfl⟩
 ·have c':¬ (i:Int)<(s.size:Int):=by omega
  have:y=0:=by rw [hy,Array.getElem?_eq_none (by exact Nat.le_of_not_lt c)]; rfl
  subst this
  simp -implicitDefEqProofs (disch:=omega) [gz,ir1169,b1169,wrap64,c,c']
  exact fin_nil ⟨rfl,rfl⟩
def x1169:XE:=mkX true (fun (p:ByteArray×Nat)=>[.c (.v (.string p.1)),.c (.v (.int .i64 (p.2:Int)))]) (fun p=>p.1.size<4611686018427387904) (fun p=>.int .i64 (bt p.1 p.2))
theorem kx1169:Contract prog G0 159 x1169:=mkX_scal (fun _=>rfl) fun p h=>k1169 p.1 p.2 h
theorem xg1169 (s:ByteArray) (i:Nat) (h:s.size<4611686018427387904):x1169.g [.c (.v (.string s)),.c (.v (.int .i64 (i:Int)))]=some (True,.int .i64 (bt s i)):=mkX_g (fun a b h=>by
 simp only [List.cons.injEq,PVo.c.injEq,D.v.injEq,Value.string.injEq,Value.int.injEq,true_and,and_true] at h
 exact Prod.ext h.1 (by omega)) (s,i) h
theorem k1150 (a b:ByteArray) (ha:a.size<4611686018427387904) (hb:b.size<4611686018427387904):ACalls prog G0 160 [Sx a,Sx b] [] fun t H=>t = .int .i64 (cmpN (nV a) (nV b))∧H=[]:=by
 have s1:x1149.sc=true:=rfl
 have g1:=xg1149 a ha
 have g2:=xg1149 b hb
 have hsb:=nB_le (s:=a)
 have htb:=nB_le (s:=b)
 obtain ⟨m,hm⟩:∃ m,m=nV a:=⟨_,rfl⟩
 obtain ⟨n,hn⟩:∃ n,n=nV b:=⟨_,rfl⟩
 rw [← hm] at g1 hsb ⊢
 rw [← hn] at g2 htb ⊢
 have hls:(nB m).size=(Nv.digs m).length:=rfl
 have hlt:(nB n).size=(Nv.digs n).length:=rfl
 have hvs:Nv.valB (bl8 (nB m))=m:=Nv.valB_digs m
 have hvt:Nv.valB (bl8 (nB n))=n:=Nv.valB_digs n
 obtain ⟨s,hs⟩:∃ s,s=nB m:=⟨_,rfl⟩
 obtain ⟨t,ht⟩:∃ t,t=nB n:=⟨_,rfl⟩
 rw [← hs] at g1 hsb hls hvs
 rw [← ht] at g2 htb hlt hvt
 refine acallsX (X:=[(158,x1149)]) ⟨kx1149,trivial⟩ tab hmix func160 c1150 (by rfl) fun hw=>?_
 by_cases hlen:s.size=t.size
 ·have hbase:=hlen
  simp -implicitDefEqProofs (disch:=omega) [gz,ir1150,b1150,wrap64,s1,g1,g2,hlen]
  refine loopE (fun k st=>∃ i,i≤t.size∧k=t.size-i∧(bl8 s).drop (t.size-i)=(bl8 t).drop (t.size-i) ∧
    st=⟨ofL [(5,.v (.c (.d (.v (.string s))))),(6,.v (.c (.d (.v (.string t))))),(7,.int .i64 ((t.size:Int)-1-(i:Int)))],[]⟩)
   (fun st=>m=n∧AtS [] [] st) ?_ ?_ ?_
  ·refine wk_keep [5,6,7] ⟨_,0,by omega,rfl,?_,?_⟩
   ·rw [Nat.sub_zero,List.drop_eq_nil_of_le (by rw [bl8_len]; omega),List.drop_eq_nil_of_le (by rw [bl8_len]; omega)]
   ·simp [hbase]
  ·rintro J L hJ hL k st ⟨i,hi,rfl,hd,rfl⟩
   by_cases hlti:i<t.size
   ·obtain ⟨q,hq⟩:∃ q,q=t.size-(i+1):=⟨_,rfl⟩
    have hqs:q<s.size:=by omega
    have hqt:q<t.size:=by omega
    have hqi:((t.size:Int)-1-(i:Int))=(q:Int):=by omega
    have hq1:t.size-i=q+1:=by omega
    have hq0:(0:Int)≤(q:Int):=by omega
    have hqn:((t.size:Int)-1-((i+1:Nat):Int))=(q:Int)-1:=by omega
    rw [hq1] at hd
    obtain ⟨x,hx⟩:∃ x,x=(s.data[q]?.getD 0).toNat:=⟨_,rfl⟩
    obtain ⟨y,hy⟩:∃ y,y=(t.data[q]?.getD 0).toNat:=⟨_,rfl⟩
    have ex:x=((bl8 s)[q]'hqs).toNat:=by rw [hx,bl8_at,bl8_get hqs]
    have ey:y=((bl8 t)[q]'hqt).toNat:=by rw [hy,bl8_at,bl8_get hqt]
    by_cases c1:x=y
    ·subst c1
     simp -implicitDefEqProofs (disch:=omega) [gz,wrap64,hqi,hq0,hqs,hqt,hlen,← hx,← hy]
     repeat' with_reducible apply And.intro
     all_goals first | kernel_rfl | skip
     subst hJ
     refine wk_keep [5,6,7] ⟨t.size-(i+1),by omega,i+1,by omega,rfl,?_,?_⟩
     ·rw [← hq,List.drop_eq_getElem_cons (l:=bl8 s) hqs,List.drop_eq_getElem_cons (l:=bl8 t) hqt,hd]
      congr 1
      exact UInt8.toNat_inj.1 (by rw [← ex,← ey])
     ·rw [hqn]; simp
    ·have c1':¬ (x:Int)=(y:Int):=by omega
     by_cases c2:x<y
     ·have c2':(x:Int)<(y:Int):=by omega
      have c3:True:=trivial
      have hmn:m<n:=by
       rw [← hvs,← hvt]
       exact top_lt (l:=bl8 s) (m:=bl8 t) hqs hqt hd (by rw [← ex,← ey]; exact c2)
      rw [show cmpN m n = -1 from by unfold cmpN; rw [if_pos hmn]]
      simp -implicitDefEqProofs (disch:=omega) [gz,wrap64,hqi,hq0,hqs,hqt,hlen,← hx,← hy,c1',c2',c3]
      repeat' with_reducible apply And.intro
      all_goals first | kernel_rfl | skip
      exact fin_nil ⟨rfl,rfl⟩
     ·have c2':¬ (x:Int)<(y:Int):=by omega
      have c3:(y:Int)<(x:Int):=by omega
      have hmn:n<m:=by
       rw [← hvs,← hvt]
       exact top_lt (l:=bl8 t) (m:=bl8 s) hqt hqs hd.symm (by rw [← ex,← ey]; omega)
      rw [show cmpN m n=1 from by unfold cmpN; rw [if_neg (by omega),if_pos hmn]]
      simp -implicitDefEqProofs (disch:=omega) [gz,wrap64,hqi,hq0,hqs,hqt,hlen,← hx,← hy,c1',c2',c3]
      repeat' with_reducible apply And.intro
      all_goals first | kernel_rfl | skip
      exact fin_nil ⟨rfl,rfl⟩
   ·have:i=t.size:=by omega
    subst this
    have hneg:¬ (0:Int)≤(t.size:Int)-1-(t.size:Int):=by omega
    have hneg2:¬ (t.size:Int)≤(t.size:Int)-1:=by omega
    simp -implicitDefEqProofs (disch:=omega) [gz,hneg,hneg2]
    subst hL
    refine ⟨?_,at_mk (by simp) rfl⟩
    rw [Nat.sub_self,List.drop_zero,List.drop_zero] at hd
    rw [← hvs,← hvt,hd]
  ·rintro _ ⟨hmn,sl,rfl⟩
   rw [show cmpN m n=0 from by unfold cmpN; rw [if_neg (by omega),if_neg (by omega)]]
   simp -implicitDefEqProofs (disch:=omega) [gz,wrap64]
   exact fin_nil ⟨rfl,rfl⟩
 ·have hlen':¬ (s.size:Int)=t.size:=by omega
  by_cases c1:s.size<t.size
  ·have hmn:m<n:=digs_short (by omega)
   rw [show cmpN m n = -1 from by unfold cmpN; rw [if_pos hmn]]
   simp -implicitDefEqProofs (disch:=omega) [gz,ir1150,b1150,wrap64,s1,g1,g2,hlen,hlen',c1]
   exact fin_nil ⟨rfl,rfl⟩
  ·have c1':t.size<s.size:=by omega
   have hmn:n<m:=digs_short (by omega)
   rw [show cmpN m n=1 from by unfold cmpN; rw [if_neg (by omega),if_pos hmn]]
   simp -implicitDefEqProofs (disch:=omega) [gz,ir1150,b1150,wrap64,s1,g1,g2,hlen,hlen',c1,c1']
   exact fin_nil ⟨rfl,rfl⟩
def x1150:XE:=mkX true (fun (p:ByteArray×ByteArray)=>[.c (.v (.string p.1)),.c (.v (.string p.2))]) (fun p=>p.1.size<4611686018427387904∧p.2.size<4611686018427387904) (fun p=>.int .i64 (cmpN (nV p.1) (nV p.2)))
theorem kx1150:Contract prog G0 160 x1150:=mkX_scal (fun _=>rfl) fun p h=>k1150 p.1 p.2 h.1 h.2
theorem xg1150 (a b:ByteArray) (ha:a.size<4611686018427387904) (hb:b.size<4611686018427387904):x1150.g [.c (.v (.string a)),.c (.v (.string b))]=some (True,.int .i64 (cmpN (nV a) (nV b))):=mkX_g inj2s (a,b) ⟨ha,hb⟩
def valD:List Nat→Nat
 | []=>0
 | x :: l=>x+256*valD l
theorem valD_set:∀ (l:List Nat) {j m:Nat},j<l.length→valD (l.set j m)+256^j*nth l j=valD l+256^j*m
 | x :: l,0,m,_=>by simp [valD,nth]; omega
 | x :: l,j+1,m,h=>by
  have ih:=valD_set l (j:=j) (m:=m) (by simpa using h)
  have e:nth (x :: l) (j+1)=nth l j:=rfl
  rw [e,List.set_cons_succ,valD,valD,Nat.pow_succ,Nat.mul_comm (256^j) 256,Nat.mul_assoc,Nat.mul_assoc]
  omega
theorem valD_bytes:∀ {l:List Nat},(∀ x∈l,x<256)→Nv.valB (l.map UInt8.ofNat)=valD l
 | [],_=>rfl
 | x :: l,h=>by
  rw [List.map_cons,Nv.valB,valD,valD_bytes fun y hy=>h y (List.mem_cons_of_mem _ hy),Nv.toNat_of (h x List.mem_cons_self)]
theorem valD_zero (n:Nat):valD (List.replicate n 0)=0:=by
 induction n with
 | zero=>rfl
 | succ n ih=>rw [List.replicate_succ,valD,ih]
def pv (s:ByteArray) (i:Nat):Nat:=Nv.valB ((bl8 s).take i)
theorem pv_all {s:ByteArray} {i:Nat} (h:s.size≤i):pv s i=nV s:=by
 unfold pv
 rw [List.take_of_length_le (by rw [bl8_len]; exact h)]; rfl
theorem pv_zero (s:ByteArray):pv s 0=0:=rfl
theorem pv_succ (s:ByteArray) (i:Nat):pv s (i+1)=pv s i+256^i*bt s i:=by
 by_cases h:i<s.size
 ·have:=Nv.valB_take (l:=bl8 s) (i:=i) (by rw [bl8_len]; exact h)
  have e:bt s i=((bl8 s)[i]'(by rw [bl8_len]; exact h)).toNat:=by unfold bt; rw [bl8_at]; exact congrArg UInt8.toNat (bl8_get h)
  unfold pv
  rw [this,e]
 ·rw [pv_all (by omega),pv_all (by omega)]
  have:bt s i=0:=by
   unfold bt
   rw [Array.getElem?_eq_none (by exact Nat.le_of_not_lt h)]; rfl
  rw [this]; omega
theorem pv_top {a b:ByteArray} (h:nV b≤nV a):pv b a.size=nV b:=by
 have ha:nV a<256^a.size:=Nv.valB_lt _
 have e:nV b=pv b a.size+256^((bl8 b).take a.size).length*Nv.valB ((bl8 b).drop a.size):=by
  show Nv.valB (bl8 b)=_
  conv=>lhs; rw [← List.take_append_drop a.size (bl8 b),Nv.valB_app]
  rfl
 rw [List.length_take,bl8_len] at e
 by_cases hs:a.size≤b.size
 ·rw [Nat.min_eq_left hs] at e
  obtain ⟨z,hz⟩:∃ z,z=Nv.valB ((bl8 b).drop a.size):=⟨_,rfl⟩
  rw [← hz] at e
  rcases Nat.eq_zero_or_pos z with q | q
  ·subst q; omega
  ·have:256^a.size*1≤256^a.size*z:=Nat.mul_le_mul_left _ q
   omega
 ·exact pv_all (by omega)
theorem sub8_step {P A Bv S b x y b' s:Nat} (h:A+P*b=S+Bv) (e:x+256*b'=s+y+b):(A+P*x)+P*(256*b')=(S+P*s)+(Bv+P*y):=by
 have h1:P*(x+256*b')=P*(s+y+b):=by rw [e]
 simp only [Nat.mul_add] at h1; omega
theorem valB_snoc (l:List UInt8) (b:UInt8):Nv.valB (l ++ [b])=Nv.valB l+256^l.length*b.toNat:=by
 rw [Nv.valB_app]
 simp [Nv.valB]
def rI (x:Nat):List D:=[.v (.int .i64 (x:Int))]
theorem k1152 (a b:ByteArray) (ha:a.size<1099511627776) (hb:b.size<1099511627776) (hle:nV b≤nV a):ACalls prog G0 138 [Sx a,Sx b] [] fun t H=>t = .tup [Sx (nB (nV a-nV b)),.c (.d (.v (.bool true)))]∧H=[]:=by
 have s1:x1150.sc=true:=rfl
 have s2:x1169.sc=true:=rfl
 have s3:x1149.sc=true:=rfl
 have g1:=xg1150 a b (by omega) (by omega)
 have hc:¬ cmpN (nV a) (nV b)<0:=by unfold cmpN; rw [if_neg (by omega)]; split <;> omega
 obtain ⟨R,hR⟩:∃ R,R=nB (nV a-nV b):=⟨_,rfl⟩
 rw [← hR]
 refine acallsX (X:=[(160,x1150),(159,x1169),(158,x1149)]) ⟨kx1150,kx1169,kx1149,trivial⟩ tab hmix func138 c1152 (by rfl) fun hw=>?_
 simp -implicitDefEqProofs (disch:=omega) [gz,ir1152,b1152,wrap64,s1,g1,hc,fillR]
 refine loopE (fun k st=>∃ (i lent:Nat) (out:List UInt8),i≤a.size∧k=a.size-i∧out.length=i∧lent≤1∧pv a i+256^i*lent=Nv.valB out+pv b i ∧
   st=⟨ofL [(0,.v (.c (.d (.v (.string a))))),(1,.v (.c (.d (.v (.string b))))),(6,.v (.c (.os 0 1 0 out.length))),(7,.int .i64 lent),(8,.int .i64 i)],[.row 1 (out.map u8R)]⟩)
  (fun st=>∃ (lent:Nat) (out:List UInt8),out.length=a.size∧lent≤1∧pv a a.size+256^a.size*lent=Nv.valB out+pv b a.size∧AtS [(6,.v (.c (.os 0 1 0 out.length)))] [.row 1 (out.map u8R)] st) ?_ ?_ ?_
 ·refine wk_nil [0] [0,1,6,7,8] rfl ⟨_,0,0,[],by omega,rfl,rfl,by omega,by simp [pv_zero,Nv.valB],?_⟩
  simp [phi,O.ren,C.ren]
 ·rintro J L hJ hL k st ⟨i,lent,out,hi,rfl,hol,hlent,hval,rfl⟩
  by_cases hlt:i<a.size
  ·have hlt':(i:Int)<(a.size:Int):=by omega
   have ga:=xg1169 a i (by omega)
   have gb:=xg1169 b i (by omega)
   have pa:=pv_succ a i
   have pb:=pv_succ b i
   have la:=bt_lt a i
   have lb:=bt_lt b i
   obtain ⟨x,hx⟩:∃ x,x=bt a i:=⟨_,rfl⟩
   obtain ⟨y,hy⟩:∃ y,y=bt b i:=⟨_,rfl⟩
   rw [← hx] at ga pa la
   rw [← hy] at gb pb lb
   have tC:(out.map u8R).take out.length=out.map u8R:=List.take_of_length_le (by simp)
   have fin:∀ (s l':Nat),s<256→l'≤1→x+256*l'=s+y+lent→pv a (i+1)+256^(i+1)*l'=Nv.valB (out ++ [UInt8.ofNat s])+pv b (i+1):=fun s l' hs hl' e=>by
    have:=sub8_step hval e
    rw [valB_snoc,hol,Nv.toNat_of hs,pa,pb,Nat.pow_succ,Nat.mul_assoc]
    exact this
   by_cases c:x<y+lent
   ·have c1:(x:Int)-(y:Int)-(lent:Int)<0:=by omega
    obtain ⟨s,hs⟩:∃ s,s=x+256-y-lent:=⟨_,rfl⟩
    have hsl:s<256:=by omega
    have hse:(x:Int)-(y:Int)-(lent:Int)+256=(s:Int):=by omega
    have hws:IntKind.u8.wrap (s:Int)=((UInt8.ofNat s).toNat:Int):=by rw [u8n,Nv.toNat_of hsl,Nat.mod_eq_of_lt hsl]
    simp -implicitDefEqProofs (disch:=omega) [gz,hlt,hlt',wrap64,s2,ga,gb,c1,hse,hws,elems,tC,maxLen47,fillR]
    repeat' with_reducible apply And.intro
    all_goals first | omega | kernel_rfl | skip
    subst hJ
    refine wk_nil [2] [0,1,6,7,8] rfl ⟨a.size-(i+1),by omega,i+1,1,out ++ [UInt8.ofNat s],by omega,rfl,by simp [hol],by omega,fin s 1 hsl (by omega) (by omega),?_⟩
    simp [phi,O.ren,u8R]
   ·have c1:¬ (x:Int)-(y:Int)-(lent:Int)<0:=by omega
    obtain ⟨s,hs⟩:∃ s,s=x-y-lent:=⟨_,rfl⟩
    have hsl:s<256:=by omega
    have hse:(x:Int)-(y:Int)-(lent:Int)=(s:Int):=by omega
    have hns:¬ (s:Int)<0:=by omega
    have hws:IntKind.u8.wrap (s:Int)=((UInt8.ofNat s).toNat:Int):=by rw [u8n,Nv.toNat_of hsl,Nat.mod_eq_of_lt hsl]
    simp -implicitDefEqProofs (disch:=omega) [gz,hlt,hlt',wrap64,s2,ga,gb,c1,hse,hns,hws,elems,tC,maxLen47,fillR]
    repeat' with_reducible apply And.intro
    all_goals first | omega | kernel_rfl | skip
    subst hJ
    refine wk_nil [2] [0,1,6,7,8] rfl ⟨a.size-(i+1),by omega,i+1,0,out ++ [UInt8.ofNat s],by omega,rfl,by simp [hol],by omega,fin s 0 hsl (by omega) (by omega),?_⟩
    simp [phi,O.ren,u8R]
  ·have hlt':¬ (i:Int)<(a.size:Int):=by omega
   have:i=a.size:=by omega
   subst this
   simp -implicitDefEqProofs (disch:=omega) [gz,hlt,hlt']
   subst hL
   exact ⟨lent,out,hol,hlent,hval,at_mk (by simp) rfl⟩
 ·rintro _ ⟨lent,out,hol,hlent,hval,sl,rfl⟩
  rw [pv_all (Nat.le_refl _),pv_top hle] at hval
  have hlo:=Nv.valB_lt out
  rw [hol] at hlo
  have hl0:lent=0:=by
   rcases Nat.eq_zero_or_pos lent with q | q
   ·exact q
   ·have:lent=1:=by omega
    subst this
    omega
  subst hl0
  have tC:(out.map u8R).take out.length=out.map u8R:=List.take_of_length_le (by simp)
  have g3:=xg1149 ⟨out.toArray⟩ (by show out.toArray.size<_; simp; omega)
  have hv:nV ⟨out.toArray⟩=nV a-nV b:=by
   show Nv.valB out.toArray.toList=_
   rw [List.toList_toArray]; omega
  rw [hv,← hR] at g3
  simp -implicitDefEqProofs (disch:=omega) [gz,wrap64,elems,tC,bytR_u8,s3,g3]
  exact fin_nil ⟨rfl,rfl⟩
def x1152:XE:=mkX true (fun (p:ByteArray×ByteArray)=>[.c (.v (.string p.1)),.c (.v (.string p.2))]) (fun p=>p.1.size<1099511627776∧p.2.size<1099511627776∧nV p.2≤nV p.1) (fun p=>.tup [Sx (nB (nV p.1-nV p.2)),.c (.d (.v (.bool true)))])
theorem kx1152:Contract prog G0 138 x1152:=mkX_scal (fun _=>rfl) fun p h=>k1152 p.1 p.2 h.1 h.2.1 h.2.2
theorem xg1152 (a b:ByteArray) (ha:a.size<1099511627776) (hb:b.size<1099511627776) (hle:nV b≤nV a):x1152.g [.c (.v (.string a)),.c (.v (.string b))]=some (True,.tup [Sx (nB (nV a-nV b)),.c (.d (.v (.bool true)))]):=mkX_g inj2s (a,b) ⟨ha,hb,hle⟩
theorem rI_map_set (S:List Nat) (j m:Nat):(S.map rI).set j [.v (.int .i64 (m:Int))]=(S.set j m).map rI:=by rw [List.map_set]; rfl
theorem mul8_step {V V' P T aP bk sj p o n o' m:Nat} (hset:V'+P*sj=V+P*m) (h:V+P*o=T+aP) (hn:n=sj+p+o) (hd:n=m+256*o'):V'+P*(256*o')=T+(aP+P*p):=by
 have h1:P*n=P*(sj+p+o):=by rw [hn]
 have h2:P*n=P*(m+256*o'):=by rw [hd]
 simp only [Nat.mul_add] at h1 h2
 omega
theorem k1168 (a b:ByteArray) (ha:a.size<1099511627776) (hb:b.size<1099511627776):ACalls prog G0 139 [Sx a,Sx b] [] fun t H=>t = .str (nB (nV a*nV b))∧H=[]:=by
 have s2:x1169.sc=true:=rfl
 have s3:x1149.sc=true:=rfl
 obtain ⟨R,hR⟩:∃ R,R=nB (nV a*nV b):=⟨_,rfl⟩
 rw [← hR]
 refine acallsX (X:=[(159,x1169),(158,x1149)]) ⟨kx1169,kx1149,trivial⟩ tab hmix func139 c1168 (by rfl) fun hw=>?_
 obtain ⟨N,hN⟩:∃ N,N=a.size+b.size+1:=⟨_,rfl⟩
 have hNi:(a.size:Int)+(b.size:Int)+1=(N:Int):=by omega
 simp -implicitDefEqProofs (disch:=omega) [gz,ir1168,b1168,b1168_0,b1168_1,b1168_2,wrap64,hNi,maxLen47]
 repeat' with_reducible apply And.intro
 all_goals first | omega | kernel_rfl | skip
 refine loopE (fun k st=>∃ (i:Nat) (S:List Nat),i≤a.size∧k=a.size-i∧S.length=N∧(∀ x∈S,x<256)∧(∀ j,i+b.size≤j→j<N→nth S j=0)∧valD S=pv a i*nV b ∧
   st=⟨ofL [(0,.v (.c (.d (.v (.string a))))),(1,.v (.c (.d (.v (.string b))))),(5,.v (.c (.os 0 1 0 N))),(6,.int .i64 i)],[.row 1 (S.map rI)]⟩)
  (fun st=>∃ S:List Nat,S.length=N∧(∀ x∈S,x<256)∧valD S=nV a*nV b∧AtS [(5,.v (.c (.os 0 1 0 N)))] [.row 1 (S.map rI)] st) ?_ ?_ ?_
 ·refine wk_nil [0] [0,1,5,6] rfl ⟨_,0,List.replicate N 0,by omega,rfl,by simp,fun x hx=>by rw [List.eq_of_mem_replicate hx]; omega,fun j _ hj=>by simp [nth,hj],by rw [valD_zero,pv_zero]; omega,?_⟩
  simp [phi,O.ren,C.ren,rI]
 ·rintro J L hJ hL k st ⟨i,S,hi,rfl,hSl,hS,htail,hval,rfl⟩
  by_cases hlt:i<a.size
  ·have hlt':(i:Int)<(a.size:Int):=by omega
   have ga:=xg1169 a i (by omega)
   have pa:=pv_succ a i
   have la:=bt_lt a i
   obtain ⟨x,hx⟩:∃ x,x=bt a i:=⟨_,rfl⟩
   rw [← hx] at ga pa la
   simp -implicitDefEqProofs (disch:=omega) [gz,hlt,hlt',wrap64]
   refine loopE (fun k st=>∃ (j o:Nat) (S:List Nat),j≤b.size+1∧k=b.size+1-j∧S.length=N∧(∀ x∈S,x<256)∧o<256∧((j≤b.size∧∀ q,i+b.size≤q→q<N→nth S q=0)∨(j=b.size+1∧o=0∧∀ q,i+1+b.size≤q→q<N→nth S q=0)) ∧
     valD S+256^(i+j)*o=pv a i*nV b+256^i*(x*pv b j) ∧
     st=⟨ofL [(0,.v (.c (.d (.v (.string a))))),(1,.v (.c (.d (.v (.string b))))),(5,.v (.c (.os 0 1 0 N))),(6,.int .i64 i),(7,.int .i64 o),(8,.int .i64 j)],[.row 1 (S.map rI)]⟩)
    (fun st=>∃ S:List Nat,S.length=N∧(∀ x∈S,x<256)∧(∀ q,i+1+b.size≤q→q<N→nth S q=0)∧valD S=pv a (i+1)*nV b ∧
     AtS [(0,.v (.c (.d (.v (.string a))))),(1,.v (.c (.d (.v (.string b))))),(5,.v (.c (.os 0 1 0 N))),(6,.int .i64 i)] [.row 1 (S.map rI)] st) ?_ ?_ ?_
   ·refine wk_nil [0] [0,1,5,6,7,8] rfl ⟨_,0,0,S,by omega,rfl,hSl,hS,by omega,.inl ⟨by omega,htail⟩,by rw [pv_zero,hval]; omega,?_⟩
    simp [phi,O.ren,C.ren]
   ·rintro J2 L2 hJ2 hL2 k2 st2 ⟨j,o,S,hj,rfl,hSl,hS,ho,htail,hval,rfl⟩
    by_cases hgo:j<b.size∨0<o
    ·have hjb:j≤b.size:=by
      rcases htail with ⟨q,_⟩ | ⟨q,q2,_⟩ <;> omega
     have hjN:i+j<N:=by omega
     obtain ⟨r,hr⟩:∃ r,r=i+j:=⟨_,rfl⟩
     rw [← hr] at hjN hval
     have hjNi:(i:Int)+(j:Int)=(r:Int):=by omega
     have hjS:r<S.length:=by omega
     have hjNI:(r:Int)<(N:Int):=by omega
     have gb:=xg1169 b j (by omega)
     have pb:=pv_succ b j
     have lb:=bt_lt b j
     obtain ⟨y,hy⟩:∃ y,y=bt b j:=⟨_,rfl⟩
     rw [← hy] at gb pb lb
     obtain ⟨sj,hsj⟩:∃ s,s=nth S r:=⟨_,rfl⟩
     have hsl:sj<256:=by rw [hsj]; exact hS _ (nth_mem hjS)
     obtain ⟨p,hp⟩:∃ p,p=x*y:=⟨_,rfl⟩
     have hpl:p≤65025:=by
      have:=Nat.mul_le_mul (show x≤255 by omega) (show y≤255 by omega)
      omega
     have hpi:(x:Int)*(y:Int)=(p:Int):=by rw [hp]; simp
     obtain ⟨n,hn⟩:∃ n,n=sj+p+o:=⟨_,rfl⟩
     have hni:(sj:Int)+(p:Int)+(o:Int)=(n:Int):=by omega
     have hnr:(n:Int).tmod 256=((n % 256:Nat):Int):=(Int.ofNat_tmod n 256).symm
     have hnq:(n:Int).tdiv 256=((n / 256:Nat):Int):=(Int.ofNat_tdiv n 256).symm
     have tS:(S.map rI).take N=S.map rI:=List.take_of_length_le (by simp [hSl])
     have hml:n % 256<256:=Nat.mod_lt _ (by decide)
     have hql:n / 256<256:=by omega
     have hstep:=mul8_step (V:=valD S) (V':=valD (S.set r (n % 256))) (P:=256^r) (T:=pv a i*nV b) (aP:=256^i*(x*pv b j)) (bk:=0) (sj:=sj) (p:=p) (o:=o) (n:=n) (o':=n / 256) (m:=n % 256)
      (by rw [hsj]; exact valD_set S hjS) hval hn (by omega)
     have hsum:256^i*(x*pv b (j+1))=256^i*(x*pv b j)+256^r*p:=by
      rw [pb,hp,hr,Nat.pow_add,Nat.mul_add,Nat.mul_add,Nat.mul_assoc]
      congr 2
      rw [← Nat.mul_assoc,← Nat.mul_assoc,Nat.mul_comm x (256^j)]
     have hpow:256^r*256=256^(i+(j+1)):=by rw [hr,← Nat.add_assoc,Nat.pow_succ]
     rw [← hsum,← Nat.mul_assoc,hpow] at hstep
     obtain ⟨m,hm⟩:∃ m,m=n % 256:=⟨_,rfl⟩
     obtain ⟨q,hq⟩:∃ q,q=n / 256:=⟨_,rfl⟩
     rw [← hm] at hnr hml hstep
     rw [← hq] at hnq hql hstep
     have hset:=rI_map_set S r m
     have hnext:∀ z∈S.set r m,z<256:=fun z hz=>by
      rcases List.mem_or_eq_of_mem_set hz with hz | rfl
      ·exact hS z hz
      ·exact hml
     have htl:(j+1≤b.size∧∀ t,i+b.size≤t→t<N→nth (S.set r m) t=0)∨(j+1=b.size+1∧q=0∧∀ t,i+1+b.size≤t→t<N→nth (S.set r m) t=0):=by
      rcases htail with ⟨_,ht⟩ | ⟨hj1,ho1,ht⟩
      ·by_cases hjl:j<b.size
       ·exact .inl ⟨by omega,fun t h1 h2=>by rw [nth_set_ne (by omega)]; exact ht t h1 h2⟩
       ·refine .inr ⟨by omega,?_,fun t h1 h2=>by rw [nth_set_ne (by omega)]; exact ht t (by omega) h2⟩
        have hy0:y=0:=by
         rw [hy]; unfold bt
         rw [Array.getElem?_eq_none (by exact Nat.le_of_not_lt hjl)]; rfl
        have hs0:sj=0:=by rw [hsj]; exact ht _ (by omega) (by omega)
        have hp0:p=0:=by rw [hp,hy0]; omega
        omega
      ·omega
     by_cases hjl:j<b.size
     ·have hjl':(j:Int)<(b.size:Int):=by omega
      simp (maxSteps:=1000000) -implicitDefEqProofs (disch:=omega) [gz,hlt',hjl,hjl',wrap64,hjNi,hjN,hjNI,hSl,tS,nth_map,← hsj,s2,ga,gb,hpi,hni,hnr,hnq,rI,fillC,splice]
      refine ⟨by kernel_rfl,?_⟩
      subst hJ2
      refine wk_nil [0] [0,1,5,6,7,8] rfl ⟨b.size+1-(j+1),by omega,j+1,q,S.set r m,by omega,rfl,by simp [hSl],hnext,hql,htl,hstep,?_⟩
      rw [← hset]
      simp [phi,O.ren,C.ren]
     ·have hjl':¬ (j:Int)<(b.size:Int):=by omega
      have ho0:0<o:=by omega
      have ho0':(0:Int)<(o:Int):=by omega
      simp (maxSteps:=1000000) -implicitDefEqProofs (disch:=omega) [gz,hlt',hjl,hjl',ho0,ho0',wrap64,hjNi,hjN,hjNI,hSl,tS,nth_map,← hsj,s2,ga,gb,hpi,hni,hnr,hnq,rI,fillC,splice]
      refine ⟨by kernel_rfl,?_⟩
      subst hJ2
      refine wk_nil [0] [0,1,5,6,7,8] rfl ⟨b.size+1-(j+1),by omega,j+1,q,S.set r m,by omega,rfl,by simp [hSl],hnext,hql,htl,hstep,?_⟩
      rw [← hset]
      simp [phi,O.ren,C.ren]
    ·have hjl:¬ j<b.size:=by omega
     have hjl':¬ (j:Int)<(b.size:Int):=by omega
     have ho0:o=0:=by omega
     subst ho0
     simp -implicitDefEqProofs (disch:=omega) [gz,hlt',hjl,hjl',wrap64]
     subst hL2
     refine ⟨S,hSl,hS,fun t h1 h2=>?_,?_,at_mk (by simp) rfl⟩
     ·rcases htail with ⟨_,ht⟩ | ⟨_,_,ht⟩
      ·exact ht t (by omega) h2
      ·exact ht t h1 h2
     ·have e:=pv_all (s:=b) (i:=j) (by omega)
      rw [Nat.mul_zero,Nat.add_zero,e] at hval
      rw [hval,pa,Nat.add_mul,Nat.mul_assoc]
   ·rintro _ ⟨S,hSl,hS,htail,hval,sl,rfl⟩
    simp -implicitDefEqProofs (disch:=omega) [gz,wrap64]
    subst hJ
    refine wk_nil [0] [0,1,5,6] rfl ⟨a.size-(i+1),by omega,i+1,S,by omega,rfl,hSl,hS,htail,hval,?_⟩
    simp [phi,O.ren,C.ren]
  ·have hlt':¬ (i:Int)<(a.size:Int):=by omega
   have:i=a.size:=by omega
   subst this
   simp -implicitDefEqProofs (disch:=omega) [gz,hlt,hlt']
   subst hL
   exact ⟨S,hSl,hS,by rw [hval,pv_all (Nat.le_refl _)],at_mk (by simp) rfl⟩
 ·rintro _ ⟨S,hSl,hS,hval,sl,rfl⟩
  simp -implicitDefEqProofs (disch:=omega) [gz,b1168_3,b1168_4,wrap64,fillR]
  obtain ⟨B,hB⟩:∃ B,B=S.map UInt8.ofNat:=⟨_,rfl⟩
  have hBl:B.length=N:=by rw [hB,List.length_map,hSl]
  have hBv:Nv.valB B=nV a*nV b:=by rw [hB,valD_bytes hS,hval]
  have tS:(S.map rI).take N=S.map rI:=List.take_of_length_le (by simp [hSl])
  refine loopE (fun k st=>∃ i,i≤N∧k=N-i ∧
    st=⟨ofL [(10,.v (.c (.os 1 1 0 i))),(62,.v (.c (.os 0 1 0 N))),(63,.int .i64 N),(64,.int .i64 i)],[.row 1 (S.map rI),.row 1 ((B.take i).map u8R)]⟩)
   (fun st=>AtS [(10,.v (.c (.os 1 1 0 N)))] [.row 1 (S.map rI),.row 1 (B.map u8R)] st) ?_ ?_ ?_
  ·refine wk_nil [0,1] [10,62,63,64] rfl ⟨_,0,by omega,rfl,?_⟩
   simp [phi,O.ren,C.ren]
  ·rintro J L hJ hL k st ⟨i,hi,rfl,rfl⟩
   by_cases hlt:i<N
   ·have hlt':(i:Int)<(N:Int):=by omega
    have hiS:i<S.length:=by omega
    obtain ⟨x,hx⟩:∃ x,x=nth S i:=⟨_,rfl⟩
    have hxl:x<256:=by rw [hx]; exact hS _ (nth_mem hiS)
    have hws:IntKind.u8.wrap (x:Int)=((UInt8.ofNat x).toNat:Int):=by rw [u8n,Nv.toNat_of hxl,Nat.mod_eq_of_lt hxl]
    have hnext:B.take (i+1)=B.take i ++ [UInt8.ofNat x]:=by
     rw [take_nth (by omega),hB,nth_map _ hiS,hx]
    have hBi:(B.take i).length=i:=by rw [List.length_take]; omega
    have tC:((B.take i).map u8R).take i=(B.take i).map u8R:=List.take_of_length_le (by rw [List.length_map,hBi]; exact Nat.le_refl _)
    obtain ⟨C,hC⟩:∃ C,C=B.take i:=⟨_,rfl⟩
    rw [← hC] at hnext hBi tC ⊢
    simp (maxSteps:=1000000) -implicitDefEqProofs (disch:=omega) [gz,hlt,hlt',wrap64,hSl,hBi,tS,nth_map,← hx,hws,elems,tC,maxLen47,fillR,rI]
    repeat' with_reducible apply And.intro
    all_goals first | omega | kernel_rfl | skip
    subst hJ
    refine wk_nil [0,3] [10,62,63,64] rfl ⟨N-(i+1),by omega,i+1,by omega,rfl,?_⟩
    rw [hnext]
    simp [phi,O.ren,u8R]
   ·have hlt':¬ (i:Int)<(N:Int):=by omega
    have:i=N:=by omega
    subst this
    simp -implicitDefEqProofs (disch:=omega) [gz,hlt,hlt']
    subst hL
    have e:List.take i (B.map u8R)=B.map u8R:=List.take_of_length_le (by rw [List.length_map]; omega)
    rw [e]
    exact at_mk (by simp) rfl
  ·rintro _ ⟨sl,rfl⟩
   have tC:(B.map u8R).take N=B.map u8R:=List.take_of_length_le (by simp [hBl])
   have g3:=xg1149 ⟨B.toArray⟩ (by show B.toArray.size<_; simp; omega)
   have hv:nV ⟨B.toArray⟩=nV a*nV b:=by
    show Nv.valB B.toArray.toList=_
    rw [List.toList_toArray,hBv]
   rw [hv,← hR] at g3
   simp -implicitDefEqProofs (disch:=omega) [gz,b1168_5,b1168_6,wrap64,hBl,elems,tC,bytR_u8,s3,g3]
   exact fin_nil ⟨rfl,rfl⟩
def x1168:XE:=mkX true (fun (p:ByteArray×ByteArray)=>[.c (.v (.string p.1)),.c (.v (.string p.2))]) (fun p=>p.1.size<1099511627776∧p.2.size<1099511627776) (fun p=>.str (nB (nV p.1*nV p.2)))
theorem kx1168:Contract prog G0 139 x1168:=mkX_scal (fun _=>rfl) fun p h=>k1168 p.1 p.2 h.1 h.2
theorem xg1168 (a b:ByteArray) (ha:a.size<1099511627776) (hb:b.size<1099511627776):x1168.g [.c (.v (.string a)),.c (.v (.string b))]=some (True,.str (nB (nV a*nV b))):=mkX_g inj2s (a,b) ⟨ha,hb⟩
theorem k1151 (a:ByteArray) (n:Nat) (ha:a.size<1099511627776) (hn:n<256):ACalls prog G0 167 [Sx a,I n] [] fun t H=>t = .str (nB (nV a*n))∧H=[]:=by
 have s1:x1168.sc=true:=rfl
 have g1:=xg1168 a ⟨#[UInt8.ofNat n]⟩ ha (by show 1<_; decide)
 have hv:nV ⟨#[UInt8.ofNat n]⟩=n:=by
  show (UInt8.ofNat n).toNat+256*0=n
  rw [Nv.toNat_of hn]; omega
 rw [hv] at g1
 have hws:IntKind.u8.wrap (n:Int)=((UInt8.ofNat n).toNat:Int):=by rw [u8n,Nv.toNat_of hn,Nat.mod_eq_of_lt hn]
 have hb:=bytR_u8 [UInt8.ofNat n]
 obtain ⟨c,hc⟩:∃ c,c=UInt8.ofNat n:=⟨_,rfl⟩
 rw [← hc] at g1 hws hb
 simp only [List.map_cons,List.map_nil,u8R] at hb
 refine acallsX (X:=[(139,x1168)]) ⟨kx1168,trivial⟩ tab hmix func167 c1151 (by rfl) fun hw=>?_
 simp -implicitDefEqProofs (disch:=omega) [gz,ir1151,b1151,wrap64,hws,elems,hb,s1,g1,fillR]
 exact fin_nil ⟨rfl,rfl⟩
def x1151:XE:=mkX true (fun (p:ByteArray×Nat)=>[.c (.v (.string p.1)),.c (.v (.int .i64 (p.2:Int)))]) (fun p=>p.1.size<1099511627776∧p.2<256) (fun p=>.str (nB (nV p.1*p.2)))
theorem kx1151:Contract prog G0 167 x1151:=mkX_scal (fun _=>rfl) fun p h=>k1151 p.1 p.2 h.1 h.2
theorem xg1151 (a:ByteArray) (n:Nat) (ha:a.size<1099511627776) (hn:n<256):x1151.g [.c (.v (.string a)),.c (.v (.int .i64 (n:Int)))]=some (True,.str (nB (nV a*n))):=mkX_g (fun a b h=>by
 simp only [List.cons.injEq,PVo.c.injEq,D.v.injEq,Value.string.injEq,Value.int.injEq,true_and,and_true] at h
 exact Prod.ext h.1 (by omega)) (a,n) ⟨ha,hn⟩
theorem bl8_app (s t:ByteArray):bl8 (s ++ t)=bl8 s ++ bl8 t:=by
 unfold bl8
 rw [ByteArray.data_append,Array.toList_append]
theorem natV_app (s t:ByteArray):nV (s ++ t)=nV s+256^s.size*nV t:=by
 show Nv.valB (bl8 (s ++ t))=_
 rw [bl8_app,Nv.valB_app]; rfl
theorem bl8_one {a:ByteArray} {i:Nat} (h:i<a.size):bl8 (a.extract i (i+1))=[a.data[i]?.getD 0]:=by
 unfold bl8
 rw [ByteArray.data_extract,Array.toList_extract]
 have hl:i<a.data.toList.length:=h
 rw [List.extract_eq_take_drop,show i+1-i=1 by omega,List.drop_eq_getElem_cons hl]
 have hz:a.data[i]?.getD 0=a.data.toList[i]:=by
  rw [Array.getElem?_eq_getElem (by exact h)]; rfl
 rw [hz]; rfl
theorem one_val {a:ByteArray} {i:Nat} (h:i<a.size) (t:ByteArray):nV (a.extract i (i+1) ++ t)=bt a i+256*nV t:=by
 rw [natV_app]
 have hs:(a.extract i (i+1)).size=1:=by show (bl8 (a.extract i (i+1))).length=1; rw [bl8_one h]; rfl
 have hv:nV (a.extract i (i+1))=bt a i:=by
  show Nv.valB (bl8 (a.extract i (i+1)))=_
  rw [bl8_one h]
  show (a.data[i]?.getD 0).toNat+256*0=_
  rfl
 rw [hs,hv,Nat.pow_one]
theorem one_size {a:ByteArray} {i:Nat} (h:i<a.size) (t:ByteArray):(a.extract i (i+1) ++ t).size=1+t.size:=by
 show (bl8 (a.extract i (i+1) ++ t)).length=_
 rw [bl8_app,bl8_one h]; simp [bl8_len]; omega
theorem nB_lt {x:Nat} {s:ByteArray} (h:x<nV s):(nB x).size≤s.size:=Nv.digs_len_le (Nat.lt_trans h (Nv.valB_lt _))
theorem nB_mul {m:Nat} {s:ByteArray} (h:m<256):(nB (nV s*m)).size≤s.size+1:=by
 refine Nv.digs_len_le ?_
 rw [Nat.pow_succ]
 have h1:nV s<256^s.size:=Nv.valB_lt _
 exact Nat.lt_of_le_of_lt (Nat.mul_le_mul_left _ (Nat.le_of_lt h)) (Nat.mul_lt_mul_of_pos_right h1 (by decide))
theorem valB_drop {l:List UInt8} {i:Nat} (h:i<l.length):Nv.valB (l.drop i)=l[i].toNat+256*Nv.valB (l.drop (i+1)):=by
 rw [List.drop_eq_getElem_cons h]; rfl
theorem u8R_set (Q:List UInt8) (i m:Nat) (hm:m<256):(Q.map u8R).set i [.v (.int .u8 (m:Int))]=(Q.set i (UInt8.ofNat m)).map u8R:=by
 rw [List.map_set]
 congr 1
 simp [u8R,Nat.mod_eq_of_lt hm]
theorem k1131 (a b:ByteArray) (ha:a.size<549755813888) (hb:b.size<549755813888) (hD:0<nV b):ACalls prog G0 156 [Sx a,Sx b] [] fun t H=>t = .tup [Sx (nB (nV a / nV b)),Sx (nB (nV a % nV b)),.c (.d (.v (.bool true)))]∧H=[]:=by
 have s1:x1149.sc=true:=rfl
 have s2:x1150.sc=true:=rfl
 have s3:x1151.sc=true:=rfl
 have s4:x1152.sc=true:=rfl
 have g0:=xg1149 b (by omega)
 obtain ⟨D,hDd⟩:∃ D,D=nV b:=⟨_,rfl⟩
 have hne:¬ nB D=⟨#[]⟩:=fun q=>by
  have:Nv.natV (nB D)=D:=Nv.natV_natB D
  rw [q] at this
  have h0:Nv.natV ⟨#[]⟩=0:=rfl
  omega
 obtain ⟨bb,hbb⟩:∃ x,x=nB D:=⟨_,rfl⟩
 rw [← hDd,← hbb] at g0
 rw [← hbb] at hne
 obtain ⟨R1,hR1⟩:∃ R,R=nB (nV a / nV b):=⟨_,rfl⟩
 obtain ⟨R2,hR2⟩:∃ R,R=nB (nV a % nV b):=⟨_,rfl⟩
 rw [← hR1,← hR2]
 refine acallsX (X:=[(158,x1149),(160,x1150),(167,x1151),(138,x1152)]) ⟨kx1149,kx1150,kx1151,kx1152,trivial⟩ tab hmix func156 c1131 (by rfl) fun hw=>?_
 simp -implicitDefEqProofs (disch:=omega) [gz,ir1131,b1131,b1131_0,b1131_1,b1131_2,b1131_3,b1131_4,wrap64,s1,g0,hne,binSF,maxLen47]
 repeat' with_reducible apply And.intro
 all_goals first | omega | kernel_rfl | skip
 refine loopE (fun k st=>∃ (t r:Nat) (Q:List UInt8),t≤a.size∧k=a.size-t∧Q.length=a.size∧r<D∧Nv.valB ((bl8 a).drop (a.size-t))=Nv.valB (Q.drop (a.size-t))*D+r ∧
   st=⟨ofL [(0,.v (.c (.d (.v (.string a))))),(1,.v (.c (.d (.v (.string b))))),(7,.v (.c (.os 0 1 0 a.size))),(8,.v (.c (.d (.v (.string (nB r)))))),(9,.int .i64 ((a.size:Int)-1-(t:Int)))],[.row 1 (Q.map u8R)]⟩)
  (fun st=>∃ (r:Nat) (Q:List UInt8),Q.length=a.size∧r<D∧nV a=Nv.valB Q*D+r∧AtS [(7,.v (.c (.os 0 1 0 a.size))),(8,.v (.c (.d (.v (.string (nB r))))))] [.row 1 (Q.map u8R)] st) ?_ ?_ ?_
 ·refine wk_nil [0] [0,1,7,8,9] rfl ⟨_,0,0,List.replicate a.size 0,by omega,rfl,by simp,by omega,?_,?_⟩
  ·rw [Nat.sub_zero,List.drop_eq_nil_of_le (by rw [bl8_len]; omega),List.drop_eq_nil_of_le (by simp)]
   simp [Nv.valB]
  ·have h0:nB 0=⟨#[]⟩:=Nv.natB_0
   simp [phi,O.ren,C.ren,u8R,h0]
 ·rintro J L hJ hL k st ⟨t,r,Q,ht,rfl,hQl,hrD,hval,rfl⟩
  by_cases hlt:t<a.size
  ·obtain ⟨i,hi⟩:∃ i,i=a.size-(t+1):=⟨_,rfl⟩
   have hia:i<a.size:=by omega
   have hii:(a.size:Int)-1-(t:Int)=(i:Int):=by omega
   have hi0:(0:Int)≤(i:Int):=by omega
   have hi1:(i:Int)≤(i:Int)+1:=by omega
   have hi2:(i:Int)+1≤(a.size:Int):=by omega
   have htn:((i:Int)+1).toNat=i+1:=by omega
   have hin:(a.size:Int)-1-((t+1:Nat):Int)=(i:Int)-1:=by omega
   rw [show a.size-t=i+1 from by omega] at hval
   have hrs:=nB_lt (x:=r) (s:=b) (by omega)
   have g1:=xg1149 (a.extract i (i+1) ++ nB r) (by rw [one_size hia]; omega)
   rw [one_val hia,show nV (nB r)=r from Nv.natV_natB r] at g1
   have hbl:=bt_lt a i
   obtain ⟨W,hW⟩:∃ W,W=bt a i+256*r:=⟨_,rfl⟩
   rw [← hW] at g1
   have hWD:W<256*D:=by omega
   have hWq:W / D<256:=by rw [Nat.div_lt_iff_lt_mul (by omega)]; exact hWD
   have hWs:(nB W).size≤b.size+1:=by
    refine Nv.digs_len_le ?_
    rw [Nat.pow_succ]
    have h1:nV b<256^b.size:=Nv.valB_lt _
    omega
   have hWv:nV (nB W)=W:=Nv.natV_natB W
   simp -implicitDefEqProofs (disch:=omega) [gz,wrap64,hii,hi0,hi1,hi2,htn,binSF,s1,g1]
   have hlow:0≤W / D:=Nat.zero_le _
   repeat' with_reducible apply And.intro
   all_goals first | omega | kernel_rfl | skip
   refine loopE (fun k st=>∃ lo hi:Nat,lo≤hi∧hi≤255∧lo≤W / D∧W / D≤hi∧k=hi-lo ∧
     st=⟨ofL [(0,.v (.c (.d (.v (.string a))))),(1,.v (.c (.d (.v (.string b))))),(7,.v (.c (.os 0 1 0 a.size))),(8,.v (.c (.d (.v (.string (nB W)))))),(9,.int .i64 i),(10,.int .i64 lo),(11,.int .i64 hi)],[.row 1 (Q.map u8R)]⟩)
    (fun st=>AtS [(0,.v (.c (.d (.v (.string a))))),(1,.v (.c (.d (.v (.string b))))),(7,.v (.c (.os 0 1 0 a.size))),(8,.v (.c (.d (.v (.string (nB W)))))),(9,.int .i64 i),(10,.int .i64 ((W / D:Nat):Int))] [.row 1 (Q.map u8R)] st) ?_ ?_ ?_
   ·refine wk_nil [0] [0,1,7,8,9,10,11] rfl ⟨_,0,255,by omega,by omega,hlow,by omega,rfl,?_⟩
    simp [phi,O.ren,C.ren]
   ·rintro J2 L2 hJ2 hL2 k2 st2 ⟨lo,hi,hlh,hh,h1,h2,rfl,rfl⟩
    by_cases hlt2:lo<hi
    ·have hlt2':(lo:Int)<(hi:Int):=by omega
     obtain ⟨sm,hsm⟩:∃ s,s=lo+hi+1:=⟨_,rfl⟩
     obtain ⟨mid,hmid⟩:∃ m,m=sm / 2:=⟨_,rfl⟩
     have hsi:(lo:Int)+(hi:Int)+1=(sm:Int):=by omega
     have hmi:(sm:Int).tdiv 2=(mid:Int):=by rw [hmid]; exact (Int.ofNat_tdiv sm 2).symm
     have hm256:mid<256:=by omega
     have g3:=xg1151 b mid (by omega) hm256
     have hms:=nB_mul (s:=b) hm256
     have g2:=xg1150 (nB (nV b*mid)) (nB W) (by omega) (by omega)
     rw [hWv,show nV (nB (nV b*mid))=nV b*mid from Nv.natV_natB _,← hDd] at g2
     rw [← hDd] at g3
     obtain ⟨z,hz⟩:∃ z,z=nB (D*mid):=⟨_,rfl⟩
     rw [← hz] at g2 g3
     by_cases hc:D*mid≤W
     ·have hle:mid≤W / D:=(Nat.le_div_iff_mul_le (by omega)).2 (by rw [Nat.mul_comm]; exact hc)
      have hcm:cmpN (D*mid) W≤0:=by unfold cmpN; split <;> (try split) <;> omega
      simp -implicitDefEqProofs (disch:=omega) [gz,hlt2,hlt2',wrap64,hsi,hmi,s3,g3,s2,g2,hcm]
      subst hJ2
      refine wk_nil [0] [0,1,7,8,9,10,11] rfl ⟨hi-mid,by omega,mid,hi,by omega,hh,hle,h2,rfl,?_⟩
      simp [phi,O.ren,C.ren]
     ·have hle:W / D<mid:=(Nat.div_lt_iff_lt_mul (by omega)).2 (by rw [Nat.mul_comm]; omega)
      have hcm:¬ cmpN (D*mid) W≤0:=by unfold cmpN; rw [if_neg (by omega),if_pos (by omega)]; omega
      have hcm2:0<cmpN (D*mid) W:=by omega
      have hm1:(mid:Int)-1=((mid-1:Nat):Int):=by omega
      simp -implicitDefEqProofs (disch:=omega) [gz,hlt2,hlt2',wrap64,hsi,hmi,s3,g3,s2,g2,hcm,hcm2]
      subst hJ2
      refine wk_nil [0] [0,1,7,8,9,10,11] rfl ⟨mid-1-lo,by omega,lo,mid-1,by omega,by omega,h1,by omega,rfl,?_⟩
      rw [← hm1]
      simp [phi,O.ren,C.ren]
    ·have:lo=hi:=by omega
     subst this
     have hlt2':¬ (lo:Int)<(lo:Int):=by omega
     have hq:W / D=lo:=by omega
     simp -implicitDefEqProofs (disch:=omega) [gz,hlt2,hlt2']
     subst hL2
     rw [hq]
     exact at_mk (by simp) rfl
   ·rintro _ ⟨sl,rfl⟩
    obtain ⟨q,hq⟩:∃ q,q=W / D:=⟨_,rfl⟩
    rw [← hq] at hWq ⊢
    have g3:=xg1151 b q (by omega) hWq
    have hms:=nB_mul (s:=b) hWq
    have hDq:D*q≤W:=by rw [hq]; exact Nat.mul_div_le W D
    have hmod:W-D*q=W % D:=by
     have:=Nat.div_add_mod W D
     rw [← hq] at this; omega
    have hdq:nV (nB (nV b*q))=nV b*q:=Nv.natV_natB _
    have g4:=xg1152 (nB W) (nB (nV b*q)) (by omega) (by omega) (by rw [hWv,hdq,← hDd]; exact hDq)
    rw [hWv,hdq,← hDd,hmod] at g4
    rw [← hDd] at g3
    obtain ⟨z,hz⟩:∃ z,z=nB (D*q):=⟨_,rfl⟩
    rw [← hz] at g3 g4
    have hws:IntKind.u8.wrap (q:Int)=(q:Int):=by rw [u8n,Nat.mod_eq_of_lt hWq]
    have hset:=u8R_set Q i q hWq
    have hia2:(i:Int)<(a.size:Int):=by omega
    have hiQ:i<Q.length:=by omega
    have tQ:(Q.map u8R).take a.size=Q.map u8R:=List.take_of_length_le (by simp [hQl])
    simp -implicitDefEqProofs (disch:=omega) [gz,wrap64,s3,g3,s4,g4,hws,hia,hia2,hiQ,hQl,tQ,fillC,splice,u8R]
    subst hJ
    refine wk_nil [0] [0,1,7,8,9] rfl ⟨a.size-(t+1),by omega,t+1,W % D,Q.set i (UInt8.ofNat q),by omega,rfl,by simp [hQl],Nat.mod_lt _ (by omega),?_,?_⟩
    ·rw [← hi,valB_drop (l:=bl8 a) (by rw [bl8_len]; exact hia),hval,valB_drop (l:=Q.set i (UInt8.ofNat q)) (by simp [hQl]; exact hia)]
     have e1:(Q.set i (UInt8.ofNat q))[i]'(by simp [hQl]; exact hia)=UInt8.ofNat q:=by simp
     have e2:(Q.set i (UInt8.ofNat q)).drop (i+1)=Q.drop (i+1):=by rw [List.drop_set_of_lt (by omega)]
     have e3:((bl8 a)[i]'(by rw [bl8_len]; exact hia)).toNat=bt a i:=by unfold bt; rw [bl8_at]; exact (congrArg UInt8.toNat (bl8_get hia)).symm
     rw [e1,e2,e3,Nv.toNat_of hWq,Nat.add_mul,Nat.mul_assoc]
     have:=Nat.div_add_mod W D
     rw [← hq,Nat.mul_comm] at this
     omega
    ·have hnt:(nth (Q.map u8R) i).tail=[]:=by rw [nth_map _ hiQ]; rfl
     rw [hin,← hset]
     simp [phi,O.ren,C.ren,hnt]
  ·have:t=a.size:=by omega
   subst this
   have hneg:¬ (0:Int)≤(a.size:Int)-1-(a.size:Int):=by omega
   have hneg2:¬ (a.size:Int)≤(a.size:Int)-1:=by omega
   rw [Nat.sub_self,List.drop_zero,List.drop_zero] at hval
   simp -implicitDefEqProofs (disch:=omega) [gz,hneg,hneg2]
   subst hL
   exact ⟨r,Q,hQl,hrD,hval,at_mk (by simp) rfl⟩
 ·rintro _ ⟨r,Q,hQl,hrD,hval,sl,rfl⟩
  have tC:(Q.map u8R).take a.size=Q.map u8R:=List.take_of_length_le (by simp [hQl])
  have g3:=xg1149 ⟨Q.toArray⟩ (by show Q.toArray.size<_; simp; omega)
  have hq:nV a / nV b=Nv.valB Q:=by
   rw [hval,← hDd,Nat.mul_comm,Nat.mul_add_div (by omega),Nat.div_eq_of_lt hrD,Nat.add_zero]
  have hr:nV a % nV b=r:=by
   rw [hval,← hDd,Nat.mul_comm,Nat.mul_add_mod,Nat.mod_eq_of_lt hrD]
  have hv:nV ⟨Q.toArray⟩=nV a / nV b:=by
   show Nv.valB Q.toArray.toList=_
   rw [List.toList_toArray,hq]
  rw [hv,← hR1] at g3
  rw [hr] at hR2
  rw [← hR2]
  simp -implicitDefEqProofs (disch:=omega) [gz,b1131_5,b1131_6,wrap64,hQl,elems,tC,bytR_u8,s1,g3]
  exact fin_nil ⟨rfl,rfl⟩
def x1131:XE:=mkX true (fun (p:ByteArray×ByteArray)=>[.c (.v (.string p.1)),.c (.v (.string p.2))]) (fun p=>p.1.size<549755813888∧p.2.size<549755813888∧0<nV p.2) (fun p=>.tup [Sx (nB (nV p.1 / nV p.2)),Sx (nB (nV p.1 % nV p.2)),.c (.d (.v (.bool true)))])
theorem kx1131:Contract prog G0 156 x1131:=mkX_scal (fun _=>rfl) fun p h=>k1131 p.1 p.2 h.1 h.2.1 h.2.2
theorem xg1131 (a b:ByteArray) (ha:a.size<549755813888) (hb:b.size<549755813888) (hD:0<nV b):x1131.g [.c (.v (.string a)),.c (.v (.string b))]=some (True,.tup [Sx (nB (nV a / nV b)),Sx (nB (nV a % nV b)),.c (.d (.v (.bool true)))]):=mkX_g inj2s (a,b) ⟨ha,hb,hD⟩
theorem nB_ne {n:Nat} (h:0<n):¬ nB n=⟨#[]⟩:=fun q=>by
 have:Nv.natV (nB n)=n:=Nv.natV_natB n
 rw [q] at this
 have h0:Nv.natV ⟨#[]⟩=0:=rfl
 omega
theorem k1130 (a b:ByteArray) (ha:a.size<549755813888) (hb:b.size<549755813888):ACalls prog G0 155 [Sx a,Sx b] [] fun t H=>t = .str (nB (Nat.gcd (nV a) (nV b)))∧H=[]:=by
 have s1:x1149.sc=true:=rfl
 have s2:x1131.sc=true:=rfl
 have g1:=xg1149 a (by omega)
 have g2:=xg1149 b (by omega)
 have hsa:=nB_le (s:=a)
 have hsb:=nB_le (s:=b)
 obtain ⟨R,hR⟩:∃ R,R=Nat.gcd (nV a) (nV b):=⟨_,rfl⟩
 obtain ⟨A,hA⟩:∃ A,A=nV a:=⟨_,rfl⟩
 obtain ⟨B,hB⟩:∃ B,B=nV b:=⟨_,rfl⟩
 rw [← hR]
 rw [← hA] at g1 hsa hR
 rw [← hB] at g2 hsb hR
 refine acallsX (X:=[(158,x1149),(156,x1131)]) ⟨kx1149,kx1131,trivial⟩ tab hmix func155 c1130 (by rfl) fun hw=>?_
 simp -implicitDefEqProofs (disch:=omega) [gz,ir1130,b1130,s1,g1,g2]
 refine loopE (fun k st=>∃ x:Nat,Nat.gcd x k=R∧(nB x).size<549755813888∧(nB k).size<549755813888 ∧
   st=⟨ofL [(5,.v (.c (.d (.v (.string (nB x)))))),(6,.v (.c (.d (.v (.string (nB k))))))],[]⟩)
  (fun st=>AtS [(5,.v (.c (.d (.v (.string (nB R))))))] [] st) ?_ ?_ ?_
 ·refine wk_keep [5,6] ⟨B,A,hR.symm,by omega,by omega,?_⟩
  simp
 ·rintro J L hJ hL k st ⟨x,hg,hx,hk,rfl⟩
  by_cases hk0:k=0
  ·subst hk0
   have h0:nB 0=⟨#[]⟩:=Nv.natB_0
   rw [Nat.gcd_zero_right] at hg
   subst hg
   simp -implicitDefEqProofs (disch:=omega) [gz,h0,binSF]
   subst hL
   exact at_mk (by simp) rfl
  ·have hkp:0<k:=by omega
   have hne:=nB_ne hkp
   have hv1:nV (nB x)=x:=Nv.natV_natB x
   have hv2:nV (nB k)=k:=Nv.natV_natB k
   have g3:=xg1131 (nB x) (nB k) hx hk (by omega)
   rw [hv1,hv2] at g3
   have hms:=nB_lt (x:=x % k) (s:=nB k) (by rw [hv2]; exact Nat.mod_lt _ hkp)
   obtain ⟨y,hy⟩:∃ y,y=nB k:=⟨_,rfl⟩
   rw [← hy] at g3 hne ⊢
   simp -implicitDefEqProofs (disch:=omega) [gz,hne,binSF,s2,g3]
   subst hJ
   refine wk_keep [5,6] ⟨x % k,Nat.mod_lt _ hkp,k,?_,by omega,by omega,?_⟩
   ·rw [← hg,Nat.gcd_comm x k,Nat.gcd_comm k (x % k),← Nat.gcd_rec]
   ·rw [← hy]; simp
 ·rintro _ ⟨sl,rfl⟩
  simp -implicitDefEqProofs (disch:=omega) [gz,wrap64]
  exact fin_nil ⟨rfl,rfl⟩
def x1130:XE:=mkX true (fun (p:ByteArray×ByteArray)=>[.c (.v (.string p.1)),.c (.v (.string p.2))]) (fun p=>p.1.size<549755813888∧p.2.size<549755813888) (fun p=>.str (nB (Nat.gcd (nV p.1) (nV p.2))))
theorem kx1130:Contract prog G0 155 x1130:=mkX_scal (fun _=>rfl) fun p h=>k1130 p.1 p.2 h.1 h.2
theorem xg1130 (a b:ByteArray) (ha:a.size<549755813888) (hb:b.size<549755813888):x1130.g [.c (.v (.string a)),.c (.v (.string b))]=some (True,.str (nB (Nat.gcd (nV a) (nV b)))):=mkX_g inj2s (a,b) ⟨ha,hb⟩
theorem nvB (n:Nat):nV (nB n)=n:=Nv.natV_natB n
theorem k1129 (neg:Bool) (mag:ByteArray) (h:mag.size<549755813888):ACalls prog G0 134 [.c (.d (.v (.bool neg))),Sx mag] [] fun t H=>t = .v (iV neg (nV mag))∧H=[]:=by
 have s1:x1149.sc=true:=rfl
 have g1:=xg1149 mag (by omega)
 refine acallsX (X:=[(158,x1149)]) ⟨kx1149,trivial⟩ tab hmix func134 c1129 (by rfl) fun hw=>?_
 obtain ⟨n,hn⟩:∃ n,n=nV mag:=⟨_,rfl⟩
 rw [← hn] at g1 ⊢
 unfold iV
 cases neg
 ·obtain ⟨m,hm⟩:∃ m,m=nB n:=⟨_,rfl⟩
  rw [← hm] at g1 ⊢
  simp -implicitDefEqProofs (disch:=omega) [gz,ir1129,b1129,s1,g1,fillC,splice,binSF]
  exact fin_nil ⟨by simp,rfl⟩
 ·by_cases c:n=0
  ·have hE:nB n=⟨#[]⟩:=nB_nil.2 c
   rw [hE] at g1 ⊢
   rw [decide_eq_true c]
   simp -implicitDefEqProofs (disch:=omega) [gz,ir1129,b1129,s1,g1,fillC,splice,binSF]
   exact fin_nil ⟨rfl,rfl⟩
  ·have hE:¬ nB n=⟨#[]⟩:=fun q=>c (nB_nil.1 q)
   obtain ⟨m,hm⟩:∃ m,m=nB n:=⟨_,rfl⟩
   rw [← hm] at g1 hE ⊢
   rw [decide_eq_false c]
   simp -implicitDefEqProofs (disch:=omega) [gz,ir1129,b1129,s1,g1,hE,fillC,splice,binSF]
   exact fin_nil ⟨rfl,rfl⟩
def x1129:XE:=mkX true (fun (p:Bool×ByteArray)=>[.c (.v (.bool p.1)),.c (.v (.string p.2))]) (fun p=>p.2.size<549755813888) (fun p=>.v (iV p.1 (nV p.2)))
theorem kx1129:Contract prog G0 134 x1129:=mkX_scal (fun _=>rfl) fun p h=>k1129 p.1 p.2 h
theorem xg1129 (neg:Bool) (mag:ByteArray) (h:mag.size<549755813888):x1129.g [.c (.v (.bool neg)),.c (.v (.string mag))]=some (True,.v (iV neg (nV mag))):=mkX_g injBS (neg,mag) h
theorem k1114 (neg:Bool) (mag:ByteArray) (h:mag.size<549755813888):ACalls prog G0 130 [intV neg mag] [] fun t H=>t = .v (iV neg (nV mag))∧H=[]:=by
 have s1:x1129.sc=true:=rfl
 have g1:=xg1129 neg mag h
 refine acallsX (X:=[(134,x1129)]) ⟨kx1129,trivial⟩ tab hmix func130 c1114 (by rfl) fun hw=>?_
 obtain ⟨n,hn⟩:∃ n,n=nV mag:=⟨_,rfl⟩
 rw [← hn] at g1 ⊢
 unfold iV at g1 ⊢
 obtain ⟨b,hb⟩:∃ b,b=(neg && !decide (n=0)):=⟨_,rfl⟩
 rw [← hb] at g1 ⊢
 simp -implicitDefEqProofs (disch:=omega) [gz,ir1114,b1114,s1,g1,fillC,splice]
 exact fin_nil ⟨rfl,rfl⟩
def x1114:XE:=mkX true (fun (p:Bool×ByteArray)=>[intP p.1 p.2]) (fun p=>p.2.size<549755813888) (fun p=>.v (iV p.1 (nV p.2)))
theorem kx1114:Contract prog G0 130 x1114:=mkX_scal (fun _=>rfl) fun p h=>k1114 p.1 p.2 h
theorem xg1114 (neg:Bool) (mag:ByteArray) (h:mag.size<549755813888):x1114.g [intP neg mag]=some (True,.v (iV neg (nV mag))):=mkX_g injIA (neg,mag) h
theorem k1132 (neg:Bool) (mag:ByteArray) (h:mag.size<549755813888):ACalls prog G0 140 [intV neg mag] [] fun t H=>t = .int .i64 (sgnI neg (nV mag))∧H=[]:=by
 have s1:x1149.sc=true:=rfl
 have g1:=xg1149 mag (by omega)
 refine acallsX (X:=[(158,x1149)]) ⟨kx1149,trivial⟩ tab hmix func140 c1132 (by rfl) fun hw=>?_
 obtain ⟨n,hn⟩:∃ n,n=nV mag:=⟨_,rfl⟩
 rw [← hn] at g1 ⊢
 unfold sgnI
 by_cases c:n=0
 ·rw [if_pos c]
  have hE:nB n=⟨#[]⟩:=nB_nil.2 c
  rw [hE] at g1
  simp -implicitDefEqProofs (disch:=omega) [gz,ir1132,b1132,s1,g1,fillC,splice,binSF]
  exact fin_nil ⟨rfl,rfl⟩
 ·rw [if_neg c]
  have hE:¬ nB n=⟨#[]⟩:=fun q=>c (nB_nil.1 q)
  obtain ⟨m,hm⟩:∃ m,m=nB n:=⟨_,rfl⟩
  rw [← hm] at hE g1
  cases neg
  ·simp -implicitDefEqProofs (disch:=omega) [gz,ir1132,b1132,s1,g1,hE,fillC,splice,binSF]
   exact fin_nil ⟨rfl,rfl⟩
  ·simp -implicitDefEqProofs (disch:=omega) [gz,ir1132,b1132,s1,g1,hE,fillC,splice,binSF]
   exact fin_nil ⟨rfl,rfl⟩
def x1132:XE:=mkX true (fun (p:Bool×ByteArray)=>[intP p.1 p.2]) (fun p=>p.2.size<549755813888) (fun p=>.int .i64 (sgnI p.1 (nV p.2)))
theorem kx1132:Contract prog G0 140 x1132:=mkX_scal (fun _=>rfl) fun p h=>k1132 p.1 p.2 h
theorem xg1132 (neg:Bool) (mag:ByteArray) (h:mag.size<549755813888):x1132.g [intP neg mag]=some (True,.int .i64 (sgnI neg (nV mag))):=mkX_g injIA (neg,mag) h
theorem k1155 (n:Nat) (h:n<18446744073709551616):ACalls prog G0 135 [.c (.d (.v (.int .u64 (n:Int))))] [] fun t H=>t = .str (nB n)∧H=[]:=by
 have hlen:(Nv.digs n).length≤8:=Nv.digs_len_le (by omega)
 obtain ⟨Dn,hD⟩:∃ d,d=Nv.digs n:=⟨_,rfl⟩
 rw [← hD] at hlen
 refine acallsX (X:=[]) trivial tab hmix func135 c1155 (by rfl) fun hw=>?_
 simp -implicitDefEqProofs (disch:=omega) [gz,ir1155,b1155,fillR]
 refine loopE (fun k st=>k<18446744073709551616∧∃ out:List UInt8,out ++ Nv.digs k=Dn ∧
   st=⟨ofL [(0,.v (.c (.d (.v (.int .u64 (k:Int)))))),(3,.v (.c (.os 0 1 0 out.length)))],[.row 1 (out.map u8R)]⟩)
  (fun st=>AtS [(3,.v (.c (.os 0 1 0 Dn.length)))] [.row 1 (Dn.map u8R)] st) ?_ ?_ ?_
 ·refine wk_nil [0] [0,3] rfl ⟨n,h,[],by rw [hD]; rfl,?_⟩
  simp [phi,O.ren,C.ren]
 ·rintro J L hJ hL k st ⟨hk,out,ho,rfl⟩
  by_cases hk0:k=0
  ·subst hk0
   rw [Nv.digs_zero,List.append_nil] at ho
   subst ho
   simp -implicitDefEqProofs (disch:=omega) [gz,wrap64]
   subst hL
   exact at_mk (by simp) rfl
  ·have hkp:(0:Int)<(k:Int):=by omega
   have hkn:0<k:=by omega
   have hrem:(k:Int).tmod 256=((k % 256:Nat):Int):=(Int.ofNat_tmod k 256).symm
   have hquo:(k:Int).tdiv 256=((k / 256:Nat):Int):=(Int.ofNat_tdiv k 256).symm
   have hml:k % 256<256:=Nat.mod_lt _ (by decide)
   have hol:out.length≤8:=by
    have:=congrArg List.length ho
    rw [List.length_append] at this; omega
   have hws:IntKind.u8.wrap ((k % 256:Nat):Int)=((UInt8.ofNat (k % 256)).toNat:Int):=by rw [u8n,Nv.toNat_of hml,Nat.mod_eq_of_lt hml]
   have hw64:IntKind.u64.wrap ((k % 256:Nat):Int)=((k % 256:Nat):Int):=u64w (by omega)
   have hw64b:IntKind.u64.wrap ((k / 256:Nat):Int)=((k / 256:Nat):Int):=u64w (by omega)
   have tC:(out.map u8R).take out.length=out.map u8R:=List.take_of_length_le (by simp)
   obtain ⟨d,hd⟩:∃ d,d=k % 256:=⟨_,rfl⟩
   obtain ⟨q,hq⟩:∃ q,q=k / 256:=⟨_,rfl⟩
   rw [← hd] at hrem hws hw64
   rw [← hq] at hquo hw64b
   obtain ⟨c,hc⟩:∃ c,c=UInt8.ofNat d:=⟨_,rfl⟩
   rw [← hc] at hws
   simp -implicitDefEqProofs (disch:=omega) [gz,hkp,hkn,hk0,hrem,hquo,hw64,hw64b,hws,elems,tC,maxLen47,fillR]
   repeat' with_reducible apply And.intro
   all_goals first | omega | kernel_rfl | skip
   subst hJ
   refine wk_nil [2] [0,3] rfl ⟨q,by omega,by omega,out ++ [c],?_,?_⟩
   ·rw [hc,hd,hq,List.append_assoc,← ho,Nv.digs_pos hk0]; rfl
   ·simp [phi,O.ren,C.ren,u8R]
 ·rintro _ ⟨sl,rfl⟩
  have tC:(Dn.map u8R).take Dn.length=Dn.map u8R:=List.take_of_length_le (by simp)
  simp -implicitDefEqProofs (disch:=omega) [gz,wrap64,elems,tC,bytR_u8]
  exact fin_nil ⟨by rw [hD]; rfl,rfl⟩
def x1155:XE:=mkX true (fun (n:Nat)=>[.c (.v (.int .u64 (n:Int)))]) (fun n=>n<18446744073709551616) (fun n=>.str (nB n))
theorem kx1155:Contract prog G0 135 x1155:=mkX_scal (fun _=>rfl) fun n h=>k1155 n h
theorem xg1155 (n:Nat) (h:n<18446744073709551616):x1155.g [.c (.v (.int .u64 (n:Int)))]=some (True,.str (nB n)):=mkX_g (fun a b h=>by simp at h; omega) n h
theorem k1135 (n:Nat) (h:n<9223372036854775808):ACalls prog G0 93 [I n] [] fun t H=>t = .v (iV false n)∧H=[]:=by
 have s1:x1155.sc=true:=rfl
 have s2:x1129.sc=true:=rfl
 have g1:=xg1155 n (by omega)
 have hsz:(nB n).size≤8:=Nv.digs_len_le (by omega)
 have g2:=xg1129 false (nB n) (by omega)
 rw [nvB] at g2
 have w1:=u64w (n:=n) (by omega)
 have hn:¬ (n:Int)<0:=by omega
 refine acallsX (X:=[(135,x1155),(134,x1129)]) ⟨kx1155,kx1129,trivial⟩ tab hmix func93 c1135 (by rfl) fun hw=>?_
 unfold iV at g2 ⊢
 obtain ⟨b,hb⟩:∃ b,b=(false && !decide (n=0)):=⟨_,rfl⟩
 rw [← hb] at g2 ⊢
 simp -implicitDefEqProofs (disch:=omega) [gz,ir1135,b1135,s1,s2,g1,g2,w1,hn,fillC,splice]
 exact fin_nil ⟨rfl,rfl⟩
def x1135:XE:=mkX true (fun (n:Nat)=>[.c (.v (.int .i64 (n:Int)))]) (fun n=>n<9223372036854775808) (fun n=>.v (iV false n))
theorem kx1135:Contract prog G0 93 x1135:=mkX_scal (fun _=>rfl) fun n h=>k1135 n h
theorem xg1135 (n:Nat) (h:n<9223372036854775808):x1135.g [.c (.v (.int .i64 (n:Int)))]=some (True,.v (iV false n)):=mkX_g (fun a b h=>by simp at h; omega) n h
theorem k1117:ACalls prog G0 94 [] [] fun t H=>t = .v (intV false ⟨#[1]⟩)∧H=[]:=by
 have s1:x1135.sc=true:=rfl
 have g1:=xg1135 1 (by decide)
 unfold iV at g1
 rw [nB_one] at g1
 refine acallsX (X:=[(93,x1135)]) ⟨kx1135,trivial⟩ tab hmix func94 c1117 (by rfl) fun hw=>?_
 have g1':x1135.g [.c (.v (.int .i64 1))]=some (True,.v (intV false ⟨#[1]⟩)):=g1
 simp -implicitDefEqProofs (disch:=omega) [gz,ir1117,b1117,s1,g1',fillC,splice]
 exact fin_nil ⟨rfl,rfl⟩
def x1117:XE:=mkX true (fun (_:Unit)=>[]) (fun _=>True) (fun _=>.v (intV false ⟨#[1]⟩))
theorem kx1117:Contract prog G0 94 x1117:=mkX_scal (fun _=>rfl) fun _ _=>k1117
theorem xg1117:x1117.g []=some (True,.v (intV false ⟨#[1]⟩)):=mkX_g (fun a b h=>rfl) () trivial
def iR (p:Bool×ByteArray):List D:=[.v (.bool p.1),.v (.string p.2)]
theorem gcd_le {g b:Nat}:(nB (Nat.gcd g b)).size≤(nB g).size∨(nB (Nat.gcd g b)).size≤(nB b).size:=by
 rcases Nat.eq_zero_or_pos b with q | q
 ·subst q; rw [Nat.gcd_zero_right]; exact .inl (Nat.le_refl _)
 ·exact .inr (nB_mono (Nat.gcd_le_right _ q))
theorem k1115 (p q:Bool×ByteArray) (hp:p.2.size<4000000000) (hq:q.2.size<4000000000):ACalls prog G0 131 [.c (.d (.sl [iR p,iR q]))] [] fun t H=>t = .v (iV false (Nat.gcd (nV p.2) (nV q.2)))∧H=[]:=by
 have s1:x1130.sc=true:=rfl
 have s2:x1129.sc=true:=rfl
 have g1:=xg1130 ⟨#[]⟩ p.2 (by show 0<_; decide) (by omega)
 rw [show nV ⟨#[]⟩=0 from rfl,Nat.gcd_zero_left] at g1
 have hps:=nB_le (s:=p.2)
 have hqs:=nB_le (s:=q.2)
 have g2:=xg1130 (nB (nV p.2)) q.2 (by omega) (by omega)
 rw [nvB] at g2
 have hgs:(nB (Nat.gcd (nV p.2) (nV q.2))).size<549755813888:=by
  rcases gcd_le (g:=nV p.2) (b:=nV q.2) with h | h <;> omega
 have g3:=xg1129 false (nB (Nat.gcd (nV p.2) (nV q.2))) hgs
 rw [nvB] at g3
 obtain ⟨G,hG⟩:∃ G,G=Nat.gcd (nV p.2) (nV q.2):=⟨_,rfl⟩
 rw [← hG] at g2 g3 ⊢
 unfold iV at g3 ⊢
 obtain ⟨P,hP⟩:∃ P,P=nB (nV p.2):=⟨_,rfl⟩
 rw [← hP] at g1 g2
 obtain ⟨GB,hGB⟩:∃ G',G'=nB G:=⟨_,rfl⟩
 rw [← hGB] at g2 g3 ⊢
 obtain ⟨b,hb⟩:∃ b,b=(false && !decide (G=0)):=⟨_,rfl⟩
 rw [← hb] at g3 ⊢
 refine acallsX (X:=[(155,x1130),(134,x1129)]) ⟨kx1130,kx1129,trivial⟩ tab hmix func131 c1115 (by rfl) fun hw=>?_
 have i1:iR p=[.v (.bool p.1),.v (.string p.2)]:=rfl
 have i2:iR q=[.v (.bool q.1),.v (.string q.2)]:=rfl
 have n0:nth [iR p,iR q] 0=[.v (.bool p.1),.v (.string p.2)]:=rfl
 have n1:nth [iR p,iR q] 1=[.v (.bool q.1),.v (.string q.2)]:=rfl
 simp -implicitDefEqProofs (disch:=omega) [gz,ir1115,b1115]
 refine loopE (fun k st=>∃ (i:Nat) (g:ByteArray),i≤2∧k=2-i∧((i=0∧g=⟨#[]⟩)∨(i=1∧g=P)∨(i=2∧g=GB)) ∧
   st=⟨ofL [(0,.v (.c (.d (.sl [iR p,iR q])))),(2,.v (.c (.ptr 0 0))),(3,.v (.c (.d (.v (.string g))))),(4,.int .i64 i)],[.cells [.d (.v (.bool false)),.d (.v (.string ⟨#[]⟩))]]⟩)
  (fun st=>AtS [(2,.v (.c (.ptr 0 0))),(3,.v (.c (.d (.v (.string GB)))))] [.cells [.d (.v (.bool false)),.d (.v (.string ⟨#[]⟩))]] st) ?_ ?_ ?_
 ·refine wk_nil [0] [0,2,3,4] rfl ⟨_,0,⟨#[]⟩,by omega,rfl,.inl ⟨rfl,rfl⟩,?_⟩
  simp [phi,O.ren,C.ren]
 ·rintro J L hJ hL k st ⟨i,g,hi,rfl,hc,rfl⟩
  rcases hc with ⟨rfl,rfl⟩ | ⟨rfl,rfl⟩ | ⟨rfl,rfl⟩
  ·simp -implicitDefEqProofs (disch:=omega) [gz,n0,s1,g1,wrap64,fillC,splice]
   subst hJ
   refine wk_nil [0] [0,2,3,4] rfl ⟨1,by omega,1,P,by omega,rfl,.inr (.inl ⟨rfl,rfl⟩),?_⟩
   simp [phi,O.ren,C.ren]
  ·simp -implicitDefEqProofs (disch:=omega) [gz,n1,s1,g2,wrap64,fillC,splice]
   subst hJ
   refine wk_nil [0] [0,2,3,4] rfl ⟨2,GB,by omega,rfl,.inr (.inr ⟨rfl,rfl⟩),?_⟩
   simp [phi,O.ren,C.ren]
  ·simp -implicitDefEqProofs (disch:=omega) [gz,wrap64]
   subst hL
   exact at_mk (by simp) rfl
 ·rintro _ ⟨sl,rfl⟩
  simp -implicitDefEqProofs (disch:=omega) [gz,s2,g3,fillC,splice]
  exact fin_nil ⟨rfl,rfl⟩
def x1115:XE:=mkX true (fun (p:(Bool×ByteArray)×(Bool×ByteArray))=>[.c (.sl [iR p.1,iR p.2])]) (fun p=>p.1.2.size<4000000000∧p.2.2.size<4000000000) (fun p=>.v (iV false (Nat.gcd (nV p.1.2) (nV p.2.2))))
theorem kx1115:Contract prog G0 131 x1115:=mkX_scal (fun _=>rfl) fun p h=>k1115 p.1 p.2 h.1 h.2
theorem iR_inj {a b:Bool×ByteArray} (h:iR a=iR b):a=b:=by
 simp [iR] at h; exact Prod.ext h.1 h.2
theorem xg1115 (p q:Bool×ByteArray) (hp:p.2.size<4000000000) (hq:q.2.size<4000000000):x1115.g [.c (.sl [iR p,iR q])]=some (True,.v (iV false (Nat.gcd (nV p.2) (nV q.2)))):=mkX_g (fun a b h=>by
 simp only [List.cons.injEq,PVo.c.injEq,D.sl.injEq,and_true] at h
 exact Prod.ext (iR_inj h.1) (iR_inj h.2)) (p,q) ⟨hp,hq⟩
theorem k1116 (a b:ByteArray) (ha:a.size<4000000000) (hb:b.size<4000000000) (h0:nV b≠0):ACalls prog G0 132 [intV false a,intV false b] [] fun t H=>t = .tup [iV false (nV a / nV b),iV false (nV a % nV b),.c (.d (.v (.bool true)))]∧H=[]:=by
 have s1:x1131.sc=true:=rfl
 have s2:x1129.sc=true:=rfl
 have s3:x1132.sc=true:=rfl
 have g1:=xg1131 a b (by omega) (by omega) (by omega)
 have hqs:(nB (nV a / nV b)).size≤a.size:=Nat.le_trans (nB_mono (Nat.div_le_self _ _)) nB_le
 have hrs:=nB_lt (x:=nV a % nV b) (s:=b) (Nat.mod_lt _ (by omega))
 have g2:=xg1129 false (nB (nV a % nV b)) (by omega)
 have g3:=xg1129 false (nB (nV a / nV b)) (by omega)
 rw [nvB] at g2 g3
 obtain ⟨Q,hQ⟩:∃ Q,Q=nV a / nV b:=⟨_,rfl⟩
 obtain ⟨M,hM⟩:∃ M,M=nV a % nV b:=⟨_,rfl⟩
 rw [← hQ,← hM] at g1 ⊢
 rw [← hM] at g2 hrs
 rw [← hQ] at g3 hqs
 have g4:=xg1132 (false && !decide (M=0)) (nB M) (by omega)
 rw [nvB] at g4
 have hsg:¬ sgnI (false && !decide (M=0)) M<0:=by unfold sgnI; split <;> simp
 obtain ⟨z,hz⟩:∃ z,z=sgnI (false && !decide (M=0)) M:=⟨_,rfl⟩
 rw [← hz] at g4 hsg
 unfold iV at g2 g3 ⊢
 obtain ⟨b1,hb1⟩:∃ b,b=(false && !decide (M=0)):=⟨_,rfl⟩
 obtain ⟨b2,hb2⟩:∃ b,b=(false && !decide (Q=0)):=⟨_,rfl⟩
 rw [← hb1] at g2 g4
 rw [← hb2] at g3
 rw [← hb1,← hb2]
 obtain ⟨MB,hMB⟩:∃ x,x=nB M:=⟨_,rfl⟩
 obtain ⟨QB,hQB⟩:∃ x,x=nB Q:=⟨_,rfl⟩
 rw [← hMB,← hQB] at g1 ⊢
 rw [← hMB] at g2 g4
 rw [← hQB] at g3
 refine acallsX (X:=[(156,x1131),(134,x1129),(140,x1132)]) ⟨kx1131,kx1129,kx1132,trivial⟩ tab hmix func132 c1116 (by rfl) fun hw=>?_
 simp -implicitDefEqProofs (disch:=omega) [gz,ir1116,b1116,b1116_0,b1116_1,b1116_2,b1116_3,b1116_4,b1116_5,b1116_6,b1116_7,s1,g1,s2,g2,g3,s3,g4,hsg,fillC,splice]
 repeat' with_reducible apply And.intro
 all_goals first | omega | kernel_rfl | skip
 exact fin_nil ⟨rfl,rfl⟩
def x1116:XE:=mkX true (fun (p:ByteArray×ByteArray)=>[intP false p.1,intP false p.2]) (fun p=>p.1.size<4000000000∧p.2.size<4000000000∧nV p.2≠0) (fun p=>.tup [iV false (nV p.1 / nV p.2),iV false (nV p.1 % nV p.2),.c (.d (.v (.bool true)))])
theorem kx1116:Contract prog G0 132 x1116:=mkX_scal (fun _=>rfl) fun p h=>k1116 p.1 p.2 h.1 h.2.1 h.2.2
theorem xg1116 (a b:ByteArray) (ha:a.size<4000000000) (hb:b.size<4000000000) (h0:nV b≠0):x1116.g [intP false a,intP false b]=some (True,.tup [iV false (nV a / nV b),iV false (nV a % nV b),.c (.d (.v (.bool true)))]):=mkX_g (fun a b h=>by
 simp at h; exact Prod.ext h.1 h.2) (a,b) ⟨ha,hb,h0⟩
theorem k1101 (x:Nv.Rt) (h1:x.num.size<4000000000):ACalls prog G0 90 [ratV x] [] fun t H=>t = .v (iV x.neg (nV x.num))∧H=[]:=by
 have s1:x1114.sc=true:=rfl
 have g1:=xg1114 x.neg x.num (by omega)
 obtain ⟨xn,xa,xb⟩:=x
 refine acallsX (X:=[(130,x1114)]) ⟨kx1114,trivial⟩ tab hmix func90 c1101 (by rfl) fun hw=>?_
 unfold iV at g1 ⊢
 obtain ⟨b,hb⟩:∃ b,b=(xn && !decide (nV xa=0)):=⟨_,rfl⟩
 obtain ⟨n,hn⟩:∃ n,n=nB (nV xa):=⟨_,rfl⟩
 simp only [← hb,← hn] at g1 ⊢
 simp -implicitDefEqProofs (disch:=omega) [gz,ir1101,b1101,s1,g1,fillC,splice]
 exact fin_nil ⟨rfl,rfl⟩
def x1101:XE:=mkX true (fun (x:Nv.Rt)=>[ratP x]) (fun x=>x.num.size<4000000000) (fun x=>.v (iV x.neg (nV x.num)))
theorem kx1101:Contract prog G0 90 x1101:=mkX_scal (fun _=>rfl) fun x h=>k1101 x h
theorem xg1101 (x:Nv.Rt) (h1:x.num.size<4000000000):x1101.g [ratP x]=some (True,.v (iV x.neg (nV x.num))):=mkX_g injRat x h1
theorem k1102 (x:Nv.Rt) (h2:x.den.size<4000000000):ACalls prog G0 91 [ratV x] [] fun t H=>t = .v (iV false (Nv.denV x.den))∧H=[]:=by
 have s1:x1114.sc=true:=rfl
 have s2:x1117.sc=true:=rfl
 have g1:=xg1114 false x.den (by omega)
 have g2:=xg1117
 obtain ⟨xn,xa,xb⟩:=x
 refine acallsX (X:=[(130,x1114),(94,x1117)]) ⟨kx1114,kx1117,trivial⟩ tab hmix func91 c1102 (by rfl) fun hw=>?_
 unfold Nv.denV
 simp only at g1 ⊢
 obtain ⟨n,hn⟩:∃ n,n=nV xb:=⟨_,rfl⟩
 rw [show Nv.natV xb=n from hn.symm]
 rw [← hn] at g1
 by_cases c:n=0
 ·rw [if_pos c]
  have hE:nB n=⟨#[]⟩:=nB_nil.2 c
  unfold iV at g1 ⊢
  rw [hE] at g1
  rw [nB_one]
  simp -implicitDefEqProofs (disch:=omega) [gz,ir1102,b1102,s1,g1,s2,g2,fillC,splice,binSF]
  exact fin_nil ⟨rfl,rfl⟩
 ·rw [if_neg c]
  have hE:¬ nB n=⟨#[]⟩:=fun q=>c (nB_nil.1 q)
  unfold iV at g1 ⊢
  obtain ⟨m,hm⟩:∃ m,m=nB n:=⟨_,rfl⟩
  rw [← hm] at g1 hE ⊢
  obtain ⟨b,hb⟩:∃ b,b=(false && !decide (n=0)):=⟨_,rfl⟩
  rw [← hb] at g1 ⊢
  simp -implicitDefEqProofs (disch:=omega) [gz,ir1102,b1102,s1,g1,hE,fillC,splice,binSF]
  exact fin_nil ⟨rfl,rfl⟩
def x1102:XE:=mkX true (fun (x:Nv.Rt)=>[ratP x]) (fun x=>x.den.size<4000000000) (fun x=>.v (iV false (Nv.denV x.den)))
theorem kx1102:Contract prog G0 91 x1102:=mkX_scal (fun _=>rfl) fun x h=>k1102 x h
theorem xg1102 (x:Nv.Rt) (h2:x.den.size<4000000000):x1102.g [ratP x]=some (True,.v (iV false (Nv.denV x.den))):=mkX_g injRat x h2
theorem k1100 (n1 n2:Bool) (a b:ByteArray) (h1:a.size<4000000000) (h2:b.size<4000000000):ACalls prog G0 89 [intV n1 a,intV n2 b] [] fun t H=>t=makeT n1 n2 (nV a) (nV b)∧H=[]:=by
 have s1:x1114.sc=true:=rfl
 have s2:x1115.sc=true:=rfl
 have s3:x1116.sc=true:=rfl
 have s4:x1117.sc=true:=rfl
 have g1:=xg1114 n1 a (by omega)
 have g2:=xg1114 n2 b (by omega)
 have g7:=xg1117
 have hsa:=nB_le (s:=a)
 have hsb:=nB_le (s:=b)
 refine acallsX (X:=[(130,x1114),(131,x1115),(132,x1116),(94,x1117)]) ⟨kx1114,kx1115,kx1116,kx1117,trivial⟩ tab hmix func89 c1100 (by rfl) fun hw=>?_
 obtain ⟨A,hA⟩:∃ A,A=nV a:=⟨_,rfl⟩
 obtain ⟨B,hB⟩:∃ B,B=nV b:=⟨_,rfl⟩
 rw [← hA] at g1 hsa ⊢
 rw [← hB] at g2 hsb ⊢
 unfold makeT
 unfold iV at g1 g2
 obtain ⟨b1,hb1⟩:∃ x,x=(n1 && !decide (A=0)):=⟨_,rfl⟩
 obtain ⟨b2,hb2⟩:∃ x,x=(n2 && !decide (B=0)):=⟨_,rfl⟩
 rw [← hb1] at g1
 rw [← hb2] at g2
 by_cases c0:B=0
 ·rw [if_pos c0]
  have hE:nB B=⟨#[]⟩:=nB_nil.2 c0
  rw [hE] at g2
  obtain ⟨ab,hab⟩:∃ x,x=nB A:=⟨_,rfl⟩
  rw [← hab] at g1
  simp -implicitDefEqProofs (disch:=omega) [gz,ir1100,b1100,b1100_0,b1100_1,b1100_2,s1,g1,g2,fillC,splice,binSF]
  repeat' with_reducible apply And.intro
  all_goals first | omega | kernel_rfl | skip
  exact fin_nil ⟨rfl,rfl⟩
 ·rw [if_neg c0]
  have hE:¬ nB B=⟨#[]⟩:=fun q=>c0 (nB_nil.1 q)
  have g3:=xg1115 (false,nB A) (false,nB B) (by show (nB A).size<_; omega) (by show (nB B).size<_; omega)
  rw [show nV (false,nB A).2=A from nvB A,show nV (false,nB B).2=B from nvB B] at g3
  have hg0:0<Nat.gcd A B:=Nat.gcd_pos_of_pos_right _ (Nat.pos_of_ne_zero c0)
  have hgB:Nat.gcd A B ∣ B:=Nat.gcd_dvd_right A B
  have hgA:Nat.gcd A B ∣ A:=Nat.gcd_dvd_left A B
  have hgs:(nB (Nat.gcd A B)).size<4000000000:=by
   rcases gcd_le (g:=A) (b:=B) with h | h <;> omega
  unfold Nv.mkR
  obtain ⟨g,hg⟩:∃ g,g=Nat.gcd A B:=⟨_,rfl⟩
  rw [← hg] at g3 hg0 hgB hgA hgs ⊢
  have g4:=xg1116 (nB A) (nB g) (by omega) hgs (by rw [nvB]; omega)
  have g5:=xg1116 (nB B) (nB g) (by omega) hgs (by rw [nvB]; omega)
  rw [nvB,nvB] at g4 g5
  unfold iV at g3 g4 g5
  have f1:(false && !decide (g=0))=false:=rfl
  have f2:(false && !decide (A / g=0))=false:=rfl
  have f3:(false && !decide (B / g=0))=false:=rfl
  have f4:(false && !decide (A % g=0))=false:=rfl
  have f5:(false && !decide (B % g=0))=false:=rfl
  rw [f1] at g3
  rw [f2,f4] at g4
  rw [f3,f5] at g5
  obtain ⟨m1,hm1⟩:∃ x,x=nB (A % g):=⟨_,rfl⟩
  obtain ⟨m2,hm2⟩:∃ x,x=nB (B % g):=⟨_,rfl⟩
  rw [← hm1] at g4
  rw [← hm2] at g5
  obtain ⟨gs,hgse⟩:∃ gs,gs=nB g:=⟨_,rfl⟩
  rw [← hgse] at g3 g4 g5
  have g3':x1115.g [.c (.sl [[.v (.bool false),.v (.string (nB A))],[.v (.bool false),.v (.string (nB B))]])]=some (True,.v (intV false gs)):=g3
  have hq1:B / g=1↔nB (B / g)=⟨#[1]⟩:=nB_is1.symm
  obtain ⟨bb,hbb⟩:∃ x,x=nB B:=⟨_,rfl⟩
  rw [← hbb] at g2 hE g5 g3'
  obtain ⟨qb,hqb⟩:∃ x,x=nB (B / g):=⟨_,rfl⟩
  rw [show Nv.natB (B / g)=qb from hqb.symm]
  rw [← hqb] at g5 hq1
  by_cases c1:A=0
  ·rw [if_pos c1]
   have hgB2:g=B:=by rw [hg,c1,Nat.gcd_zero_left]
   have hq:qb=⟨#[1]⟩:=hq1.1 (by rw [hgB2,Nat.div_self (by omega)])
   have hnA:nB A=⟨#[]⟩:=nB_nil.2 c1
   have hnq:nB (A / g)=⟨#[]⟩:=nB_nil.2 (by rw [c1,Nat.zero_div])
   rw [hnA] at g1 g3' g4
   rw [hnq] at g4
   rw [hq] at g5
   simp -implicitDefEqProofs (disch:=omega) [gz,ir1100,b1100,b1100_0,b1100_1,b1100_2,b1100_3,b1100_4,b1100_5,b1100_6,b1100_7,b1100_8,b1100_9,b1100_10,b1100_11,b1100_12,s1,g1,g2,hE,s2,g3',s3,g4,g5,s4,g7,fillC,splice,fillR,binSF,cellsEq,skEq,toBVs]
   repeat' with_reducible apply And.intro
   all_goals first | omega | kernel_rfl | skip
   exact fin_nil ⟨rfl,rfl⟩
  ·rw [if_neg c1]
   have e1:b1=n1:=by rw [hb1,decide_eq_false c1]; simp
   have e2:b2=n2:=by rw [hb2,decide_eq_false c0]; simp
   rw [e1] at g1
   rw [e2] at g2
   have hnq:¬ nB (A / g)=⟨#[]⟩:=fun q=>by
    have h0:=nB_nil.1 q
    have:=Nat.div_mul_cancel hgA
    rw [h0,Nat.zero_mul] at this
    exact c1 this.symm
   obtain ⟨na,hna⟩:∃ x,x=nB A:=⟨_,rfl⟩
   rw [← hna] at g1 g3' g4
   obtain ⟨nq,hnq2⟩:∃ x,x=nB (A / g):=⟨_,rfl⟩
   rw [show Nv.natB (A / g)=nq from hnq2.symm]
   rw [← hnq2] at g4 hnq
   have hA2:=hnq
   by_cases c2:B / g=1
   ·rw [if_pos c2]
    have hq:=hq1.1 c2
    rw [hq] at g5
    have hQ1:True:=trivial
    cases n1 <;> cases n2
    ·simp -implicitDefEqProofs (disch:=omega) [gz,ir1100,b1100,b1100_0,b1100_1,b1100_2,b1100_3,b1100_4,b1100_5,b1100_6,b1100_7,b1100_8,b1100_9,b1100_10,b1100_11,b1100_12,s1,g1,g2,hE,s2,g3',s3,g4,g5,s4,g7,hA2,hQ1,fillC,splice,fillR,binSF,cellsEq,skEq,toBVs]
     repeat' with_reducible apply And.intro
     all_goals first | omega | kernel_rfl | skip
     exact fin_nil ⟨rfl,rfl⟩
    ·simp -implicitDefEqProofs (disch:=omega) [gz,ir1100,b1100,b1100_0,b1100_1,b1100_2,b1100_3,b1100_4,b1100_5,b1100_6,b1100_7,b1100_8,b1100_9,b1100_10,b1100_11,b1100_12,s1,g1,g2,hE,s2,g3',s3,g4,g5,s4,g7,hA2,hQ1,fillC,splice,fillR,binSF,cellsEq,skEq,toBVs]
     repeat' with_reducible apply And.intro
     all_goals first | omega | kernel_rfl | skip
     exact fin_nil ⟨rfl,rfl⟩
    ·simp -implicitDefEqProofs (disch:=omega) [gz,ir1100,b1100,b1100_0,b1100_1,b1100_2,b1100_3,b1100_4,b1100_5,b1100_6,b1100_7,b1100_8,b1100_9,b1100_10,b1100_11,b1100_12,s1,g1,g2,hE,s2,g3',s3,g4,g5,s4,g7,hA2,hQ1,fillC,splice,fillR,binSF,cellsEq,skEq,toBVs]
     repeat' with_reducible apply And.intro
     all_goals first | omega | kernel_rfl | skip
     exact fin_nil ⟨rfl,rfl⟩
    ·simp -implicitDefEqProofs (disch:=omega) [gz,ir1100,b1100,b1100_0,b1100_1,b1100_2,b1100_3,b1100_4,b1100_5,b1100_6,b1100_7,b1100_8,b1100_9,b1100_10,b1100_11,b1100_12,s1,g1,g2,hE,s2,g3',s3,g4,g5,s4,g7,hA2,hQ1,fillC,splice,fillR,binSF,cellsEq,skEq,toBVs]
     repeat' with_reducible apply And.intro
     all_goals first | omega | kernel_rfl | skip
     exact fin_nil ⟨rfl,rfl⟩
   ·rw [if_neg c2]
    have hQ1:¬ qb=⟨#[1]⟩:=fun q=>c2 (hq1.2 q)
    cases n1 <;> cases n2
    ·simp -implicitDefEqProofs (disch:=omega) [gz,ir1100,b1100,b1100_0,b1100_1,b1100_2,b1100_3,b1100_4,b1100_5,b1100_6,b1100_7,b1100_8,b1100_9,b1100_10,b1100_11,b1100_12,s1,g1,g2,hE,s2,g3',s3,g4,g5,s4,g7,hA2,hQ1,fillC,splice,fillR,binSF,cellsEq,skEq,toBVs]
     repeat' with_reducible apply And.intro
     all_goals first | omega | kernel_rfl | skip
     exact fin_nil ⟨rfl,rfl⟩
    ·simp -implicitDefEqProofs (disch:=omega) [gz,ir1100,b1100,b1100_0,b1100_1,b1100_2,b1100_3,b1100_4,b1100_5,b1100_6,b1100_7,b1100_8,b1100_9,b1100_10,b1100_11,b1100_12,s1,g1,g2,hE,s2,g3',s3,g4,g5,s4,g7,hA2,hQ1,fillC,splice,fillR,binSF,cellsEq,skEq,toBVs]
     repeat' with_reducible apply And.intro
     all_goals first | omega | kernel_rfl | skip
     exact fin_nil ⟨rfl,rfl⟩
    ·simp -implicitDefEqProofs (disch:=omega) [gz,ir1100,b1100,b1100_0,b1100_1,b1100_2,b1100_3,b1100_4,b1100_5,b1100_6,b1100_7,b1100_8,b1100_9,b1100_10,b1100_11,b1100_12,s1,g1,g2,hE,s2,g3',s3,g4,g5,s4,g7,hA2,hQ1,fillC,splice,fillR,binSF,cellsEq,skEq,toBVs]
     repeat' with_reducible apply And.intro
     all_goals first | omega | kernel_rfl | skip
     exact fin_nil ⟨rfl,rfl⟩
    ·simp -implicitDefEqProofs (disch:=omega) [gz,ir1100,b1100,b1100_0,b1100_1,b1100_2,b1100_3,b1100_4,b1100_5,b1100_6,b1100_7,b1100_8,b1100_9,b1100_10,b1100_11,b1100_12,s1,g1,g2,hE,s2,g3',s3,g4,g5,s4,g7,hA2,hQ1,fillC,splice,fillR,binSF,cellsEq,skEq,toBVs]
     repeat' with_reducible apply And.intro
     all_goals first | omega | kernel_rfl | skip
     exact fin_nil ⟨rfl,rfl⟩
def x1100:XE:=mkX true (fun (p:(Bool×ByteArray)×(Bool×ByteArray))=>[intP p.1.1 p.1.2,intP p.2.1 p.2.2]) (fun p=>p.1.2.size<4000000000∧p.2.2.size<4000000000) (fun p=>makeT p.1.1 p.2.1 (nV p.1.2) (nV p.2.2))
theorem kx1100:Contract prog G0 89 x1100:=mkX_scal (fun _=>makeT_sc _ _ _ _) fun p h=>k1100 p.1.1 p.2.1 p.1.2 p.2.2 h.1 h.2
theorem xg1100 (n1 n2:Bool) (a b:ByteArray) (h1:a.size<4000000000) (h2:b.size<4000000000):x1100.g [intP n1 a,intP n2 b]=some (True,makeT n1 n2 (nV a) (nV b)):=mkX_g injII ((n1,a),(n2,b)) ⟨h1,h2⟩
theorem k1090 (x:Nv.Rt) (h1:x.num.size<4000000000) (h2:x.den.size<4000000000):ACalls prog G0 50 [ratV x] [] fun t H=>t = .v (ratV (Nv.normR x))∧H=[]:=by
 have s1:x1101.sc=true:=rfl
 have s2:x1102.sc=true:=rfl
 have s3:x1100.sc=true:=rfl
 have g1:=xg1101 x h1
 have g3:=xg1102 x h2
 have hn:=nB_le (s:=x.num)
 have hd0:=Nv.denV_pos x.den
 have g2:=xg1100 (x.neg && !decide (nV x.num=0)) (false && !decide (Nv.denV x.den=0)) (nB (nV x.num)) (nB (Nv.denV x.den)) (by omega) (den_size h2)
 rw [nvB,nvB] at g2
 unfold makeT at g2
 rw [if_neg (by omega)] at g2
 have hnorm:Nv.mkR (!decide ((x.neg && !decide (nV x.num=0))=(false && !decide (Nv.denV x.den=0)))) (nV x.num) (Nv.denV x.den)=Nv.normR x:=by
  unfold Nv.normR
  by_cases c:nV x.num=0
  ·show Nv.mkR _ (nV x.num) _=Nv.mkR _ (nV x.num) _
   rw [c,Nv.mkR_zero,Nv.mkR_zero]
  ·rw [decide_eq_false c]
   cases x.neg <;> rfl
 rw [hnorm] at g2
 unfold iV at g1 g3
 refine acallsX (X:=[(90,x1101),(91,x1102),(89,x1100)]) ⟨kx1101,kx1102,kx1100,trivial⟩ tab hmix func50 c1090 (by rfl) fun hw=>?_
 obtain ⟨b1,hb1⟩:∃ b1,b1=(x.neg && !decide (nV x.num=0)):=⟨_,rfl⟩
 obtain ⟨b2,hb2⟩:∃ b2,b2=(false && !decide (Nv.denV x.den=0)):=⟨_,rfl⟩
 rw [← hb1] at g1 g2
 rw [← hb2] at g3 g2
 obtain ⟨m1,hm1⟩:∃ m,m=nB (nV x.num):=⟨_,rfl⟩
 obtain ⟨m2,hm2⟩:∃ m,m=nB (Nv.denV x.den):=⟨_,rfl⟩
 rw [← hm1] at g1 g2
 rw [← hm2] at g3 g2
 obtain ⟨y,hy⟩:∃ y,y=Nv.normR x:=⟨_,rfl⟩
 rw [← hy] at g2 ⊢
 obtain ⟨xn,xa,xb⟩:=x
 simp -implicitDefEqProofs (disch:=omega) [gz,ir1090,b1090,s1,s2,s3,g1,g3,g2,fillC,splice]
 repeat' with_reducible apply And.intro
 all_goals first | omega | kernel_rfl | skip
 exact fin_nil ⟨rfl,rfl⟩
def x1090:XE:=mkX true (fun (x:Nv.Rt)=>[ratP x]) (fun x=>x.num.size<4000000000∧x.den.size<4000000000) (fun x=>.v (ratV (Nv.normR x)))
theorem kx1090:Contract prog G0 50 x1090:=mkX_scal (fun _=>rfl) fun x h=>k1090 x h.1 h.2
theorem xg1090 (x:Nv.Rt) (h1:x.num.size<4000000000) (h2:x.den.size<4000000000):x1090.g [ratP x]=some (True,.v (ratV (Nv.normR x))):=mkX_g injRat x ⟨h1,h2⟩
theorem k1091 (x:Nv.Rt) (n:Nat) (h1:x.num.size<4000000000) (h2:x.den.size<4000000000):ACalls prog G0 25 [ratV x,I n] [] fun t H=>t = .bool (fitsR x n)∧H=[]:=by
 have s1:x1090.sc=true:=rfl
 have g1:=xg1090 x h1 h2
 refine acallsX (X:=[(50,x1090)]) ⟨kx1090,trivial⟩ tab hmix func25 c1091 (by rfl) fun hw=>?_
 unfold fitsR
 obtain ⟨⟨yn,ya,yb⟩,hy⟩:∃ y,y=Nv.normR x:=⟨_,rfl⟩
 rw [← hy] at g1 ⊢
 obtain ⟨xn,xa,xb⟩:=x
 by_cases c1:ya.size≤n
 ·have c1':(ya.size:Int)≤(n:Int):=by omega
  by_cases c2:yb.size≤n
  ·have c2':(yb.size:Int)≤(n:Int):=by omega
   simp -implicitDefEqProofs (disch:=omega) [gz,ir1091,b1091,s1,g1,fillC,splice,c1',c2',c1,c2]
   exact fin_nil ⟨rfl,rfl⟩
  ·have c2':¬ (yb.size:Int)≤(n:Int):=by omega
   simp -implicitDefEqProofs (disch:=omega) [gz,ir1091,b1091,s1,g1,fillC,splice,c1',c2',c1,c2]
   exact fin_nil ⟨rfl,rfl⟩
 ·have c1':¬ (ya.size:Int)≤(n:Int):=by omega
  simp -implicitDefEqProofs (disch:=omega) [gz,ir1091,b1091,s1,g1,fillC,splice,c1',c1]
  exact fin_nil ⟨rfl,rfl⟩
def x1091:XE:=mkX true (fun (p:Nv.Rt×Nat)=>[ratP p.1,.c (.v (.int .i64 (p.2:Int)))]) (fun p=>p.1.num.size<4000000000∧p.1.den.size<4000000000) (fun p=>.bool (fitsR p.1 p.2))
theorem kx1091:Contract prog G0 25 x1091:=mkX_scal (fun _=>rfl) fun p h=>k1091 p.1 p.2 h.1 h.2
theorem xg1091 (x:Nv.Rt) (n:Nat) (h1:x.num.size<4000000000) (h2:x.den.size<4000000000):x1091.g [ratP x,.c (.v (.int .i64 (n:Int)))]=some (True,.bool (fitsR x n)):=mkX_g injRN (x,n) ⟨h1,h2⟩
theorem id_iff {x y:Id}:x=y↔(x.a=y.a∧x.n=y.n):=by
 constructor
 ·rintro rfl; exact ⟨rfl,rfl⟩
 ·rintro ⟨h1,h2⟩; cases x; cases y; simp at h1 h2; rw [h1,h2]
def fndT (l:List TN) (x:Id):Option Nat:=l.findIdx? fun t=>decide (t.node=x)
def atF (l:List TN) (x:Id):Int:=match fndT l x with | some i=>i | none=>-1
theorem fnd_some {l:List TN} {x:Id} {i:Nat} (hi:i<l.length) (h:(nth l i).node=x) (hb:∀ j,j<i→(nth l j).node≠x):fndT l x=some i:=by
 unfold fndT
 rw [List.findIdx?_eq_some_iff_getElem]
 refine ⟨hi,?_,fun j hj=>?_⟩
 ·rw [nth_eq hi] at h; simp [h]
 ·have:=hb j hj
  rw [nth_eq (by omega)] at this
  simp [this]
theorem fnd_none {l:List TN} {x:Id} (hb:∀ j,j<l.length→(nth l j).node≠x):fndT l x=none:=by
 unfold fndT
 rw [List.findIdx?_eq_none_iff]
 intro t ht
 obtain ⟨j,hj,rfl⟩:=List.mem_iff_getElem.1 ht
 have:=hb j hj
 rw [nth_eq hj] at this
 simp [this]
theorem fnd_spec {l:List TN} {x:Id} {i:Nat} (h:fndT l x=some i):i<l.length∧(nth l i).node=x:=by
 unfold fndT at h
 rw [List.findIdx?_eq_some_iff_getElem] at h
 obtain ⟨h1,h2,_⟩:=h
 exact ⟨h1,by rw [nth_eq h1]; simpa using h2⟩
theorem trw (t:TN):t.row=[.v (.string t.node.a),.v (.int .i64 t.node.n),.v (.string t.par.a),.v (.int .i64 t.par.n),.v (.bool t.pl.neg),.v (.string t.pl.num),.v (.string t.pl.den),.v (.string t.kind)]:=rfl
theorem k2020 (l:List TN) (x:Id) (hl:l.length<1152921504606846976):ACalls prog G0 20 [.c (.d (.sl (l.map TN.row))),.agg (x.row.map .d)] [] fun t H=>t = .int .i64 (atF l x)∧H=[]:=by
 have hx:x.row=[.v (.string x.a),.v (.int .i64 x.n)]:=rfl
 obtain ⟨R,hR⟩:∃ R,R=atF l x:=⟨_,rfl⟩
 rw [← hR]
 refine acallsX (X:=[]) trivial tab hmix func20 c2020 (by rfl) fun hw=>?_
 simp -implicitDefEqProofs (disch:=omega) [gz,ir2020,b2020,hx,wrap64,fillC,splice]
 refine loopE (fun k st=>∃ i,i≤l.length∧k=l.length-i∧(∀ j,j<i→(nth l j).node≠x) ∧
   st=⟨ofL [(0,.v (.c (.d (.sl (l.map TN.row))))),(3,.v (.c (.ptr 0 0))),(7,.int .i64 l.length),(8,.int .i64 i)],[.cells [.d (.v (.string x.a)),.d (.v (.int .i64 x.n))]]⟩)
  (fun st=>∀ j,j<l.length→(nth l j).node≠x) ?_ ?_ ?_
 ·refine wk_nil [0] [0,3,7,8] rfl ⟨_,0,by omega,rfl,(fun j hj=>absurd hj (Nat.not_lt_zero j)),?_⟩
  simp [phi,O.ren,C.ren]
 ·rintro J M hJ hM k st ⟨i,hi,rfl,hb,rfl⟩
  by_cases hlt:i<l.length
  ·obtain ⟨t,ht⟩:∃ t,nth l i=t:=⟨_,rfl⟩
   by_cases c:t.node=x
   ·obtain ⟨c1,c2⟩:=id_iff.1 c
    have hf:=fnd_some hlt (by rw [ht]; exact c) hb
    have hRi:R=(i:Int):=by rw [hR]; unfold atF; rw [hf]
    simp -implicitDefEqProofs (disch:=omega) [gz,hlt,wrap64,nth_map,ht,trw,cellsEq,skEq,c1,c2,fillC,splice]
    repeat' with_reducible apply And.intro
    all_goals first|omega|kernel_rfl|exact fun _ _=>rfl|skip
    exact fin_nil ⟨by rw [hRi]; rfl,rfl⟩
   ·have c':(decide (t.node.a=x.a) && decide (t.node.n=x.n))=false:=by
     have:=fun q=>c (id_iff.2 q)
     simpa using this
    have c'':¬ (t.node.a=x.a∧t.node.n=x.n):=fun q=>c (id_iff.2 q)
    simp -implicitDefEqProofs (disch:=omega) [gz,hlt,wrap64,nth_map,ht,trw,cellsEq,skEq,c',c'',fillC,splice]
    repeat' with_reducible apply And.intro
    all_goals first|omega|kernel_rfl|exact fun _ _=>rfl|skip
    subst hJ
    refine wk_nil [0] [0,3,7,8] rfl ⟨l.length-(i+1),by omega,i+1,by omega,rfl,fun j hj=>?_,?_⟩
    ·rcases Nat.lt_or_ge j i with q | q
     ·exact hb j q
     ·have:j=i:=by omega
      rw [this,ht]; exact c
    ·simp [phi,O.ren,C.ren]
  ·have:i=l.length:=by omega
   subst this
   simp -implicitDefEqProofs (disch:=omega) [gz,hlt]
   subst hM
   exact hb
 ·intro st hb
  have hRi:R = -1:=by rw [hR]; unfold atF; rw [fnd_none hb]
  rw [hRi]
  simp -implicitDefEqProofs (disch:=omega) [gz,wrap64]
  exact fin_nil ⟨rfl,rfl⟩
def x2020:XE:=mkX true (fun (p:List TN×Id)=>[.c (.sl (p.1.map TN.row)),.agg p.2.row]) (fun p=>p.1.length<1152921504606846976) (fun p=>.int .i64 (atF p.1 p.2))
theorem kx2020:Contract prog G0 20 x2020:=mkX_scal (fun _=>rfl) fun p h=>k2020 p.1 p.2 h
theorem xg2020 (l:List TN) (x:Id) (h:l.length<1152921504606846976):x2020.g [.c (.sl (l.map TN.row)),.agg x.row]=some (True,.int .i64 (atF l x)):=mkX_g injTI (l,x) h
def lessB (a b:Id):Bool:=if a.a=b.a then decide (a.n<b.n) else strLt a.a b.a
theorem k2047 (a b:Id):ACalls prog G0 47 [.agg (a.row.map .d),.agg (b.row.map .d)] [] fun t H=>t = .bool (lessB a b)∧H=[]:=by
 have ha:a.row=[.v (.string a.a),.v (.int .i64 a.n)]:=rfl
 have hb:b.row=[.v (.string b.a),.v (.int .i64 b.n)]:=rfl
 unfold lessB
 refine acallsX (X:=[]) trivial tab hmix func47 c2047 (by rfl) fun hw=>?_
 by_cases c:a.a=b.a
 ·rw [if_pos c]
  simp -implicitDefEqProofs (disch:=omega) [gz,ir2047,b2047,ha,hb,c,binSF,fillC,splice]
  exact fin_nil ⟨rfl,rfl⟩
 ·rw [if_neg c]
  simp -implicitDefEqProofs (disch:=omega) [gz,ir2047,b2047,ha,hb,c,binSF,fillC,splice]
  exact fin_nil ⟨rfl,rfl⟩
def x2047:XE:=mkX true (fun (p:Id×Id)=>[.agg p.1.row,.agg p.2.row]) (fun _=>True) (fun p=>.bool (lessB p.1 p.2))
theorem kx2047:Contract prog G0 47 x2047:=mkX_scal (fun _=>rfl) fun p _=>k2047 p.1 p.2
theorem xg2047 (a b:Id):x2047.g [.agg a.row,.agg b.row]=some (True,.bool (lessB a b)):=mkX_g injIdId (a,b) trivial
def binI0:Id:=⟨⟨#[45]⟩,0⟩
def rootI:Id:=⟨⟨#[]⟩,0⟩
theorem k2049:ACalls prog G0 49 [] [] fun t H=>t = .v (.agg (binI0.row.map .d))∧H=[]:=by
 refine acallsX (X:=[]) trivial tab hmix func49 c2049 (by rfl) fun hw=>?_
 simp -implicitDefEqProofs (disch:=omega) [gz,ir2049,b2049,fillC,splice]
 exact fin_nil ⟨rfl,rfl⟩
def x2049:XE:=mkX true (fun (_:Unit)=>[]) (fun _=>True) (fun _=>.v (.agg (binI0.row.map .d)))
theorem kx2049:Contract prog G0 49 x2049:=mkX_scal (fun _=>rfl) fun _ _=>k2049
theorem xg2049:x2049.g []=some (True,.v (.agg (binI0.row.map .d))):=mkX_g (fun _ _ _=>rfl) () trivial
def belF:Nat→List TN→Id→Id→Bool
 | 0,_,_,_=>false
 | n+1,l,x,up=>if x=up then true else match fndT l x with | some k=>belF n l (nth l k).par up | none=>false
def belB (l:List TN) (x up:Id):Bool:=belF (l.length+1) l x up
theorem k2048 (l:List TN) (x up:Id) (hl:l.length<1152921504606846976):ACalls prog G0 48 [.c (.d (.sl (l.map TN.row))),.agg (x.row.map .d),.agg (up.row.map .d)] [] fun t H=>t = .bool (belB l x up)∧H=[]:=by
 have s1:x2020.sc=true:=rfl
 have hx:x.row=[.v (.string x.a),.v (.int .i64 x.n)]:=rfl
 have hu:up.row=[.v (.string up.a),.v (.int .i64 up.n)]:=rfl
 obtain ⟨R,hR⟩:∃ R,R=belB l x up:=⟨_,rfl⟩
 rw [← hR]
 refine acallsX (X:=[(20,x2020)]) ⟨kx2020,trivial⟩ tab hmix func48 c2048 (by rfl) fun hw=>?_
 simp -implicitDefEqProofs (disch:=omega) [gz,ir2048,b2048,hx,hu,wrap64,fillC,splice]
 refine loopE (fun k st=>∃ (i:Nat) (y:Id),i≤l.length+1∧k=l.length+1-i∧R=belF (l.length+1-i) l y up ∧
   st=⟨ofL [(0,.v (.c (.d (.sl (l.map TN.row))))),(4,.v (.c (.ptr 0 0))),(5,.v (.c (.ptr 1 0))),(7,.int .i64 i)],[.cells [.d (.v (.string y.a)),.d (.v (.int .i64 y.n))],.cells [.d (.v (.string up.a)),.d (.v (.int .i64 up.n))]]⟩)
  (fun st=>R=false) ?_ ?_ ?_
 ·refine wk_nil [0,1] [0,4,5,7] rfl ⟨_,0,x,by omega,rfl,hR,?_⟩
  simp [phi,O.ren,C.ren]
 ·rintro J M hJ hM k st ⟨i,y,hi,rfl,hv,rfl⟩
  by_cases hlt:i≤l.length
  ·have hltI:(i:Int)≤(l.length:Int):=by omega
   rw [show l.length+1-i=(l.length-i)+1 by omega] at hv
   unfold belF at hv
   by_cases c:y=up
   ·rw [if_pos c] at hv
    obtain ⟨c1,c2⟩:=id_iff.1 c
    simp -implicitDefEqProofs (disch:=omega) [gz,hlt,hltI,wrap64,cellsEq,skEq,c1,c2,fillC,splice]
    exact fin_nil ⟨by rw [hv]; rfl,rfl⟩
   ·rw [if_neg c] at hv
    have c':(decide (y.a=up.a) && decide (y.n=up.n))=false:=by
     have:=fun q=>c (id_iff.2 q)
     simpa using this
    have c'':¬ (y.a=up.a∧y.n=up.n):=fun q=>c (id_iff.2 q)
    have g1:=xg2020 l y hl
    rw [show y.row=[.v (.string y.a),.v (.int .i64 y.n)] from rfl] at g1
    unfold atF at g1
    cases hf:fndT l y with
    | none =>
     rw [hf] at hv g1
     have hv:R=false:=hv
     simp -implicitDefEqProofs (disch:=omega) [gz,hlt,hltI,wrap64,cellsEq,skEq,c',c'',s1,g1,fillC,splice]
     exact fin_nil ⟨by rw [hv]; rfl,rfl⟩
    | some q =>
     rw [hf] at hv g1
     obtain ⟨q1,q2⟩:=fnd_spec hf
     obtain ⟨t,ht⟩:∃ t,nth l q=t:=⟨_,rfl⟩
     have hv:R=belF (l.length-i) l t.par up:=by rw [← ht]; exact hv
     have q0:¬ (q:Int)<0:=by omega
     simp -implicitDefEqProofs (disch:=omega) [gz,hlt,hltI,wrap64,cellsEq,skEq,c',c'',s1,g1,q0,q1,nth_map,ht,trw,fillC,splice]
     repeat' with_reducible apply And.intro
     all_goals first|omega|kernel_rfl|exact fun _ _=>rfl|skip
     subst hJ
     refine wk_nil [0,1] [0,4,5,7] rfl ⟨l.length+1-(i+1),by omega,i+1,t.par,by omega,rfl,by rw [show l.length+1-(i+1)=l.length-i by omega]; exact hv,?_⟩
     simp [phi,O.ren,C.ren]
  ·have hltI:¬ (i:Int)≤(l.length:Int):=by omega
   have:i=l.length+1:=by omega
   subst this
   rw [Nat.sub_self] at hv
   have hltJ:¬ ((l.length:Int)+1≤(l.length:Int)):=by omega
   simp -implicitDefEqProofs (disch:=omega) [gz,hlt,hltI,hltJ]
   subst hM
   exact hv
 ·intro st hv
  rw [hv]
  simp -implicitDefEqProofs (disch:=omega) [gz,wrap64]
  exact fin_nil ⟨rfl,rfl⟩
theorem injTII (a b:List TN×Id×Id) (h:[PVo.c (D.sl (a.1.map TN.row)),PVo.agg a.2.1.row,PVo.agg a.2.2.row]=[PVo.c (D.sl (b.1.map TN.row)),PVo.agg b.2.1.row,PVo.agg b.2.2.row]):a=b:=by
 simp only [List.cons.injEq,PVo.c.injEq,D.sl.injEq,PVo.agg.injEq,and_true] at h
 exact Prod.ext (tn_inj h.1) (Prod.ext (Id.row_inj h.2.1) (Id.row_inj h.2.2))
def x2048:XE:=mkX true (fun (p:List TN×Id×Id)=>[.c (.sl (p.1.map TN.row)),.agg p.2.1.row,.agg p.2.2.row]) (fun p=>p.1.length<1152921504606846976) (fun p=>.bool (belB p.1 p.2.1 p.2.2))
theorem kx2048:Contract prog G0 48 x2048:=mkX_scal (fun _=>rfl) fun p h=>k2048 p.1 p.2.1 p.2.2 h
theorem xg2048 (l:List TN) (x up:Id) (h:l.length<1152921504606846976):x2048.g [.c (.sl (l.map TN.row)),.agg x.row,.agg up.row]=some (True,.bool (belB l x up)):=mkX_g injTII (l,x,up) h
def chk1 (l:List TN) (i:Nat):Bool:=(authB (nth l i).node.a && (decide (1≤(nth l i).node.n) && decide ((nth l i).node.n≤1000000000))) &&
 ((decide (i=0) || lessB (nth l (i-1)).node (nth l i).node) && (belB l (nth l i).node rootI || belB l (nth l i).node binI0))
def chkT (l:List TN):Bool:=(List.range l.length).all (chk1 l)
theorem chkT_step {l:List TN} {i:Nat} (h:∀ j,j<i→chk1 l j=true) (hi:i<l.length) (hc:chk1 l i=false):chkT l=false:=by
 unfold chkT
 rw [List.all_eq_false]
 exact ⟨i,List.mem_range.2 hi,by rw [hc]; simp⟩
theorem chkT_all {l:List TN} (h:∀ j,j<l.length→chk1 l j=true):chkT l=true:=by
 unfold chkT
 rw [List.all_eq_true]
 exact fun j hj=>h j (List.mem_range.1 hj)
theorem k2019 (l:List TN) (hl:l.length<1152921504606846976) (hs:∀ t∈l,t.node.a.size<4611686018427387904):ACalls prog G0 19 [.c (.d (.sl (l.map TN.row)))] [] fun t H=>t = .bool (chkT l)∧H=[]:=by
 have s1:x526.sc=true:=rfl
 have s2:x2047.sc=true:=rfl
 have s3:x2048.sc=true:=rfl
 have s4:x2049.sc=true:=rfl
 have g4:=xg2049
 rw [show binI0.row=[.v (.string ⟨#[45]⟩),.v (.int .i64 0)] from rfl] at g4
 obtain ⟨R,hR⟩:∃ R,R=chkT l:=⟨_,rfl⟩
 rw [← hR]
 refine acallsX (X:=[(46,x526),(47,x2047),(48,x2048),(49,x2049)]) ⟨kx526,kx2047,kx2048,kx2049,trivial⟩ tab hmix func19 c2019 (by rfl) fun hw=>?_
 simp -implicitDefEqProofs (disch:=omega) [gz,ir2019,b2019,b2019_0,b2019_1,wrap64]
 refine loopE (fun k st=>∃ i,i≤l.length∧k=l.length-i∧(∀ j,j<i→chk1 l j=true) ∧
   st=⟨ofL [(0,.v (.c (.d (.sl (l.map TN.row))))),(6,.int .i64 l.length),(7,.int .i64 i)],[]⟩)
  (fun st=>∀ j,j<l.length→chk1 l j=true) ?_ ?_ ?_
 ·refine wk_nil [] [0,6,7] rfl ⟨_,0,by omega,rfl,(fun j hj=>absurd hj (Nat.not_lt_zero j)),?_⟩
  simp
 ·rintro J M hJ hM k st ⟨i,hi,rfl,hb,rfl⟩
  by_cases hlt:i<l.length
  ·obtain ⟨t,ht⟩:∃ t,nth l i=t:=⟨_,rfl⟩
   have htm:t∈l:=by rw [← ht]; exact nth_mem hlt
   have g1:=xg526 t.node.a (hs t htm)
   have g2:=xg2047 (nth l (i-1)).node t.node
   have g3:=xg2048 l t.node rootI hl
   have g5:=xg2048 l t.node binI0 hl
   have hno:=fun (hc:chk1 l i=false)=>chkT_step hb hlt hc
   rw [← hR] at hno
   have hc1:chk1 l i=((authB t.node.a && (decide (1≤t.node.n) && decide (t.node.n≤1000000000))) &&
    ((decide (i=0) || lessB (nth l (i-1)).node t.node) && (belB l t.node rootI || belB l t.node binI0))):=by unfold chk1; rw [ht]
   rw [show rootI.row=[.v (.string ⟨#[]⟩),.v (.int .i64 0)] from rfl] at g3
   rw [show binI0.row=[.v (.string ⟨#[45]⟩),.v (.int .i64 0)] from rfl] at g5
   rw [show t.node.row=[.v (.string t.node.a),.v (.int .i64 t.node.n)] from rfl] at g2 g3 g5
   obtain ⟨A,hA⟩:∃ A,A=authB t.node.a:=⟨_,rfl⟩
   obtain ⟨L',hL'⟩:∃ L',L'=lessB (nth l (i-1)).node t.node:=⟨_,rfl⟩
   obtain ⟨B1,hB1⟩:∃ B1,B1=belB l t.node rootI:=⟨_,rfl⟩
   obtain ⟨B2,hB2⟩:∃ B2,B2=belB l t.node binI0:=⟨_,rfl⟩
   rw [← hA] at g1 hc1
   rw [← hL'] at g2 hc1
   rw [← hB1] at g3 hc1
   rw [← hB2] at g5 hc1
   cases hAv:A
   ·rw [hAv] at g1 hc1
    have hv:=hno (by rw [hc1]; rfl)
    simp -implicitDefEqProofs (disch:=omega) [gz,hlt,wrap64,nth_map,ht,trw,s1,g1,fillC,splice]
    repeat' with_reducible apply And.intro
    all_goals first|omega|kernel_rfl|exact fun _ _=>rfl|skip
    exact fin_nil ⟨by rw [hv]; rfl,rfl⟩
   ·rw [hAv] at g1 hc1
    by_cases n1:t.node.n<1
    ·have hv:=hno (by rw [hc1,decide_eq_false (show ¬ 1≤t.node.n by omega)]; rfl)
     simp -implicitDefEqProofs (disch:=omega) [gz,hlt,wrap64,nth_map,ht,trw,s1,g1,n1,fillC,splice]
     repeat' with_reducible apply And.intro
     all_goals first|omega|kernel_rfl|exact fun _ _=>rfl|skip
     exact fin_nil ⟨by rw [hv]; rfl,rfl⟩
    ·by_cases n2:1000000000<t.node.n
     ·have hv:=hno (by rw [hc1,decide_eq_false (show ¬ t.node.n≤1000000000 by omega)]; simp)
      simp -implicitDefEqProofs (disch:=omega) [gz,hlt,wrap64,nth_map,ht,trw,s1,g1,n1,n2,fillC,splice]
      repeat' with_reducible apply And.intro
      all_goals first|omega|kernel_rfl|exact fun _ _=>rfl|skip
      exact fin_nil ⟨by rw [hv]; rfl,rfl⟩
     ·rw [decide_eq_true (show 1≤t.node.n by omega),decide_eq_true (show t.node.n≤1000000000 by omega)] at hc1
      have second:(decide (i=0) || L')=true→B1=true∨B2=true→chk1 l i=true:=fun q1 q2=>by
       rw [hc1,q1]
       rcases q2 with q2 | q2 <;> rw [q2] <;> simp
      have secondF:B1=false→B2=false→R=false:=fun q1 q2=>hno (by rw [hc1,q1,q2]; simp)
      have nxt:chk1 l i=true→∀ j,j<i+1→chk1 l j=true:=fun q j hj=>by
       rcases Nat.lt_or_ge j i with q' | q'
       ·exact hb j q'
       ·have:j=i:=by omega
        rw [this]; exact q
      by_cases i0:i=0
      ·have second:=second (by rw [decide_eq_true i0]; rfl)
       cases hB1v:B1
       ·cases hB2v:B2
        ·have hv:=secondF hB1v hB2v
         rw [hB1v] at g3
         rw [hB2v] at g5
         subst i0
         simp -implicitDefEqProofs (disch:=omega) [gz,hlt,wrap64,nth_map,ht,trw,s1,g1,n1,n2,s3,g3,s4,g4,g5,fillC,splice]
         repeat' with_reducible apply And.intro
         all_goals first|omega|kernel_rfl|exact fun _ _=>rfl|skip
         exact fin_nil ⟨by rw [hv]; rfl,rfl⟩
        ·have hok:=second (.inr hB2v)
         rw [hB1v] at g3
         rw [hB2v] at g5
         subst i0
         simp -implicitDefEqProofs (disch:=omega) [gz,hlt,wrap64,nth_map,ht,trw,s1,g1,n1,n2,s3,g3,s4,g4,g5,fillC,splice]
         repeat' with_reducible apply And.intro
         all_goals first|omega|kernel_rfl|exact fun _ _=>rfl|skip
         subst hJ
         refine wk_nil [] [0,6,7] rfl ⟨l.length-1,by omega,1,by omega,rfl,nxt hok,?_⟩
         simp
       ·have hok:=second (.inl hB1v)
        rw [hB1v] at g3
        subst i0
        simp -implicitDefEqProofs (disch:=omega) [gz,hlt,wrap64,nth_map,ht,trw,s1,g1,n1,n2,s3,g3,fillC,splice]
        repeat' with_reducible apply And.intro
        all_goals first|omega|kernel_rfl|exact fun _ _=>rfl|skip
        subst hJ
        refine wk_nil [] [0,6,7] rfl ⟨l.length-1,by omega,1,by omega,rfl,nxt hok,?_⟩
        simp
      ·have ip:0<i:=by omega
       obtain ⟨q,hq⟩:∃ q,q=i-1:=⟨_,rfl⟩
       have hqi:(i:Int)-1=(q:Int):=by omega
       have hql:q<l.length:=by omega
       rw [← hq] at g2
       obtain ⟨u,hu⟩:∃ u,nth l q=u:=⟨_,rfl⟩
       rw [hu] at g2
       rw [show u.node.row=[.v (.string u.node.a),.v (.int .i64 u.node.n)] from rfl] at g2
       cases hLv:L'
       ·rw [hLv] at g2
        have hv:=hno (by rw [hc1,hLv,decide_eq_false i0]; simp)
        simp -implicitDefEqProofs (disch:=omega) [gz,hlt,wrap64,nth_map,ht,hu,hqi,hql,trw,s1,g1,n1,n2,ip,i0,s2,g2,fillC,splice]
        repeat' with_reducible apply And.intro
        all_goals first|omega|kernel_rfl|exact fun _ _=>rfl|skip
        exact fin_nil ⟨by rw [hv]; rfl,rfl⟩
       ·rw [hLv] at g2
        have second:=second (by rw [hLv]; simp)
        cases hB1v:B1
        ·cases hB2v:B2
         ·have hv:=secondF hB1v hB2v
          rw [hB1v] at g3
          rw [hB2v] at g5
          simp -implicitDefEqProofs (disch:=omega) [gz,hlt,wrap64,nth_map,ht,hu,hqi,hql,trw,s1,g1,n1,n2,ip,i0,s2,g2,s3,g3,s4,g4,g5,fillC,splice]
          repeat' with_reducible apply And.intro
          all_goals first|omega|kernel_rfl|exact fun _ _=>rfl|skip
          exact fin_nil ⟨by rw [hv]; rfl,rfl⟩
         ·have hok:=second (.inr hB2v)
          rw [hB1v] at g3
          rw [hB2v] at g5
          simp -implicitDefEqProofs (disch:=omega) [gz,hlt,wrap64,nth_map,ht,hu,hqi,hql,trw,s1,g1,n1,n2,ip,i0,s2,g2,s3,g3,s4,g4,g5,fillC,splice]
          repeat' with_reducible apply And.intro
          all_goals first|omega|kernel_rfl|exact fun _ _=>rfl|skip
          subst hJ
          refine wk_nil [] [0,6,7] rfl ⟨l.length-(i+1),by omega,i+1,by omega,rfl,nxt hok,?_⟩
          simp
        ·have hok:=second (.inl hB1v)
         rw [hB1v] at g3
         simp -implicitDefEqProofs (disch:=omega) [gz,hlt,wrap64,nth_map,ht,hu,hqi,hql,trw,s1,g1,n1,n2,ip,i0,s2,g2,s3,g3,fillC,splice]
         repeat' with_reducible apply And.intro
         all_goals first|omega|kernel_rfl|exact fun _ _=>rfl|skip
         subst hJ
         refine wk_nil [] [0,6,7] rfl ⟨l.length-(i+1),by omega,i+1,by omega,rfl,nxt hok,?_⟩
         simp
  ·have:i=l.length:=by omega
   subst this
   simp -implicitDefEqProofs (disch:=omega) [gz,hlt]
   subst hM
   exact hb
 ·intro st hb
  have hv:R=true:=by rw [hR]; exact chkT_all hb
  rw [hv]
  simp -implicitDefEqProofs (disch:=omega) [gz,b2019_2,b2019_3,wrap64]
  exact fin_nil ⟨rfl,rfl⟩
theorem inj1T (a b:List TN) (h:[PVo.c (D.sl (a.map TN.row))]=[PVo.c (D.sl (b.map TN.row))]):a=b:=by
 simp only [List.cons.injEq,PVo.c.injEq,D.sl.injEq,and_true] at h
 exact tn_inj h
def x2019:XE:=mkX true (fun (l:List TN)=>[.c (.sl (l.map TN.row))]) (fun l=>l.length<1152921504606846976∧∀ t∈l,t.node.a.size<4611686018427387904) (fun l=>.bool (chkT l))
theorem kx2019:Contract prog G0 19 x2019:=mkX_scal (fun _=>rfl) fun l h=>k2019 l h.1 h.2
theorem xg2019 (l:List TN) (hl:l.length<1152921504606846976) (hs:∀ t∈l,t.node.a.size<4611686018427387904):x2019.g [.c (.sl (l.map TN.row))]=some (True,.bool (chkT l)):=mkX_g inj1T l ⟨hl,hs⟩
structure OkN (t:TN):Prop where
 num:t.pl.num.size<4000000000
 den:t.pl.den.size<4000000000
 kind:t.kind.size<4294967296
 node:t.node.a.size<4294967296
 par:t.par.a.size<4294967296
def spB (t:TN):Bool:=(decide ((Nv.normR t.pl).neg=t.pl.neg) && (decide ((Nv.normR t.pl).num=t.pl.num) && decide ((Nv.normR t.pl).den=t.pl.den))) && (fitsR t.pl 16 && (decide (t.kind.size≤100) && decide (t.node.a.size+t.par.a.size≤100)))
def sptT (l:List TN):Bool:=decide (l.length≤40) && ((List.range l.length).all (fun i=>spB (nth l i)) && chkT l)
theorem sptT_len {l:List TN} (h:¬ l.length≤40):sptT l=false:=by unfold sptT; simp [h]
theorem sptT_step {l:List TN} {i:Nat} (hi:i<l.length) (hc:spB (nth l i)=false):sptT l=false:=by
 have:(List.range l.length).all (fun i=>spB (nth l i))=false:=by
  rw [List.all_eq_false]
  exact ⟨i,List.mem_range.2 hi,by simp [hc]⟩
 unfold sptT
 rw [this]; simp
theorem sptT_all {l:List TN} (h40:l.length≤40) (h:∀ j,j<l.length→spB (nth l j)=true):sptT l=chkT l:=by
 have:(List.range l.length).all (fun i=>spB (nth l i))=true:=by
  rw [List.all_eq_true]
  exact fun j hj=>h j (List.mem_range.1 hj)
 unfold sptT
 rw [this]; simp [h40]
theorem k2021 (l:List TN) (hl:l.length<1152921504606846976) (hs:∀ t∈l,OkN t):ACalls prog G0 21 [.c (.d (.sl (l.map TN.row)))] [] fun t H=>t = .bool (sptT l)∧H=[]:=by
 have s1:x1090.sc=true:=rfl
 have s2:x1091.sc=true:=rfl
 have s3:x2019.sc=true:=rfl
 have g3:=xg2019 l hl (fun t ht=>by have:=(hs t ht).node; omega)
 obtain ⟨R,hR⟩:∃ R,R=sptT l:=⟨_,rfl⟩
 obtain ⟨C,hC⟩:∃ C,C=chkT l:=⟨_,rfl⟩
 rw [← hR]
 rw [← hC] at g3
 refine acallsX (X:=[(50,x1090),(25,x1091),(19,x2019)]) ⟨kx1090,kx1091,kx2019,trivial⟩ tab hmix func21 c2021 (by rfl) fun hw=>?_
 by_cases h40:40<l.length
 ·have hv:R=false:=by rw [hR]; exact sptT_len (by omega)
  have h40i:(40:Int)<(l.length:Int):=by omega
  simp -implicitDefEqProofs (disch:=omega) [gz,ir2021,b2021,b2021_0,b2021_1,h40,h40i,wrap64]
  exact fin_nil ⟨by rw [hv]; rfl,rfl⟩
 have h40i:¬ (40:Int)<(l.length:Int):=by omega
 simp -implicitDefEqProofs (disch:=omega) [gz,ir2021,b2021,b2021_0,b2021_1,b2021_2,h40,h40i,wrap64]
 refine loopE (fun k st=>∃ i,i≤l.length∧k=l.length-i∧(∀ j,j<i→spB (nth l j)=true) ∧
   st=⟨ofL [(0,.v (.c (.d (.sl (l.map TN.row))))),(8,.int .i64 l.length),(9,.int .i64 i)],[]⟩)
  (fun st=>(∀ j,j<l.length→spB (nth l j)=true)∧AtS [(0,.v (.c (.d (.sl (l.map TN.row)))))] [] st) ?_ ?_ ?_
 ·refine wk_nil [] [0,8,9] rfl ⟨_,0,by omega,rfl,(fun j hj=>absurd hj (Nat.not_lt_zero j)),?_⟩
  simp
 ·rintro J M hJ hM k st ⟨i,hi,rfl,hb,rfl⟩
  by_cases hlt:i<l.length
  ·obtain ⟨t,ht⟩:∃ t,nth l i=t:=⟨_,rfl⟩
   have htm:t∈l:=by rw [← ht]; exact nth_mem hlt
   have ho:=hs t htm
   have hz1:=ho.kind
   have hz2:=ho.node
   have hz3:=ho.par
   have g1:=xg1090 t.pl ho.num ho.den
   have g2:x1091.g [ratP t.pl,.c (.v (.int .i64 16))]=some (True,.bool (fitsR t.pl 16)):=xg1091 t.pl 16 ho.num ho.den
   have hno:=fun (hc:spB (nth l i)=false)=>sptT_step hlt hc
   have hc1:spB (nth l i)=((decide ((Nv.normR t.pl).neg=t.pl.neg) && (decide ((Nv.normR t.pl).num=t.pl.num) && decide ((Nv.normR t.pl).den=t.pl.den))) && (fitsR t.pl 16 && (decide (t.kind.size≤100) && decide (t.node.a.size+t.par.a.size≤100)))):=by rw [ht]; rfl
   rw [← hR] at hno
   obtain ⟨F,hF⟩:∃ F,F=fitsR t.pl 16:=⟨_,rfl⟩
   obtain ⟨N,hN⟩:∃ N,N=Nv.normR t.pl:=⟨_,rfl⟩
   rw [← hF] at g2 hc1
   rw [← hN] at g1 hc1
   obtain ⟨cb,hcb,hcv⟩:∃ cb,cellsEq [.b,.s,.s] [.d (.v (.bool N.neg)),.d (.v (.string N.num)),.d (.v (.string N.den))] [.d (.v (.bool t.pl.neg)),.d (.v (.string t.pl.num)),.d (.v (.string t.pl.den))]=some cb∧cb=(decide (N.neg=t.pl.neg) && (decide (N.num=t.pl.num) && decide (N.den=t.pl.den))):=⟨_,by simp [cellsEq,skEq],rfl⟩
   rw [← hcv] at hc1
   clear hcv
   cases hcbv:cb
   ·rw [hcbv] at hcb hc1
    have hv:=hno (by rw [hc1]; rfl)
    simp -implicitDefEqProofs (disch:=omega) [gz,hlt,wrap64,nth_map,ht,trw,s1,g1,hcb,fillC,splice]
    repeat' with_reducible apply And.intro
    all_goals first|omega|kernel_rfl|exact fun _ _=>rfl|skip
    exact fin_nil ⟨by rw [hv]; rfl,rfl⟩
   ·rw [hcbv] at hcb hc1
    cases hFv:F
    ·rw [hFv] at g2 hc1
     have hv:=hno (by rw [hc1]; rfl)
     simp -implicitDefEqProofs (disch:=omega) [gz,hlt,wrap64,nth_map,ht,trw,s1,g1,hcb,s2,g2,fillC,splice]
     repeat' with_reducible apply And.intro
     all_goals first|omega|kernel_rfl|exact fun _ _=>rfl|skip
     exact fin_nil ⟨by rw [hv]; rfl,rfl⟩
    ·rw [hFv] at g2 hc1
     by_cases n1:100<t.kind.size
     ·have n1i:(100:Int)<(t.kind.size:Int):=by omega
      have hv:=hno (by rw [hc1,decide_eq_false (show ¬ t.kind.size≤100 by omega)]; rfl)
      simp -implicitDefEqProofs (disch:=omega) [gz,hlt,wrap64,nth_map,ht,trw,s1,g1,hcb,s2,g2,n1,n1i,fillC,splice]
      repeat' with_reducible apply And.intro
      all_goals first|omega|kernel_rfl|exact fun _ _=>rfl|skip
      exact fin_nil ⟨by rw [hv]; rfl,rfl⟩
     ·have n1i:¬ (100:Int)<(t.kind.size:Int):=by omega
      by_cases n2:100<t.node.a.size+t.par.a.size
      ·have n2i:(100:Int)<(t.node.a.size:Int)+(t.par.a.size:Int):=by omega
       have hv:=hno (by rw [hc1,decide_eq_false (show ¬ t.node.a.size+t.par.a.size≤100 by omega)]; simp)
       simp -implicitDefEqProofs (disch:=omega) [gz,hlt,wrap64,nth_map,ht,trw,s1,g1,hcb,s2,g2,n1,n1i,n2,n2i,fillC,splice]
       repeat' with_reducible apply And.intro
       all_goals first|omega|kernel_rfl|exact fun _ _=>rfl|skip
       exact fin_nil ⟨by rw [hv]; rfl,rfl⟩
      ·have n2i:¬ (100:Int)<(t.node.a.size:Int)+(t.par.a.size:Int):=by omega
       have hok:spB (nth l i)=true:=by rw [hc1,decide_eq_true (show t.kind.size≤100 by omega),decide_eq_true (show t.node.a.size+t.par.a.size≤100 by omega)]; rfl
       simp -implicitDefEqProofs (disch:=omega) [gz,hlt,wrap64,nth_map,ht,trw,s1,g1,hcb,s2,g2,n1,n1i,n2,n2i,fillC,splice]
       repeat' with_reducible apply And.intro
       all_goals first|omega|kernel_rfl|exact fun _ _=>rfl|skip
       subst hJ
       refine wk_nil [] [0,8,9] rfl ⟨l.length-(i+1),by omega,i+1,by omega,rfl,(fun j hj=>?_),?_⟩
       ·by_cases q:j=i
        ·rw [q]; exact hok
        ·exact hb j (by omega)
       ·simp
  ·have:i=l.length:=by omega
   subst this
   simp -implicitDefEqProofs (disch:=omega) [gz,hlt]
   subst hM
   exact ⟨hb,at_mk (by simp) rfl⟩
 ·rintro _ ⟨hb,sl,rfl⟩
  have hv:R=C:=by rw [hR,hC]; exact sptT_all (by omega) hb
  rw [hv]
  simp -implicitDefEqProofs (disch:=omega) [gz,b2021_3,b2021_4,s3,g3,wrap64]
  exact fin_nil ⟨rfl,rfl⟩
def x2021:XE:=mkX true (fun (l:List TN)=>[.c (.sl (l.map TN.row))]) (fun l=>l.length<1152921504606846976∧∀ t∈l,OkN t) (fun l=>.bool (sptT l))
theorem kx2021:Contract prog G0 21 x2021:=mkX_scal (fun _=>rfl) fun l h=>k2021 l h.1 h.2
theorem xg2021 (l:List TN) (hl:l.length<1152921504606846976) (hs:∀ t∈l,OkN t):x2021.g [.c (.sl (l.map TN.row))]=some (True,.bool (sptT l)):=mkX_g inj1T l ⟨hl,hs⟩
theorem eq_of_nth {α:Type} [Inhabited α] {a b:List α} (hl:a.length=b.length) (h:∀ j,j<a.length→nth a j=nth b j):a=b:=by
 apply List.ext_getElem hl
 intro j h1 h2
 rw [← nth_eq h1,← nth_eq h2]
 exact h j h1
def samI (a b:List Id):Bool:=open Classical in decide (a=b)
theorem k2014 (a b:List Id) (ha:a.length<1152921504606846976):ACalls prog G0 14 [.c (.d (.sl (a.map Id.row))),.c (.d (.sl (b.map Id.row)))] [] fun t H=>t = .bool (samI a b)∧H=[]:=by
 obtain ⟨R,hR⟩:∃ R,R=samI a b:=⟨_,rfl⟩
 rw [← hR]
 have hRf:a≠b→R=false:=fun q=>by rw [hR]; unfold samI; simp [q]
 have hRt:a=b→R=true:=fun q=>by rw [hR]; unfold samI; simp [q]
 have irw':∀ x:Id,x.row=[.v (.string x.a),.v (.int .i64 x.n)]:=fun _=>rfl
 refine acallsX (X:=[]) trivial tab hmix func14 c2014 (by rfl) fun hw=>?_
 by_cases hl:a.length=b.length
 ·have hlI:(a.length:Int)=(b.length:Int):=by omega
  simp -implicitDefEqProofs (disch:=omega) [gz,ir2014,b2014,hl,hlI,wrap64]
  refine loopE (fun k st=>∃ i,i≤b.length∧k=b.length-i∧(∀ j,j<i→nth a j=nth b j) ∧
    st=⟨ofL [(0,.v (.c (.d (.sl (a.map Id.row))))),(1,.v (.c (.d (.sl (b.map Id.row))))),(12,.int .i64 b.length),(13,.int .i64 i)],[]⟩)
   (fun st=>∀ j,j<b.length→nth a j=nth b j) ?_ ?_ ?_
  ·refine wk_nil [] [0,1,12,13] rfl ⟨_,0,by omega,rfl,(fun j hj=>absurd hj (Nat.not_lt_zero j)),?_⟩
   simp [hl]
  ·rintro J M hJ hM k st ⟨i,hi,rfl,hb,rfl⟩
   by_cases hlt:i<b.length
   ·obtain ⟨x,hx⟩:∃ x,nth a i=x:=⟨_,rfl⟩
    obtain ⟨y,hy⟩:∃ y,nth b i=y:=⟨_,rfl⟩
    have hla:i<a.length:=by omega
    by_cases c:x=y
    ·obtain ⟨c1,c2⟩:=id_iff.1 c
     simp -implicitDefEqProofs (disch:=omega) [gz,hlt,hla,hl,wrap64,nth_map,hx,hy,irw',cellsEq,skEq,c1,c2,fillC,splice]
     repeat' with_reducible apply And.intro
     all_goals first|omega|kernel_rfl|exact fun _ _=>rfl|skip
     subst hJ
     refine wk_nil [] [0,1,12,13] rfl ⟨b.length-(i+1),by omega,i+1,by omega,rfl,fun j hj=>?_,?_⟩
     ·rcases Nat.lt_or_ge j i with q | q
      ·exact hb j q
      ·have:j=i:=by omega
       rw [this,hx,hy,c]
     ·simp
    ·have hv:=hRf fun q=>c (by rw [← hx,← hy,q])
     have c':(decide (x.a=y.a) && decide (x.n=y.n))=false:=by
      have:=fun q=>c (id_iff.2 q)
      simpa using this
     obtain ⟨cb,hcb⟩:∃ cb,cellsEq [.s,.i .i64] (x.row.map .d) (y.row.map .d)=some cb∧cb=false:=⟨_,by simp [irw',cellsEq,skEq],c'⟩
     obtain ⟨hcb,rfl⟩:=hcb
     simp only [irw',List.map_cons,List.map_nil] at hcb
     simp -implicitDefEqProofs (disch:=omega) [gz,hlt,hla,hl,wrap64,nth_map,hx,hy,irw',hcb,fillC,splice]
     repeat' with_reducible apply And.intro
     all_goals first|omega|kernel_rfl|exact fun _ _=>rfl|skip
     exact fin_nil ⟨by rw [hv]; rfl,rfl⟩
   ·have:i=b.length:=by omega
    subst this
    simp -implicitDefEqProofs (disch:=omega) [gz,hlt]
    subst hM
    exact hb
  ·intro st hb
   have hv:=hRt (eq_of_nth hl (by rw [hl]; exact hb))
   rw [hv]
   simp -implicitDefEqProofs (disch:=omega) [gz,wrap64]
   exact fin_nil ⟨rfl,rfl⟩
 ·have hlI:¬ (a.length:Int)=(b.length:Int):=by omega
  have hv:=hRf fun q=>hl (by rw [q])
  rw [hv]
  simp -implicitDefEqProofs (disch:=omega) [gz,ir2014,b2014,hl,hlI,wrap64]
  exact fin_nil ⟨rfl,rfl⟩
theorem injILL (a b:List Id×List Id) (h:[PVo.c (D.sl (a.1.map Id.row)),PVo.c (D.sl (a.2.map Id.row))]=[PVo.c (D.sl (b.1.map Id.row)),PVo.c (D.sl (b.2.map Id.row))]):a=b:=by
 simp only [List.cons.injEq,PVo.c.injEq,D.sl.injEq,and_true] at h
 exact Prod.ext (ids_inj h.1) (ids_inj h.2)
def x2014:XE:=mkX true (fun (p:List Id×List Id)=>[.c (.sl (p.1.map Id.row)),.c (.sl (p.2.map Id.row))]) (fun p=>p.1.length<1152921504606846976) (fun p=>.bool (samI p.1 p.2))
theorem kx2014:Contract prog G0 14 x2014:=mkX_scal (fun _=>rfl) fun p h=>k2014 p.1 p.2 h
theorem xg2014 (a b:List Id) (ha:a.length<1152921504606846976):x2014.g [.c (.sl (a.map Id.row)),.c (.sl (b.map Id.row))]=some (True,.bool (samI a b)):=mkX_g injILL (a,b) ha
def idA (n:Int):Id:=⟨⟨#[97]⟩,n⟩
theorem k2026 (n:Int):ACalls prog G0 26 [I n] [] fun t H=>t = .v (.agg ((idA n).row.map .d))∧H=[]:=by
 refine acallsX (X:=[]) trivial tab hmix func26 c2026 (by rfl) fun hw=>?_
 simp -implicitDefEqProofs (disch:=omega) [gz,ir2026,b2026,fillC,splice]
 exact fin_nil ⟨rfl,rfl⟩
def x2026:XE:=mkX true (fun (n:Int)=>[.c (.v (.int .i64 n))]) (fun _=>True) (fun n=>.v (.agg ((idA n).row.map .d)))
theorem kx2026:Contract prog G0 26 x2026:=mkX_scal (fun _=>rfl) fun n _=>k2026 n
theorem xg2026 (n:Int):x2026.g [.c (.v (.int .i64 n))]=some (True,.v (.agg ((idA n).row.map .d))):=mkX_g (fun a b h=>by simp at h; exact h) n trivial
def keyI (x:Id):Value:=.agg #[.string x.a,.int .i64 x.n]
abbrev KI:KT:=⟨true,[.s,.i .i64]⟩
theorem keyB_I (a b:Id):keyB (keyI a) (keyI b)=decide (a=b):=by
 unfold keyI keyB
 show valsB [.string a.a,.int .i64 a.n] [.string b.a,.int .i64 b.n]=_
 simp only [valsB,valB,Bool.and_true]
 rw [Bool.eq_iff_iff]
 simp [id_iff]
theorem conf_I (x:Id):conf KI (keyI x)=true:=rfl
abbrev encIT (m:List (Id×TN)):List (Value×PV):=encM keyI (fun t=>.agg t.row) m
abbrev KB (ms:List Id):List (Value×PV):=encM keyI (fun b=>.c (.v (.bool b))) (ms.map fun y=>(y,true))
theorem mf_IT (m:List (Id×TN)) (x:Id):mfind (encIT m) (keyI x)=(alook m x).map fun t=>PVo.agg t.row:=mfind_enc keyB_I x m
theorem mp_IT (m:List (Id×TN)) (x:Id) (t:TN):mput (encIT m) (keyI x) (.agg t.row)=encIT (aput m x t):=mput_enc keyB_I x t m
theorem alook_B (ms:List Id) (x:Id):alook (ms.map fun y=>(y,true)) x=if x∈ms then some true else none:=by
 induction ms with
 | nil=>simp [alook]
 | cons y ms ih =>
  simp only [List.map_cons,alook]
  by_cases h:y=x
  ·subst h; simp
  ·rw [if_neg h,ih]
   have:(x∈y :: ms)↔x∈ms:=by simp; exact fun q=>absurd q.symm h
   simp only [this]
theorem mf_B (ms:List Id) (x:Id):mfind (KB ms) (keyI x)=if x∈ms then some (PVo.c (D.v (.bool true))) else none:=by
 have:=mfind_enc (ve:=fun b:Bool=>PVo.c (D.v (.bool b))) keyB_I x (ms.map fun y=>(y,true))
 rw [alook_B] at this
 rw [this]
 split <;> rfl
theorem aput_new {A B:Type} [DecidableEq A] {m:List (A×B)} {a:A} {b:B} (h:∀ p∈m,p.1≠a):aput m a b=m ++ [(a,b)]:=by
 induction m with
 | nil=>rfl
 | cons p m ih =>
  obtain ⟨k,v⟩:=p
  have h1:k≠a:=h (k,v) (List.mem_cons_self ..)
  simp only [aput,if_neg h1,List.cons_append]
  rw [ih fun p hp=>h p (List.mem_cons_of_mem _ hp)]
theorem mp_B {ms:List Id} {x:Id} (h:x ∉ ms):mput (KB ms) (keyI x) (.c (.v (.bool true)))=KB (ms ++ [x]):=by
 have:=mput_enc (ve:=fun b:Bool=>PVo.c (D.v (.bool b))) keyB_I x true (ms.map fun y=>(y,true))
 rw [aput_new (by
  intro p hp
  obtain ⟨y,hy,rfl⟩:=List.mem_map.1 hp
  exact fun q=>h (by rw [← q]; exact hy))] at this
 rw [this]
 simp [encM]
theorem alook_mem {B:Type} {m:List (Id×B)} {x:Id} {b:B} (h:alook m x=some b):x∈m.map Prod.fst:=by
 induction m with
 | nil=>cases h
 | cons p m ih =>
  obtain ⟨k,v⟩:=p
  simp only [alook] at h
  split at h
  ·rename_i q; subst q; simp
  ·exact List.mem_cons_of_mem _ (ih h)
def climbF:Nat→List (Id×TN)→List Id→Id→Id→Bool
 | 0,_,_,_,_=>false
 | n+1,m,ms,x,top=>if x=top then true else match alook m x with | none=>false | some t=>if x∈ms then false else climbF n m (ms ++ [x]) t.par top
theorem wf_set {H:List O} (h:Wf H) (r:Nat) {o:O} (ho:o.lt H.length):Wf (H.set r o):=by
 intro o' ho'
 rw [List.length_set]
 rcases List.mem_or_eq_of_mem_set ho' with q | q
 ·exact h o' q
 ·rw [q]; exact ho
structure CH (H:List O) (rt rs rm rb rmm rc:Nat) (m:List (Id×TN)) (ms:List Id) (top:Id):Prop where
 t:H[rt]? = some (.cells [.d (.v (.string top.a)),.d (.v (.int .i64 top.n))])
 s:H[rs]? = some (.cells [.mp rm])
 m:H[rm]? = some (.map KI (encIT m))
 b:H[rb]? = some (.cells [.mp rmm])
 mm:H[rmm]? = some (.map KI (KB ms))
 c:H[rc]? = some (.cells [.fn 80 [(rt,0),(rs,0),(rb,0),(rc,0)]])
 nt:rt≠rmm
 ns:rs≠rmm
 nm:rm≠rmm
 nb:rb≠rmm
 nc:rc≠rmm
theorem get_app {H:List O} {r:Nat} {o:O} (h:H[r]? = some o) (L:List O):(H ++ L)[r]? = some o:=by
 rw [List.getElem?_append_left (lt_of_get h)]; exact h
theorem CH.next {H:List O} {rt rs rm rb rmm rc:Nat} {m:List (Id×TN)} {ms:List Id} {top:Id} (h:CH H rt rs rm rb rmm rc m ms top) (ms':List Id) (L:List O) :
  CH ((H.set rmm (.map KI (KB ms'))) ++ L) rt rs rm rb rmm rc m ms' top:=by
 have hl:=lt_of_get h.mm
 have g:∀ {r:Nat} {o:O},H[r]? = some o→r≠rmm→((H.set rmm (.map KI (KB ms'))) ++ L)[r]? = some o:=fun {r o} h1 h2=>get_app (by rw [List.getElem?_set_ne (fun q=>h2 q.symm)]; exact h1) L
 exact ⟨g h.t h.nt,g h.s h.ns,g h.m h.nm,g h.b h.nb,get_app (by rw [List.getElem?_set_self hl]) L,g h.c h.nc,h.nt,h.ns,h.nm,h.nb,h.nc⟩
theorem k2080:∀ (n:Nat) (m:List (Id×TN)) (ms:List Id) (x top:Id) (H:List O) (rt rs rm rb rmm rc:Nat),CH H rt rs rm rb rmm rc m ms top→m.length+1≤ms.length+n→ms.Nodup→(∀ y∈ms,y∈m.map Prod.fst) →
  ACalls prog G0 80 [.agg (x.row.map .d),.c (.ptr rt 0),.c (.ptr rs 0),.c (.ptr rb 0),.c (.ptr rc 0)] H fun t H'=>t = .bool (climbF n m ms x top)∧∃ es,H'=H.set rmm (.map KI es)
 | 0,m,ms,x,top,H,rt,rs,rm,rb,rmm,rc,h,hf,hnd,hsub=>by
  have:=nodup_len hnd hsub
  rw [List.length_map] at this
  omega
 | n+1,m,ms,x,top,H,rt,rs,rm,rb,rmm,rc,h,hf,hnd,hsub=>by
  have hx:x.row=[.v (.string x.a),.v (.int .i64 x.n)]:=rfl
  have hlm:=lt_of_get h.mm
  have aT:=fun L=>get_app h.t L
  have aS:=fun L=>get_app h.s L
  have aM:=fun L=>get_app h.m L
  have aB:=fun L=>get_app h.b L
  have aMM:=fun L=>get_app h.mm L
  have mk:Value.agg [Value.string x.a,Value.int IntKind.i64 x.n].toArray=keyI x:=rfl
  have m1:=mf_IT m x
  have m2:=mf_B ms x
  have cf:=conf_I x
  refine acallsX (X:=[]) trivial tab hmix func80 c2080 (by rfl) fun hw=>?_
  have same:H.set rmm (.map KI (KB ms))=H:=set_same h.mm
  unfold climbF
  by_cases c:x=top
  ·rw [if_pos c]
   obtain ⟨c1,c2⟩:=id_iff.1 c
   simp -implicitDefEqProofs (disch:=omega) [gz,ir2080,b2080,hx,aT,aS,aM,aB,aMM,cellsEq,skEq,c1,c2,fillC,splice]
   exact fin_pre [] hw rfl ⟨rfl,KB ms,by simp [same]⟩
  ·rw [if_neg c]
   have c':(decide (x.a=top.a) && decide (x.n=top.n))=false:=by
    have:=fun q=>c (id_iff.2 q)
    simpa using this
   have c'':¬ (x.a=top.a∧x.n=top.n):=fun q=>c (id_iff.2 q)
   cases hl:alook m x with
   | none =>
    rw [hl] at m1
    simp -implicitDefEqProofs (disch:=omega) [gz,ir2080,b2080,hx,aT,aS,aM,aB,aMM,cellsEq,skEq,c',c'',keyOf,mk,m1,cf,PV.toV,fillC,splice,Nat.add_assoc]
    exact fin_pre [] hw rfl ⟨rfl,KB ms,by simp [same]⟩
   | some t =>
    rw [hl] at m1
    by_cases hv:x∈ms
    ·rw [if_pos hv] at m2
     have e:(match some t with | none=>false | some t=>if x∈ms then false else climbF n m (ms ++ [x]) t.par top)=false:=by simp [hv]
     rw [e]
     simp -implicitDefEqProofs (disch:=omega) [gz,ir2080,b2080,hx,aT,aS,aM,aB,aMM,cellsEq,skEq,c',c'',keyOf,mk,m1,m2,cf,trw,PV.toV,fillC,splice,Nat.add_assoc]
     exact fin_pre [] hw rfl ⟨rfl,KB ms,by simp [same]⟩
    ·rw [if_neg hv] at m2
     have e:(match some t with | none=>false | some t=>if x∈ms then false else climbF n m (ms ++ [x]) t.par top)=climbF n m (ms ++ [x]) t.par top:=by simp [hv]
     rw [e]
     have m3:=mp_B hv
     simp -implicitDefEqProofs (disch:=omega) [gz,ir2080,b2080,hx,aT,aS,aM,aB,aMM,cellsEq,skEq,c',c'',keyOf,mk,m1,m2,m3,cf,trw,PV.toV,toPV,toD,fillC,splice,Nat.add_assoc]
     have hn:=h.next (ms ++ [x])
     have aC:=fun L=>(hn L).c
     have aT2:=fun L=>(hn L).t
     simp -implicitDefEqProofs (disch:=omega) [gz,aC,aT2,fillC,splice,Nat.add_assoc]
     refine (k2080 n m (ms ++ [x]) t.par top _ rt rs rm rb rmm rc (hn _) (by simp; omega) (by rw [List.nodup_append]; exact ⟨hnd,by simp,fun a ha b hb=>by simp at hb; subst hb; exact fun q=>hv (q▸ha)⟩)
      (fun y hy=>by
       rcases List.mem_append.1 hy with hy | hy
       ·exact hsub y hy
       ·rw [List.mem_singleton.1 hy]; exact alook_mem hl)).mono ?_
     rintro t' H' ⟨rfl,es,rfl⟩
     simp -implicitDefEqProofs (disch:=omega) [gz,callK,fillC,splice]
     exact fin_junk (wf_set hw rmm trivial) (by simp) trivial ⟨rfl,es,rfl⟩
def undF (m:List (Id×TN)) (x top:Id):Bool:=climbF (m.length+1) m [] x top
theorem k2038 (m:List (Id×TN)) (x top:Id) (H:List O) (rm:Nat) (hm:H[rm]? = some (.map KI (encIT m))) :
  ACalls prog G0 38 [.c (.mp rm),.agg (x.row.map .d),.agg (top.row.map .d)] H fun t H'=>t = .bool (undF m x top)∧H'=H:=by
 have hx:x.row=[.v (.string x.a),.v (.int .i64 x.n)]:=rfl
 have ht:top.row=[.v (.string top.a),.v (.int .i64 top.n)]:=rfl
 have hl:=lt_of_get hm
 have aM:=fun L=>get_app hm L
 refine acallsX (X:=[]) trivial tab hmix func38 c2038 (by rfl) fun hw=>?_
 simp -implicitDefEqProofs (disch:=omega) [gz,ir2038,b2038,hx,ht,fillC,splice,Nat.add_assoc]
 have hx':∀ y:Id,y.row=[.v (.string y.a),.v (.int .i64 y.n)]:=fun _=>rfl
 have hC:CH (H ++ [.cells [.mp rm],.cells [.d (.v (.string x.a)),.d (.v (.int .i64 x.n))],.cells [.d (.v (.string top.a)),.d (.v (.int .i64 top.n))],.map KI [],.cells [.mp (H.length+3)],.cells [.fn 80 [(H.length+2,0),(H.length,0),(H.length+4,0),(H.length+5,0)]]])
   (H.length+2) H.length rm (H.length+4) (H.length+3) (H.length+5) m [] top:=by
  refine ⟨?_,?_,aM _,?_,?_,?_,by omega,by omega,by omega,by omega,by omega⟩
  ·rw [app_get]; rfl
  ·rw [app_get0]; rfl
  ·rw [app_get]; rfl
  ·rw [app_get]; rfl
  ·rw [app_get]; rfl
 have hk:=k2080 (m.length+1) m [] x top _ (H.length+2) H.length rm (H.length+4) (H.length+3) (H.length+5) hC (by simp) List.nodup_nil (fun y hy=>nomatch hy)
 rw [hx] at hk
 refine hk.mono ?_
 rintro t H' ⟨rfl,es,rfl⟩
 simp -implicitDefEqProofs (disch:=omega) [gz,callK,fillC,splice]
 exact fin_junk hw rfl trivial ⟨rfl,rfl⟩
def visF:Nat→List TN→Id→List Id→List Id
 | 0,_,_,out=>out
 | n+1,l,x,out=>(chF l x).foldl (fun o y=>if y∈rootI :: o then o else visF n l y (o ++ [y])) out
theorem ch_sub {l:List TN} {x y:Id} (h:y∈chF l x):y∈l.map TN.node:=by
 unfold chF at h
 obtain ⟨t,ht,rfl⟩:=List.mem_map.1 h
 exact List.mem_map_of_mem (sib_sub ht)
theorem visF_ok:∀ (n:Nat) {l:List TN} {x:Id} {out:List Id},out.Nodup→(∀ y∈out,y∈l.map TN.node)→(visF n l x out).Nodup∧(∀ y∈visF n l x out,y∈l.map TN.node)∧out.length≤(visF n l x out).length
 | 0,l,x,out,h1,h2=>⟨h1,h2,Nat.le_refl _⟩
 | n+1,l,x,out,h1,h2=>by
  unfold visF
  have key:∀ (ys:List Id) (out:List Id),(∀ y∈ys,y∈l.map TN.node)→out.Nodup→(∀ y∈out,y∈l.map TN.node) →
    (ys.foldl (fun o y=>if y∈rootI :: o then o else visF n l y (o ++ [y])) out).Nodup∧(∀ y∈ys.foldl (fun o y=>if y∈rootI :: o then o else visF n l y (o ++ [y])) out,y∈l.map TN.node) ∧
     out.length≤(ys.foldl (fun o y=>if y∈rootI :: o then o else visF n l y (o ++ [y])) out).length:=by
   intro ys
   induction ys with
   | nil=>intro out _ k1 k2; exact ⟨k1,k2,Nat.le_refl _⟩
   | cons y ys ih =>
    intro out hy k1 k2
    simp only [List.foldl_cons]
    by_cases c:y∈rootI :: out
    ·rw [if_pos c]
     exact ih out (fun z hz=>hy z (List.mem_cons_of_mem _ hz)) k1 k2
    ·rw [if_neg c]
     have hyo:y ∉ out:=fun q=>c (List.mem_cons_of_mem _ q)
     have n1:(out ++ [y]).Nodup:=by rw [List.nodup_append]; exact ⟨k1,by simp,fun a ha b hb=>by simp at hb; subst hb; exact fun q=>hyo (q▸ha)⟩
     have n2:∀ z∈out ++ [y],z∈l.map TN.node:=fun z hz=>by
      rcases List.mem_append.1 hz with hz | hz
      ·exact k2 z hz
      ·rw [List.mem_singleton.1 hz]; exact hy y (List.mem_cons_self ..)
     obtain ⟨p1,p2,p3⟩:=visF_ok n (x:=y) n1 n2
     obtain ⟨r1,r2,r3⟩:=ih _ (fun z hz=>hy z (List.mem_cons_of_mem _ hz)) p1 p2
     refine ⟨r1,r2,Nat.le_trans ?_ r3⟩
     simp at p3; omega
  exact key _ _ (fun y hy=>ch_sub hy) h1 h2
structure WH (nb:Nat) (H:List O) (rl rb ro rv rmm:Nat) (l:List TN) (out:List Id):Prop where
 l:H[rl]? = some (.cells [.d (.sl (l.map TN.row))])
 b:H[rb]? = some (.cells [.mp rmm])
 mm:H[rmm]? = some (.map KI (KB (rootI :: out)))
 o:(H[ro]? = some (.cells [.d (.v (.slice none 0 0))])∧out=[])∨∃ r,H[ro]? = some (.cells [.os r 2 0 out.length])∧H[r]? = some (.row 2 (out.map Id.row))∧nb≤r
 v:H[rv]? = some (.cells [.fn 43 [(rl,0),(rb,0),(ro,0),(rv,0)]])
 nl:rl≠rmm∧rl≠ro
 nbb:rb≠rmm∧rb≠ro
 no:ro≠rmm
 nv:rv≠rmm∧rv≠ro
 bm:nb≤rmm
 bo:nb≤ro
theorem WH.app {nb:Nat} {H:List O} {rl rb ro rv rmm:Nat} {l:List TN} {out:List Id} (h:WH nb H rl rb ro rv rmm l out) (L:List O):WH nb (H ++ L) rl rb ro rv rmm l out:=by
 refine ⟨get_app h.l L,get_app h.b L,get_app h.mm L,?_,get_app h.v L,h.nl,h.nbb,h.no,h.nv,h.bm,h.bo⟩
 rcases h.o with ⟨h1,h2⟩ | ⟨r,h1,h2,h3⟩
 ·exact .inl ⟨get_app h1 L,h2⟩
 ·exact .inr ⟨r,get_app h1 L,get_app h2 L,h3⟩
theorem WH.ro_lt {nb:Nat} {H:List O} {rl rb ro rv rmm:Nat} {l:List TN} {out:List Id} (h:WH nb H rl rb ro rv rmm l out):ro<H.length:=by
 rcases h.o with ⟨h1,_⟩ | ⟨r,h1,_⟩ <;> exact lt_of_get h1
theorem WH.step {nb:Nat} {H:List O} {rl rb ro rv rmm:Nat} {l:List TN} {out:List Id} (h:WH nb H rl rb ro rv rmm l out) {out':List Id} {L:List O} {r:Nat} (hr:L[r]? = some (.row 2 (out'.map Id.row))) :
  WH nb (((H.set rmm (.map KI (KB (rootI :: out')))) ++ L).set ro (.cells [.os (H.length+r) 2 0 out'.length])) rl rb ro rv rmm l out':=by
 have hro:=h.ro_lt
 have hlm:=lt_of_get h.mm
 have g:∀ {q:Nat} {o:O},H[q]? = some o→q≠rmm→q≠ro→(((H.set rmm (.map KI (KB (rootI :: out')))) ++ L).set ro (.cells [.os (H.length+r) 2 0 out'.length]))[q]? = some o:=fun {q o} h1 h2 h3=>by
  rw [List.getElem?_set_ne (fun e=>h3 e.symm)]
  exact get_app (by rw [List.getElem?_set_ne (fun e=>h2 e.symm)]; exact h1) L
 refine ⟨g h.l h.nl.1 h.nl.2,g h.b h.nbb.1 h.nbb.2,?_,.inr ⟨H.length+r,?_,?_,by have:=h.bo; omega⟩,g h.v h.nv.1 h.nv.2,h.nl,h.nbb,h.no,h.nv,h.bm,h.bo⟩
 ·rw [List.getElem?_set_ne h.no]
  exact get_app (by rw [List.getElem?_set_self hlm]) L
 ·rw [List.getElem?_set_self (by simp; omega)]
 ·rw [List.getElem?_set_ne (by omega),List.getElem?_append_right (by simp)]
  simpa using hr
theorem WH.get4 {H:List O} {rmm ro r:Nat} {q:Nat} {o:O} (h1:H[q]? = some o) (h2:q≠rmm) (h3:q≠r) (h4:q≠ro) (o':O) (L:List O) (o2:O) (k:Nat) (o3 o4:O) :
  ((((H.set rmm o' ++ L).set r o2).set (H.length+k) o3).set ro o4)[q]? = some o:=by
 have hl:=lt_of_get h1
 rw [List.getElem?_set_ne (fun e=>h4 e.symm),List.getElem?_set_ne (by omega),List.getElem?_set_ne (fun e=>h3 e.symm)]
 exact get_app (by rw [List.getElem?_set_ne (fun e=>h2 e.symm)]; exact h1) L
theorem WH.step2 {nb:Nat} {H:List O} {rl rb ro rv rmm:Nat} {l:List TN} {out:List Id} (h:WH nb H rl rb ro rv rmm l out) {r:Nat} (hq1:H[ro]? = some (.cells [.os r 2 0 out.length])) (hq2:H[r]? = some (.row 2 (out.map Id.row)))
  {out':List Id} {L:List O} {k:Nat} {rows:List (List D)} {len:Nat} {o2:O} (hrows:rows=out'.map Id.row) (hlen:len=out'.length) (hk:k<L.length) :
  WH nb ((((H.set rmm (.map KI (KB (rootI :: out'))) ++ L).set r o2).set (H.length+k) (.row 2 rows)).set ro (.cells [.os (H.length+k) 2 0 len])) rl rb ro rv rmm l out':=by
 subst hrows hlen
 have hro:=lt_of_get hq1
 have hlm:=lt_of_get h.mm
 have hr:=lt_of_get hq2
 have n1:rl≠r:=fun e=>by rw [← e,h.l] at hq2; cases hq2
 have n2:rb≠r:=fun e=>by rw [← e,h.b] at hq2; cases hq2
 have n3:rv≠r:=fun e=>by rw [← e,h.v] at hq2; cases hq2
 have n4:rmm≠r:=fun e=>by rw [← e,h.mm] at hq2; cases hq2
 refine ⟨WH.get4 h.l h.nl.1 n1 h.nl.2 _ _ _ _ _ _,WH.get4 h.b h.nbb.1 n2 h.nbb.2 _ _ _ _ _ _,?_,.inr ⟨H.length+k,?_,?_,by have:=h.bo; omega⟩,WH.get4 h.v h.nv.1 n3 h.nv.2 _ _ _ _ _ _,h.nl,h.nbb,h.no,h.nv,h.bm,h.bo⟩
 ·rw [List.getElem?_set_ne h.no,List.getElem?_set_ne (by omega),List.getElem?_set_ne (fun e=>n4 e.symm)]
  exact get_app (by rw [List.getElem?_set_self hlm]) L
 ·rw [List.getElem?_set_self (by simp; omega)]
 ·rw [List.getElem?_set_ne (by omega),List.getElem?_set_self (by simp; omega)]
theorem k2043 (nb:Nat):∀ (n:Nat) (l:List TN) (x:Id) (out:List Id) (H:List O) (rl rb ro rv rmm:Nat),(∀ t∈l,OkQ t.pl)→l.length<1000000000000→WH nb H rl rb ro rv rmm l out→l.length+1≤out.length+n→out.Nodup→(∀ y∈out,y∈l.map TN.node) →
  ACalls prog G0 43 [.agg (x.row.map .d),.c (.ptr rl 0),.c (.ptr rb 0),.c (.ptr ro 0),.c (.ptr rv 0)] H fun t H'=>t = .tup []∧H.length≤H'.length∧WH nb H' rl rb ro rv rmm l (visF n l x out)∧∀ q,q<nb→H'[q]? = H[q]?
 | 0,l,x,out,H,rl,rb,ro,rv,rmm,hq,hll,h,hf,hnd,hsub=>by
  have:=nodup_len hnd hsub
  rw [List.length_map] at this
  omega
 | n+1,l,x,out,H,rl,rb,ro,rv,rmm,hq,hll,h,hf,hnd,hsub=>by
  have hx:x.row=[.v (.string x.a),.v (.int .i64 x.n)]:=rfl
  have s1:x2017.sc=false:=rfl
  have hnbl:nb<H.length:=Nat.lt_of_le_of_lt h.bo h.ro_lt
  have g1:=xg2017 l x hq hll
  rw [hx] at g1
  refine acallsX (X:=[(17,x2017)]) ⟨kx2017,trivial⟩ tab hmix func43 c2043 (by rfl) fun hw=>?_
  have aL:=fun L=>get_app h.l L
  unfold visF
  have hcs:∀ y∈chF l x,y∈l.map TN.node:=fun y hy=>ch_sub hy
  obtain ⟨C,hC⟩:∃ C,C=chF l x:=⟨_,rfl⟩
  have hCl:C.length<1000000000000:=by
   rw [hC]; unfold chF; rw [List.length_map]
   have:=sib_len l x
   omega
  rw [← hC] at g1 hcs ⊢
  obtain ⟨W,hW0⟩:∃ W,W=C.foldl (fun o y=>if y∈rootI :: o then o else visF n l y (o ++ [y])) out:=⟨_,rfl⟩
  rw [← hW0]
  simp -implicitDefEqProofs (disch:=omega) [gz,ir2043,b2043,hx,aL,s1,g1,fillC,splice,toPVs,frzVs,osVs,toPV]
  refine loopE (fun k st=>∃ (j:Nat) (o:List Id) (Hj:List O),j≤C.length∧k=C.length-j∧o=(C.take j).foldl (fun o y=>if y∈rootI :: o then o else visF n l y (o ++ [y])) out∧o.Nodup∧(∀ y∈o,y∈l.map TN.node)∧out.length≤o.length∧H.length≤Hj.length∧WH nb Hj rl rb ro rv rmm l o∧(∀ q,q<nb→Hj[q]? = H[q]?) ∧
    st=⟨ofL [(1,.v (.c (.ptr rl 0))),(2,.v (.c (.ptr rb 0))),(3,.v (.c (.ptr ro 0))),(4,.v (.c (.ptr rv 0))),(10,.v (.c (.d (.sl (C.map Id.row))))),(11,.int .i64 C.length),(12,.int .i64 j)],Hj⟩)
   (fun st=>H.length≤st.hp.length∧WH nb st.hp rl rb ro rv rmm l W∧∀ q,q<nb→st.hp[q]? = H[q]?) ?_ ?_ ?_
  ·refine wk_keep [1,2,3,4,10,11,12] ⟨_,0,out,_,by omega,rfl,rfl,hnd,hsub,Nat.le_refl _,?_,h.app [.cells [.d (.v (.string x.a)),.d (.v (.int .i64 x.n))]],fun q hq=>List.getElem?_append_left (by omega),?_⟩
   ·simp
   ·simp
  ·rintro J M hJ hM k st ⟨j,o,Hj,hj,rfl,ho,k1,k2,k3,k4,hW,k5,rfl⟩
   by_cases hlt:j<C.length
   ·obtain ⟨y,hy⟩:∃ y,nth C j=y:=⟨_,rfl⟩
    have hyC:y∈C:=by rw [← hy]; exact nth_mem hlt
    have hstep:(C.take (j+1)).foldl (fun o y=>if y∈rootI :: o then o else visF n l y (o ++ [y])) out=if y∈rootI :: o then o else visF n l y (o ++ [y]):=by
     rw [take_nth hlt,List.foldl_append,← ho,hy]; rfl
    have hyr:∀ y:Id,y.row=[.v (.string y.a),.v (.int .i64 y.n)]:=fun _=>rfl
    have mk:Value.agg [Value.string y.a,Value.int IntKind.i64 y.n].toArray=keyI y:=rfl
    have m2:=mf_B (rootI :: o) y
    have cf:=conf_I y
    have aB:=fun L=>get_app hW.b L
    have aMM:=fun L=>get_app hW.mm L
    by_cases c:y∈rootI :: o
    ·rw [if_pos c] at m2 hstep
     simp -implicitDefEqProofs (disch:=omega) [gz,hlt,wrap64,nth_map,hy,hyr,aB,aMM,keyOf,mk,m2,cf,PV.toV,fillC,splice]
     subst hJ
     refine wk_keep [1,2,3,4,10,11,12] ⟨C.length-(j+1),by omega,j+1,o,_,by omega,rfl,hstep.symm,k1,k2,k3,?_,hW.app [.cells [.d (.v (.string y.a)),.d (.v (.int .i64 y.n))]],fun q hq=>by rw [List.getElem?_append_left (by omega)]; exact k5 q hq,?_⟩
     ·simp; omega
     ·simp
    ·rw [if_neg c] at m2 hstep
     have m3:=mp_B c
     have hlm:=lt_of_get hW.mm
     have hWo:=hW.o
     have n1:(o ++ [y]).Nodup:=by rw [List.nodup_append]; exact ⟨k1,by simp,fun a ha b hb=>by simp at hb; subst hb; exact fun q=>c (List.mem_cons_of_mem _ (q▸ha))⟩
     have n2:∀ z∈o ++ [y],z∈l.map TN.node:=fun z hz=>by
      rcases List.mem_append.1 hz with hz | hz
      ·exact k2 z hz
      ·rw [List.mem_singleton.1 hz]; exact hcs y hyC
     have hol:o.length≤l.length:=by
      have:=nodup_len k1 k2
      rwa [List.length_map] at this
     have g:∀ {r:Nat} {q:O},Hj[r]? = some q→r≠rmm→∀ (o':O) L,((Hj.set rmm o') ++ L)[r]? = some q:=fun {r q} h1 h2 o' L=>get_app (by rw [List.getElem?_set_ne (fun q=>h2 q.symm)]; exact h1) L
     rcases hWo with ⟨q1,q2⟩ | ⟨r,q1,q2,q3⟩
     ·have aO:=g q1 hW.no
      subst q2
      have aV:∀ o' L o'',((Hj.set rmm o' ++ L).set ro o'')[rv]? = some (.cells [.fn 43 [(rl,0),(rb,0),(ro,0),(rv,0)]]):=fun o' L o''=>by
       rw [List.getElem?_set_ne (fun q=>hW.nv.2 q.symm)]; exact g hW.v hW.nv.1 o' L
      have aY:∀ o' L o'',((Hj.set rmm o' ++ O.cells [.d (.v (.string y.a)),.d (.v (.int .i64 y.n))] :: L).set ro o'')[Hj.length]? = some (.cells [.d (.v (.string y.a)),.d (.v (.int .i64 y.n))]):=fun o' L o''=>by
       have hro:=lt_of_get q1
       rw [List.getElem?_set_ne (by omega),List.getElem?_append_right (by simp)]; simp
      simp -implicitDefEqProofs (disch:=omega) [gz,hlt,wrap64,nth_map,hy,hyr,aB,aMM,keyOf,mk,m2,m3,cf,PV.toV,toPV,toD,fillC,fillR,splice,aO,aV,aY,Nat.add_assoc]
      refine (k2043 nb n l y [y] _ rl rb ro rv rmm hq hll (WH.step hW (out':=[y]) (r:=2) rfl) (by have k3':out.length≤0:=k3; simp only [List.length_cons,List.length_nil]; omega) n1 n2).mono ?_
      rintro t H' ⟨rfl,hl1,hW2,hfr⟩
      simp -implicitDefEqProofs (disch:=omega) [gz,callK,wrap64]
      subst hJ
      refine wk_keep [1,2,3,4,10,11,12] ⟨C.length-(j+1),by omega,j+1,_,H',by omega,rfl,hstep.symm,?_,?_,?_,?_,hW2,?_,?_⟩
      ·exact (visF_ok n n1 n2).1
      ·exact (visF_ok n n1 n2).2.1
      ·exact Nat.le_trans (Nat.le_trans k3 (Nat.zero_le _)) (visF_ok n n1 n2).2.2
      ·simp at hl1; omega
      ·intro q hq
       have hbm:=hW.bm
       have hbo:=hW.bo
       rw [hfr q hq,List.getElem?_set_ne (by omega),List.getElem?_append_left (by simp; omega),List.getElem?_set_ne (by omega)]
       exact k5 q hq
      ·simp
     ·have aO:=g q1 hW.no
      have nr:r≠rmm:=fun e=>by rw [e,hW.mm] at q2; cases q2
      have aR:=g q2 nr
      have hrl:=lt_of_get q2
      have hro:=lt_of_get q1
      have nro:ro≠r:=fun e=>by rw [← e,q1] at q2; cases q2
      have nrv:rv≠r:=fun e=>by rw [← e,hW.v] at q2; cases q2
      have g2:∀ {q:Nat} {o:O},Hj[q]? = some o→q≠rmm→q≠r→∀ (o' o2:O) L,(((Hj.set rmm o').set r o2) ++ L)[q]? = some o:=fun {q o} h1 h2 h3 o' o2 L =>
       get_app (by rw [List.getElem?_set_ne (fun e=>h3 e.symm),List.getElem?_set_ne (fun e=>h2 e.symm)]; exact h1) L
      have aO2:=g2 q1 hW.no nro
      have aV4:=WH.get4 (r:=r) hW.v hW.nv.1 nrv hW.nv.2
      have aY4:∀ o' L o2 k o3 o4,((((Hj.set rmm o' ++ O.cells [.d (.v (.string y.a)),.d (.v (.int .i64 y.n))] :: L).set r o2).set (Hj.length+(k+1)) o3).set ro o4)[Hj.length]? = some (.cells [.d (.v (.string y.a)),.d (.v (.int .i64 y.n))]):=fun o' L o2 k o3 o4=>by
       rw [List.getElem?_set_ne (by omega),List.getElem?_set_ne (by omega),List.getElem?_set_ne (by omega),List.getElem?_append_right (by simp)]; simp
      have hb24:(o.length+1)*24≤140737488355328:=by omega
      simp -implicitDefEqProofs (disch:=omega) [gz,hlt,wrap64,nth_map,hy,hyr,aB,aMM,keyOf,mk,m2,m3,cf,PV.toV,toPV,toD,fillC,fillR,splice,aO,aR,aO2,hb24,aV4,aY4,Nat.add_assoc]
      refine (k2043 nb n l y (o ++ [y]) _ rl rb ro rv rmm hq hll (WH.step2 hW q1 q2 (out':=o ++ [y]) (k:=2) (by simp [hyr]) (by simp) (by simp)) (by simp; omega) n1 n2).mono ?_
      rintro t H' ⟨rfl,hl1,hW2,hfr⟩
      simp -implicitDefEqProofs (disch:=omega) [gz,callK,wrap64]
      subst hJ
      refine wk_keep [1,2,3,4,10,11,12] ⟨C.length-(j+1),by omega,j+1,_,H',by omega,rfl,hstep.symm,?_,?_,?_,?_,hW2,?_,?_⟩
      ·exact (visF_ok n n1 n2).1
      ·exact (visF_ok n n1 n2).2.1
      ·exact Nat.le_trans (Nat.le_trans k3 (by simp)) (visF_ok n n1 n2).2.2
      ·simp at hl1; omega
      ·intro q hq
       have hbm:=hW.bm
       have hbo:=hW.bo
       rw [hfr q hq,List.getElem?_set_ne (by omega),List.getElem?_set_ne (by omega),List.getElem?_set_ne (by omega),List.getElem?_append_left (by simp; omega),List.getElem?_set_ne (by omega)]
       exact k5 q hq
      ·simp
   ·have:j=C.length:=by omega
    subst this
    rw [List.take_length] at ho
    simp -implicitDefEqProofs (disch:=omega) [gz,hlt]
    subst hM
    exact ⟨k4,by rw [hW0,← ho]; exact hW,k5⟩
  ·rintro ⟨sl,Hx⟩ ⟨k1,k2,k3⟩
   simp -implicitDefEqProofs (disch:=omega) [gz,wrap64]
   exact fin_here k1 ⟨rfl,k1,k2,k3⟩
def walkF (l:List TN):List Id:=visF (l.length+1) l rootI []
theorem keep_app {α:Type} {H H':List α} (hl:H.length≤H'.length) (h:∀ q,q<H.length→H'[q]? = H[q]?):H'=H ++ H'.drop H.length:=by
 have:H'.take H.length=H:=by
  apply List.ext_getElem?
  intro i
  rw [List.getElem?_take]
  split
  ·rename_i q; exact h i q
  ·rename_i q; rw [List.getElem?_eq_none (by omega)]
 conv=>lhs; rw [← List.take_append_drop H.length H']
 rw [this]
theorem k2015 (l:List TN) (hq:∀ t∈l,OkQ t.pl) (hl:l.length<1000000000000) (H:List O) :
  ACalls prog G0 15 [.c (.d (.sl (l.map TN.row)))] H fun t H'=>t = .v (.c (.d (.sl ((walkF l).map Id.row))))∧H'=H:=by
 refine acallsX (X:=[]) trivial tab hmix func15 c2015 (by rfl) fun hw=>?_
 have mk:Value.agg [Value.string ⟨#[]⟩,Value.int IntKind.i64 0].toArray=keyI rootI:=rfl
 have m3:mput [] (keyI rootI) (.c (.v (.bool true)))=KB (rootI :: []):=rfl
 have cf:=conf_I rootI
 simp -implicitDefEqProofs (disch:=omega) [gz,ir2015,b2015,keyOf,mk,m3,cf,toPV,toD,fillC,splice,Nat.add_assoc]
 have hW:WH H.length (H ++ [.cells [.d (.sl (l.map TN.row))],.cells [.d (.v (.slice none 0 0))],.map KI (KB (rootI :: [])),.cells [.mp (H.length+2)],.cells [.fn 43 [(H.length,0),(H.length+3,0),(H.length+1,0),(H.length+4,0)]]])
   H.length (H.length+3) (H.length+1) (H.length+4) (H.length+2) l []:=by
  refine ⟨?_,?_,?_,.inl ⟨?_,rfl⟩,?_,⟨by omega,by omega⟩,⟨by omega,by omega⟩,by omega,⟨by omega,by omega⟩,by omega,by omega⟩
  ·rw [app_get0]; rfl
  ·rw [app_get]; rfl
  ·rw [app_get]; rfl
  ·rw [app_get]; rfl
  ·rw [app_get]; rfl
 have hk:=k2043 H.length (l.length+1) l rootI [] _ H.length (H.length+3) (H.length+1) (H.length+4) (H.length+2) hq hl hW (by simp) List.nodup_nil (fun y hy=>nomatch hy)
 rw [show rootI.row=[.v (.string ⟨#[]⟩),.v (.int .i64 0)] from rfl] at hk
 refine hk.mono ?_
 rintro t H' ⟨rfl,hl1,hW2,hfr⟩
 rw [show visF (l.length+1) l rootI []=walkF l from rfl] at hW2
 have hH':H'=H ++ H'.drop H.length:=keep_app (by simp at hl1; omega) (fun q hq2=>by rw [hfr q hq2,List.getElem?_append_left hq2])
 have hbo:=hW2.bo
 rcases hW2.o with ⟨q1,q2⟩ | ⟨r,q1,q2,q3⟩
 ·simp -implicitDefEqProofs (disch:=omega) [gz,callK,q1,fillC,splice]
  rw [q2,hH']
  exact fin_pre_pv (p:=.c (.sl [])) (L':=H'.drop H.length) hw (by simp [toPV,toD]) (by simp [frz,frz1,V.cells]) ⟨rfl,rfl⟩
 ·simp -implicitDefEqProofs (disch:=omega) [gz,callK,q1,fillC,splice]
  have hrl:=lt_of_get q2
  rw [hH'] at q2 ⊢
  refine fin_pre_pv (p:=.c (.sl ((walkF l).map Id.row))) (L':=(H'.drop H.length).set (r-H.length) (.frow 2 ((walkF l).map Id.row))) hw ?_ ?_ ⟨rfl,rfl⟩
  ·simp [toPV,toD,q2,List.take_of_length_le]
  ·simp only [frz,frz1,V.cells,q2]
   rw [List.set_append_right _ _ q3]
def x2015:XE:=mkX false (fun (l:List TN)=>[.c (.sl (l.map TN.row))]) (fun l=>(∀ t∈l,OkQ t.pl)∧l.length<1000000000000) (fun l=>.v (.c (.d (.sl ((walkF l).map Id.row)))))
theorem kx2015:Contract prog G0 15 x2015:=mkX_data fun l h H=>k2015 l h.1 h.2 H
theorem xg2015 (l:List TN) (hq:∀ t∈l,OkQ t.pl) (hl:l.length<1000000000000):x2015.g [.c (.sl (l.map TN.row))]=some (True,.v (.c (.d (.sl ((walkF l).map Id.row))))):=mkX_g inj1T l ⟨hq,hl⟩
open Go Go.Proofs Go.Aw Go.Sort Go.Lib
theorem w127 (x:ByteArray) (w:World):Calls prog 127 #[.string x] w fun e w'=>e = .returned (.bool false)∧w'=w:=by
 go_enter func127,Tryz.ntmps127
 go_wp2
 go_ret
 exact ⟨by simp,rfl⟩
theorem w128 (x:Int) (w:World):Calls prog 128 #[.int .i64 x] w fun e w'=>e = .returned (.bool false)∧w'=w:=by
 go_enter func128,Tryz.ntmps128
 go_wp2
 go_ret
 exact ⟨by simp,rfl⟩
theorem w84 (x y:ByteArray) (w:World):Calls prog 84 #[.string x,.string y] w fun e w'=>e = .returned (.int .i64 (cmpA x y))∧w'=w:=by
 have hb:Op.bytesLess x.toList y.toList=decide (cmpS x y<0):=strLt_eq x y
 have hg:∀ w,(binOp .gtr 9 (.string x) (.string y)).run prog w = .ok (.bool (decide (0<cmpS x y))) w:=fun w=>by
  have e:decide (0<cmpS x y) = !(strLt x y || decide (x=y)):=by
   have h:=cmpS_eq x y
   rw [strLt_eq,Bool.eq_iff_iff]
   simp
   constructor
   ·intro q; exact ⟨by omega,fun q2=>by rw [h.2 q2] at q; omega⟩
   ·rintro ⟨q1,q2⟩
    have:cmpS x y≠0:=fun q=>q2 (h.1 q)
    omega
  rw [e]; simp [binOp,Op.stringOp,strLt,toList_eq_decide]
 have hr:cmpA x y=if cmpS x y<0 then -1 else if 0<cmpS x y then 1 else 0:=rfl
 rw [hr]
 obtain ⟨z,hz⟩:∃ z,z=cmpS x y:=⟨_,rfl⟩
 rw [← hz] at hb hg ⊢
 clear hr hz
 go_enter func84,Tryz.ntmps84
 go_wp2_with (go_at_call 127; refine (w127 _ _).mono ?_; rintro e w' ⟨rfl,hw⟩; rw [hw])
 all_goals (go_ret; refine ⟨?_,rfl⟩; (repeat' split) <;> first | rfl | (exfalso; omega) | (exfalso; simp [hb] at *; omega))
theorem w85 (x y:Int) (w:World):Calls prog 85 #[.int .i64 x,.int .i64 y] w fun e w'=>e = .returned (.int .i64 (cmpI x y))∧w'=w:=by
 go_enter func85,Tryz.ntmps85
 go_wp2_with (go_at_call 128; refine (w128 _ _).mono ?_; rintro e w' ⟨rfl,hw⟩; rw [hw])
 all_goals (go_ret; refine ⟨?_,rfl⟩)
 all_goals (unfold cmpI; (repeat' split) <;> first | rfl | (exfalso; omega))
theorem w83 (x y:Int) (b cap:Nat) (w:World) (h0:w.cell? ⟨b,0,none⟩=some (.int .i64 x)) (h1:w.cell? ⟨b,1,none⟩=some (.int .i64 y)) :
  Calls prog 83 #[.slice (some ⟨b,0,none⟩) 2 cap] w fun e w'=>e = .returned (.int .i64 (orI [x,y]))∧w'=w:=by
 have hr:orI [x,y]=if x≠0 then x else if y≠0 then y else 0:=rfl
 rw [hr]
 go_enter func83,Tryz.ntmps83
 go_wp2
 go_rounds 3
 all_goals (go_ret; refine ⟨?_,rfl⟩; (repeat' split) <;> first | rfl | (exfalso; simp_all; done) | (simp_all; done))
theorem cell_new (W:World) (cs:Array Value) (t:TypeId) (j:Nat) (v:Value) (N:Nat) (hN:N=W.heap.size) (h:cs[j]? = some v):((W.alloc (.cells cs t)).drew).cell? ⟨N,j,none⟩=some v:=by
 subst hN
 have e:((W.alloc (.cells cs t)).drew).heap=W.heap.push (.cells cs t):=rfl
 simp only [World.cell?,e,Array.getElem?_push_size]
 simpa using h
theorem gr3 (W:World) (A B C:Obj):(((W.alloc A).alloc B).alloc C).drew=grow (W.drewN 1) (#[A] ++ #[B] ++ #[C]):=by
 rw [alloc_eq_grow,alloc_eq_grow,alloc_eq_grow,grow_grow,grow_grow]; rfl
theorem gr2 (W:World) (A B:Obj) (q:Nat) (os:Array Obj):grow (((W.alloc A).alloc B).drewN q) os=grow (W.drewN q) (#[A] ++ #[B] ++ os):=by
 rw [alloc_eq_grow,alloc_eq_grow,grow_grow]
 show grow (grow (W.drewN q) _) os=_
 rw [grow_grow]
theorem w41 (a b:Id) (w:World):Calls prog 41 #[.agg #[.string a.a,.int .i64 a.n],.agg #[.string b.a,.int .i64 b.n]] w fun e w'=>e = .returned (.int .i64 (lessZ a b))∧∃ q os',w'=grow (w.drewN q) os':=by
 have hr:lessZ a b=orI [cmpA a.a b.a,cmpI a.n b.n]:=rfl
 rw [hr]
 obtain ⟨a,n⟩:=a
 obtain ⟨b,m⟩:=b
 show Calls _ _ _ _ fun e w'=>e = .returned (.int .i64 (orI [cmpA a b,cmpI n m]))∧_
 have k84:=fun W=>w84 a b W
 have k85:=fun W=>w85 n m W
 obtain ⟨u,hu⟩:∃ u,u=cmpA a b:=⟨_,rfl⟩
 obtain ⟨v,hv⟩:∃ v,v=cmpI n m:=⟨_,rfl⟩
 rw [← hu] at k84 ⊢
 rw [← hv] at k85 ⊢
 obtain ⟨z,hz⟩:∃ z,z=orI [u,v]:=⟨_,rfl⟩
 rw [← hz]
 clear hr hu hv
 have k83:=fun b c W h0 h1=>hz▸w83 u v b c W h0 h1
 clear hz
 go_enter func41,Tryz.ntmps41
 go_wp2
 go_region_held3 (fun w'=>w'.cell? ⟨w.heap.size,0,none⟩=some (.string a)∧w'.cell? ⟨w.heap.size,1,none⟩=some (.int .i64 n)∧w'.cell? ⟨w.heap.size+1,0,none⟩=some (.string b)∧w'.cell? ⟨w.heap.size+1,1,none⟩=some (.int .i64 m)) (go_keep)
  (first | (go_at_call 84; refine (k84 _).mono ?_; rintro e w' ⟨rfl,rfl⟩) | (go_at_call 85; refine (k85 _).mono ?_; rintro e w' ⟨rfl,rfl⟩) | (go_at_call 83; refine (k83 _ _ _ (cell_new _ _ _ _ _ _ (by simp) (by rfl)) (cell_new _ _ _ _ _ _ (by simp) (by rfl))).mono ?_; rintro e w' ⟨rfl,rfl⟩))
 all_goals go_wp2
 all_goals (go_ret; exact ⟨rfl,1,_,gr3 _ _ _ _⟩)
def cmpN' (a b:TN):Int:=lessZ a.node b.node
def encN (t:TN):List Value:=[.string t.node.a,.int .i64 t.node.n,.string t.par.a,.int .i64 t.par.n,.bool t.pl.neg,.string t.pl.num,.string t.pl.den,.string t.kind]
theorem w40 (s t:TN) (w:World):Calls prog 40 #[.agg (encN s).toArray,.agg (encN t).toArray] w fun e w'=>e = .returned (.int .i64 (lessZ s.node t.node))∧∃ q os',w'=grow (w.drewN q) os':=by
 obtain ⟨⟨a1,a2⟩,⟨a3,a4⟩,⟨a5,a6,a7⟩,a8⟩:=s
 obtain ⟨⟨b1,b2⟩,⟨b3,b4⟩,⟨b5,b6,b7⟩,b8⟩:=t
 have k41:=fun W=>w41 ⟨a1,a2⟩ ⟨b1,b2⟩ W
 show Calls _ _ _ _ fun e w'=>e = .returned (.int .i64 (lessZ ⟨a1,a2⟩ ⟨b1,b2⟩))∧_
 obtain ⟨z,hz⟩:∃ z,z=lessZ ⟨a1,a2⟩ ⟨b1,b2⟩:=⟨_,rfl⟩
 rw [← hz] at k41 ⊢
 clear hz
 simp only [encN]
 go_enter func40,Tryz.ntmps40
 go_wp2_with (go_at_call 41; refine (k41 _).mono ?_; rintro e w' ⟨rfl,q,os',rfl⟩)
 all_goals (go_ret; exact ⟨rfl,q,_,gr2 _ _ _ _ _⟩)
theorem cmpLN (blk off size:Nat) (w:World):CmpLays prog 40 #[] encN 8 cmpN' blk off size w:=fun _ _ _ _ x y=>w40 x y _
open Go Go.Proofs Go.Aw Go.Sort Go.Shelf
def renF:Go.Shelf.Ren:=⟨fun n=>match n with | 6=>39 | 14=>81 | 15=>82 | 20=>117 | 21=>118 | 22=>119 | 23=>120 | 24=>121 | 25=>122 | 26=>123 | 27=>124 | 28=>125 | 29=>126 | 46=>149 | 47=>150 | 48=>151 | 49=>152 | 50=>153 | 57=>165 | n=>n,fun n=>match n with | 0=>0 | 3=>3 | 4=>4 | 5=>5 | 9=>9 | 22=>22 | 24=>40 | 25=>72 | 39=>105 | 45=>127 | 46=>128 | 50=>132 | 53=>114 | 55=>95 | 66=>147 | 70=>151 | 76=>163 | 77=>164 | n=>n,fun n=>n⟩
theorem lyF6:SlLaysF0.n6 prog renF :=
  { mixed:=hmix
    f6:=⟨"slices.SortFunc[[]voussoir/api.TreeNode,voussoir/api.TreeNode]",by decide,func39.trans (congrArg some (by kernel_rfl))⟩
    f14:=⟨"slices.pdqsortCmpFunc[voussoir/api.TreeNode]",by decide,func81.trans (congrArg some (by kernel_rfl))⟩
    f15:=func82.trans (congrArg some (by kernel_rfl))
    f20:=⟨"slices.insertionSortCmpFunc[voussoir/api.TreeNode]",by decide,func117.trans (congrArg some (by kernel_rfl))⟩
    f21:=⟨"slices.heapSortCmpFunc[voussoir/api.TreeNode]",by decide,func118.trans (congrArg some (by kernel_rfl))⟩
    f22:=⟨"slices.breakPatternsCmpFunc[voussoir/api.TreeNode]",by decide,func119.trans (congrArg some (by kernel_rfl))⟩
    f23:=⟨"slices.choosePivotCmpFunc[voussoir/api.TreeNode]",by decide,func120.trans (congrArg some (by kernel_rfl))⟩
    f24:=⟨"slices.reverseRangeCmpFunc[voussoir/api.TreeNode]",by decide,func121.trans (congrArg some (by kernel_rfl))⟩
    f25:=⟨"slices.partialInsertionSortCmpFunc[voussoir/api.TreeNode]",by decide,func122.trans (congrArg some (by kernel_rfl))⟩
    f26:=⟨"slices.partitionEqualCmpFunc[voussoir/api.TreeNode]",by decide,func123.trans (congrArg some (by kernel_rfl))⟩
    f27:=⟨"slices.partitionCmpFunc[voussoir/api.TreeNode]",by decide,func124.trans (congrArg some (by kernel_rfl))⟩
    f28:=func125.trans (congrArg some (by kernel_rfl))
    f29:=func126.trans (congrArg some (by kernel_rfl))
    f46:=⟨"slices.siftDownCmpFunc[voussoir/api.TreeNode]",by decide,func149.trans (congrArg some (by kernel_rfl))⟩
    f47:=func150.trans (congrArg some (by kernel_rfl))
    f48:=func151.trans (congrArg some (by kernel_rfl))
    f49:=⟨"slices.medianAdjacentCmpFunc[voussoir/api.TreeNode]",by decide,func152.trans (congrArg some (by kernel_rfl))⟩
    f50:=⟨"slices.medianCmpFunc[voussoir/api.TreeNode]",by decide,func153.trans (congrArg some (by kernel_rfl))⟩
    f57:=⟨"slices.order2CmpFunc[voussoir/api.TreeNode]",by decide,func165.trans (congrArg some (by kernel_rfl))⟩
    t0:=Tryz.underlying0
    a0:=Tryz.isAgg0
    z0:=Tryz.sizeOf0
    v0:=Tryz.zeroValue0
    t3:=Tryz.underlying3
    a3:=Tryz.isAgg3
    z3:=Tryz.sizeOf3
    v3:=Tryz.zeroValue3
    t4:=Tryz.underlying4
    a4:=Tryz.isAgg4
    z4:=Tryz.sizeOf4
    v4:=Tryz.zeroValue4
    t5:=Tryz.underlying5
    a5:=Tryz.isAgg5
    z5:=Tryz.sizeOf5
    v5:=Tryz.zeroValue5
    t9:=Tryz.underlying9
    a9:=Tryz.isAgg9
    z9:=Tryz.sizeOf9
    v9:=Tryz.zeroValue9
    t22:=Tryz.underlying22
    a22:=Tryz.isAgg22
    z22:=Tryz.sizeOf22
    v22:=Tryz.zeroValue22
    t25:=Tryz.underlying72
    a25:=Tryz.isAgg72
    z25:=Tryz.sizeOf72
    v25:=Tryz.zeroValue72
    t39:=Tryz.underlying105
    a39:=Tryz.isAgg105
    z39:=Tryz.sizeOf105
    v39:=Tryz.zeroValue105
    t45:=Tryz.underlying127
    a45:=Tryz.isAgg127
    z45:=Tryz.sizeOf127
    v45:=Tryz.zeroValue127
    t46:=Tryz.underlying128
    a46:=Tryz.isAgg128
    z46:=Tryz.sizeOf128
    v46:=Tryz.zeroValue128
    t50:=Tryz.underlying132
    a50:=Tryz.isAgg132
    z50:=Tryz.sizeOf132
    v50:=Tryz.zeroValue132
    t53:=Tryz.underlying114
    a53:=Tryz.isAgg114
    z53:=Tryz.sizeOf114
    v53:=Tryz.zeroValue114
    t55:=Tryz.underlying95
    a55:=Tryz.isAgg95
    z55:=Tryz.sizeOf95
    v55:=Tryz.zeroValue95
    t66:=Tryz.underlying147
    a66:=Tryz.isAgg147
    z66:=Tryz.sizeOf147
    v66:=Tryz.zeroValue147
    t70:=Tryz.underlying151
    a70:=Tryz.isAgg151
    z70:=Tryz.sizeOf151
    v70:=Tryz.zeroValue151
    t76:=Tryz.underlying163
    a76:=Tryz.isAgg163
    z76:=Tryz.sizeOf163
    v76:=Tryz.zeroValue163
    t77:=Tryz.underlying164
    a77:=Tryz.isAgg164
    z77:=Tryz.sizeOf164
    v77:=Tryz.zeroValue164 }
end Go.Aw.Try
namespace Go.Aw
open Go Go.Proofs Go.Sort
section
variable {P:Program} {G:Gl} {α:Type} [Inhabited α] (enc:α→List Value) (k:Nat)
theorem row_holdsK (hk0:0<k) (hk:∀ x,(enc x).length=k) {ρ:Nat→Option Nat} {H:List O} {w:World} {r:Nat} {ss:List α} (hH:HRel P ρ H w) (hr:H[r]? = some (.row k (ss.map fun x=>(enc x).map D.v))) {v:Value} (hv:VRel P (ctx ρ H w) (.c (.os r k 0 ss.length)) v) (h0:ss≠[]) :
  ∃ b c e cap,ρ r=some b∧w.heap[b]? = some (.cells c e (0,0))∧ss.length*k≤c.size∧v = .slice (some ⟨b,0,none⟩) ss.length cap∧b<w.heap.size∧HoldsK enc k w b 0 ss.toArray:=by
 have hp:0<ss.length:=List.length_pos_iff.2 h0
 obtain ⟨_,h | ⟨b,cap,e,n,h1,h2,h3,h4,h5⟩⟩:=hv
 ·omega
 have ho:=(hH.objs r _ hr).2
 rcases ho with ⟨_,q⟩ | ⟨a,c,e',q1,q2,q3⟩
 ·exact absurd (List.map_eq_nil_iff.1 q) h0
 have q1:ρ r=some a:=q1
 have h1:ρ r=some b:=h1
 rw [h1] at q1
 injection q1 with q1
 subst q1
 have hlen:ss.length*k≤c.size:=by have:=q3.1; rw [List.length_map] at this; omega
 refine ⟨b,c,e',cap,h1,q2,hlen,by simpa using h2,(hH.small r b h1).2,fun j hj=>?_⟩
 rw [Go.Sort.size_flatK] at hj
 have hj:j<ss.length*k:=hj
 have hw:w.heap[b]? = some (.cells c e' (0,0)):=q2
 have hi:j / k<ss.length:=(Nat.div_lt_iff_lt_mul hk0).2 hj
 have hm:j % k<k:=Nat.mod_lt _ hk0
 have e0:ss.toArray[j / k]! = ss[j / k]'hi:=by rw [getElem!_pos ss.toArray (j / k) (by simpa using hi)]; simp
 have hx:(ss.map fun x=>(enc x).map D.v)[j / k]? = some ((enc (ss[j / k]'hi)).map D.v):=by simp [hi]
 have hy:((enc (ss[j / k]'hi)).map D.v)[j % k]? = some (.v (enc (ss[j / k]'hi))[j % k]!):=by
  rw [List.getElem?_map,List.getElem?_eq_getElem (by rw [hk]; exact hm),getElem!_pos _ _ (by rw [hk]; exact hm)]; rfl
 obtain ⟨u,hu,hd⟩:=q3.2.2 _ _ _ _ hx hy
 have hu2:=drel_v hd
 refine ⟨?_,by simp [World.frozen?,hw]⟩
 have e1:w.cell? ⟨b,0+j,none⟩=c[j]? := by simp [World.cell?,hw]
 rw [e1,get_flatK enc k _ j hj,e0]
 rw [Nat.div_add_mod' j k,hu2] at hu
 exact hu
theorem flat_get (hk0:0<k) (hk:∀ x,(enc x).length=k) (ts:List α) (c:Array Value) (hc:ts.length*k≤c.size) {i j:Nat} {x:α} {d:Value} (hi:ts[i]? = some x) (hj:(enc x)[j]? = some d) :
  (putCells id 0 (Go.Sort.flatK enc k ts.toArray) c)[i*k+j]? = some d:=by
 have h1:i<ts.length:=lt_of_get hi
 have h2:j<k:=by have:=lt_of_get hj; rwa [hk] at this
 have h3:i*k+j<ts.length*k:=by
  have:(i+1)*k≤ts.length*k:=Nat.mul_le_mul_right k h1
  rw [Nat.add_mul,Nat.one_mul] at this
  omega
 simp only [putCells,Array.getElem?_mapIdx]
 rw [Array.getElem?_eq_getElem (by omega),Option.map_some]
 rw [if_pos ⟨by omega,by simp; exact h3⟩]
 rw [Nat.sub_zero,get_flatK enc k _ _ (by simpa using h3)]
 have e1:(i*k+j) / k=i:=by rw [Nat.mul_comm,Nat.mul_add_div hk0,Nat.div_eq_of_lt h2,Nat.add_zero]
 have e2:(i*k+j) % k=j:=by rw [Nat.mul_comm,Nat.mul_add_mod,Nat.mod_eq_of_lt h2]
 rw [e1,e2]
 have e3:ts.toArray[i]! = x:=by
  rw [getElem!_pos ts.toArray i (by simpa using h1)]
  simp
  rw [List.getElem?_eq_getElem h1] at hi
  injection hi
 rw [e3]
 rw [List.getElem!_eq_getElem?_getD,hj]
 rfl
theorem row_putK (hk0:0<k) (hk:∀ x,(enc x).length=k) (h1c:∀ x,∀ v∈enc x,v.oneCell'=true) {ρ:Nat→Option Nat} {H:List O} {w:World} {r b:Nat} {c:Array Value} {e:TypeId} {ss ts:List α} (hH:HRel P ρ H w) (hr:H[r]? = some (.row k (ss.map fun x=>(enc x).map D.v))) (hρ:ρ r=some b)
  (hb:w.heap[b]? = some (.cells c e (0,0))) (hc:ts.length*k≤c.size) (n:Nat) (os:Array Obj) :
  HRel P ρ (H.set r (.row k (ts.map fun x=>(enc x).map D.v))) (sortWorldK enc k w b 0 n ts.toArray os) ∧
   (ctx ρ H w).le (ctx ρ (H.set r (.row k (ts.map fun x=>(enc x).map D.v))) (sortWorldK enc k w b 0 n ts.toArray os)):=by
 have hlt:b<w.heap.size:=(hH.small r b hρ).2
 have hpz:(putCells id 0 (Go.Sort.flatK enc k ts.toArray) c).size=c.size:=by simp [putCells]
 have hsh:Obj.shape (.cells (putCells id 0 (Go.Sort.flatK enc k ts.toArray) c) e (0,0))=Obj.shape (.cells c e (0,0)):=by simp [Obj.shape,hpz]
 have le1:=HRel.le_setB (ρ:=ρ) (H:=H) hr rfl hρ hb hsh (.row k (ts.map fun x=>(enc x).map D.v)) rfl
 have h1:HRel P ρ (H.set r (.row k (ts.map fun x=>(enc x).map D.v))) (setB w b (.cells (putCells id 0 (Go.Sort.flatK enc k ts.toArray) c) e (0,0))):=by
  refine hH.setB hr rfl hρ hb hsh (.row k (ts.map fun x=>(enc x).map D.v)) rfl ⟨hk0,.inr ⟨b,_,e,rfl,setB_same _ _ _ hlt,?_,?_,?_⟩⟩
  ·rw [hpz,List.length_map]; omega
  ·intro x hx; obtain ⟨s,_,rfl⟩:=List.mem_map.1 hx; rw [List.length_map]; exact hk s
  ·intro i x j d hi hj
   rw [List.getElem?_map] at hi
   cases hs:ts[i]? with
   | none=>rw [hs] at hi; cases hi
   | some s =>
    rw [hs] at hi
    injection hi with hi
    subst hi
    rw [List.getElem?_map] at hj
    cases hs2:(enc s)[j]? with
    | none=>rw [hs2] at hj; cases hj
    | some u =>
     rw [hs2] at hj
     injection hj with hj
     subst hj
     exact ⟨u,flat_get enc k hk0 hk ts c hc hs hs2,DRel.v _ (h1c s u (List.mem_of_getElem? hs2))⟩
 have hheap:(putRow id (Sort.ahead w n) b 0 (Go.Sort.flatK enc k ts.toArray)).heap=(setB w b (.cells (putCells id 0 (Go.Sort.flatK enc k ts.toArray) c) e (0,0))).heap:=by
  show w.heap.modify b (onCells _)=w.heap.setIfInBounds b _
  apply Array.ext_getElem?
  intro i
  rw [Array.getElem?_modify]
  by_cases q:b=i
  ·subst q
   rw [if_pos rfl,hb,Array.getElem?_setIfInBounds_self_of_lt hlt]
   rfl
  ·rw [if_neg q,Array.getElem?_setIfInBounds_ne q]
 have hs:Step (allB (setB w b (.cells (putCells id 0 (Go.Sort.flatK enc k ts.toArray) c) e (0,0)))) (setB w b (.cells (putCells id 0 (Go.Sort.flatK enc k ts.toArray) c) e (0,0))) (allB (grow (putRow id (Sort.ahead w n) b 0 (Go.Sort.flatK enc k ts.toArray)) os)) (grow (putRow id (Sort.ahead w n) b 0 (Go.Sort.flatK enc k ts.toArray)) os):=by
  have key:∀ i,i<(setB w b (.cells (putCells id 0 (Go.Sort.flatK enc k ts.toArray) c) e (0,0))).heap.size→(grow (putRow id (Sort.ahead w n) b 0 (Go.Sort.flatK enc k ts.toArray)) os).heap[i]? = (setB w b (.cells (putCells id 0 (Go.Sort.flatK enc k ts.toArray) c) e (0,0))).heap[i]? := fun i hi=>by
   rw [heap_grow_old _ _ (by rw [hheap]; exact hi),hheap]
  have hsz:(setB w b (.cells (putCells id 0 (Go.Sort.flatK enc k ts.toArray) c) e (0,0))).heap.size≤(grow (putRow id (Sort.ahead w n) b 0 (Go.Sort.flatK enc k ts.toArray)) os).heap.size:=by
   rw [size_grow,hheap]; omega
  refine ⟨fun i hi=>Nat.lt_of_lt_of_le hi hsz,fun i hi=>key i hi,hsz,fun i e' m hi=>?_,rfl,rfl,rfl⟩
  have hi':i<(setB w b (.cells (putCells id 0 (Go.Sort.flatK enc k ts.toArray) c) e (0,0))).heap.size:=by
   by_cases q:i<(setB w b (.cells (putCells id 0 (Go.Sort.flatK enc k ts.toArray) c) e (0,0))).heap.size
   ·exact q
   ·simp only [World.shape?] at hi
    rw [Array.getElem?_eq_none (by omega)] at hi
    cases hi
  rw [shape_of_block (key i hi')]; exact hi
 obtain ⟨h2,le2⟩:=h1.grow hs
 exact ⟨h2,le1.trans le2⟩
end
end Go.Aw
namespace Go.Aw.Try
open Go Go.Proofs Go.Aw
set_option maxRecDepth 100000
set_option maxHeartbeats 4000000
theorem insF_perm (c:TN→TN→Int) (x:TN):∀ l:List TN,(insF c x l).Perm (x :: l)
 | []=>List.Perm.refl _
 | y :: l=>by
  simp only [insF]
  split
  ·exact List.Perm.refl _
  ·exact ((insF_perm c x l).cons y).trans (List.Perm.swap x y l)
theorem ssort_perm (c:TN→TN→Int):∀ l:List TN,(ssort c l).Perm l
 | []=>List.Perm.refl _
 | x :: l=>(insF_perm c x _).trans ((ssort_perm c l).cons x)
theorem lessZ_eq {a b:Id} (h:lessZ a b=0):a=b:=by
 unfold lessZ at h
 simp only [orI] at h
 have h1:cmpA a.a b.a=0:=by
  by_cases q:cmpA a.a b.a=0
  ·exact q
  ·rw [if_pos q] at h; exact h
 rw [if_neg (by omega)] at h
 have h2:cmpI a.n b.n=0:=by
  by_cases q:cmpI a.n b.n=0
  ·exact q
  ·rw [if_pos q] at h; exact h
 have e1:cmpS a.a b.a=0:=by
  unfold cmpA sg3 at h1
  repeat' split at h1
  all_goals omega
 have e2:a.n=b.n:=by
  unfold cmpI at h2
  repeat' split at h2
  all_goals omega
 exact id_iff.2 ⟨(cmpS_eq _ _).1 e1,e2⟩
theorem cmpN_pre:Pre cmpN':=pre_map lessZ_pre TN.node
theorem sort_strict {l:List TN} (h:(l.map TN.node).Nodup) (hs:Srt cmpN' l):l.Pairwise fun a b=>cmpN' a b<0:=by
 induction l with
 | nil=>exact List.Pairwise.nil
 | cons x l ih =>
  obtain ⟨h1,h2⟩:=List.pairwise_cons.1 hs
  rw [List.map_cons,List.nodup_cons] at h
  refine List.pairwise_cons.2 ⟨fun y hy=>?_,ih h.2 h2⟩
  have:=h1 y hy
  rcases Int.lt_or_eq_of_le this with q | q
  ·exact q
  ·have e:=lessZ_eq (show lessZ x.node y.node=0 from q)
   exact absurd (List.mem_map_of_mem (f:=TN.node) hy) (by rw [← e]; exact h.1)
theorem sort_unique {l l':List TN} (hp:l.Perm l') (h:(l.map TN.node).Nodup):ssort cmpN' l=ssort cmpN' l':=by
 have n1:((ssort cmpN' l).map TN.node).Nodup:=((ssort_perm cmpN' l).map TN.node).nodup_iff.2 h
 have n2:((ssort cmpN' l').map TN.node).Nodup:=((ssort_perm cmpN' l').map TN.node).nodup_iff.2 ((hp.map TN.node).nodup_iff.1 h)
 refine pw_ext (R:=fun a b=>cmpN' a b<0) (fun a b h1 h2=>?_) (fun a h=>?_) (sort_strict n1 (ssort_srt cmpN_pre l)) (sort_strict n2 (ssort_srt cmpN_pre l')) fun x=>?_
 ·have:=cmpN_pre.sgn a b; omega
 ·have:=cmpN_pre.rf a; omega
 ·rw [(ssort_perm cmpN' l).mem_iff,(ssort_perm cmpN' l').mem_iff,hp.mem_iff]
open Go.Sort in
theorem swoN:SWO (ltOf cmpN') where
 irrefl x:=by have:=cmpN_pre.rf x; simp [ltOf]; omega
 trans x y z h1 h2:=by
  simp [ltOf] at *
  have a:=cmpN_pre.tr x y z (by omega) (by omega)
  have b:=cmpN_pre.tr z x y
  have c:=cmpN_pre.sgn x z
  have d:=cmpN_pre.sgn x y
  have e:=cmpN_pre.sgn y z
  omega
 ntrans x y z h1 h2:=by
  simp [ltOf] at *
  have a:=cmpN_pre.tr z y x
  have c:=cmpN_pre.sgn x z
  have d:=cmpN_pre.sgn x y
  have e:=cmpN_pre.sgn y z
  omega
theorem encN_one (t:TN):∀ v∈encN t,v.oneCell'=true:=fun v hv=>by
 simp [encN] at hv
 rcases hv with rfl | rfl | rfl | rfl | rfl | rfl | rfl | rfl <;> rfl
theorem os_zero8 {P:Program} {k:K} {r:Nat} {v:Value} (h:VRel P k (.c (.os r 8 0 0)) v):∃ a cap,v = .slice a 0 cap:=by
 obtain ⟨_,⟨_,p,h⟩ | ⟨b,cap,e,n,_,h,_⟩⟩:=h
 ·exact ⟨_,_,h⟩
 ·exact ⟨_,_,h⟩
theorem kSortF (l:List TN) (hl:l.length<4611686018427387904) (hd:(l.map TN.node).Nodup) (H:List O) (r:Nat) (hr:H[r]? = some (.row 8 (l.map TN.row))) :
  ACalls prog G0 39 [.c (.os r 8 0 l.length),.c (.fn 40 [])] H fun t H'=>t = .tup []∧H'=H.set r (.row 8 ((ssort cmpN' l).map TN.row)):=by
 refine ⟨callable_of func39 (by kernel_rfl) (by decide +kernel),fun ρ w vs hH hG hv=>?_⟩
 obtain ⟨u,v,rfl⟩:=two_args hv.1
 have hu:=hv.2 0 _ u rfl rfl
 obtain ⟨cv,rfl,hcv,_⟩:=hv.2 1 _ v rfl rfl
 have hcv:cv = #[]:=Array.eq_empty_of_size_eq_zero hcv
 subst hcv
 by_cases h0:l=[]
 ·subst h0
  obtain ⟨a,cap,rfl⟩:=os_zero8 hu
  have h:=AnyF.slices_SortFunc_none lyF6 a cap (.func (.func 40) #[] #[]) w
  refine Calls.mono h ?_
  rintro e1 w' ⟨rfl,rfl⟩
  exact ⟨_,_,ρ,H,rfl,⟨rfl,(set_self hr).symm⟩,hH,⟨#[],rfl,rfl,fun i c v h=>by simp at h⟩,.refl _⟩
 ·obtain ⟨b,c,e,cap,q1,q2,q3,q4,q5,q6⟩:=row_holdsK encN 8 (by omega) (fun _=>rfl) hH hr hu h0
  subst q4
  have eg:∀ args w,(callFunc 40 args).run prog w = .ok (.enter 40 args) w:=enters_of func40 (by kernel_rfl) rfl
  have h:=AnyQ.slices_SortFunc lyF6 8 Tryz.isAgg40 Tryz.sizeOf40 encN (fun _=>rfl) encN_one cmpN' swoN 40 #[] b 0 cap l.toArray w eg (cmpLN b 0 _ w) q6 q5 (by simpa using hl)
  refine Calls.mono h ?_
  rintro e1 w' ⟨rfl,d',n,os,hp,hs,rfl⟩
  have hsz:d'.size=l.length:=by simpa using hp.1
  have hperm:d'.toList.Perm l:=by
   have h1:=hp.2.2
   simp only [List.size_toArray] at h1
   rw [← hsz,Array.extract_size] at h1
   rw [hsz] at h1
   have e2:l.toArray.extract 0 l.length=l.toArray:=by rw [← List.size_toArray,Array.extract_size]
   rw [e2] at h1
   exact h1
  have hsrt:Srt cmpN' d'.toList:=by
   unfold Srt
   rw [List.pairwise_iff_getElem]
   intro i j hi hj hij
   have:=hs i j (Nat.zero_le _) hij (by simpa [hsz] using hj)
   simp at hi hj
   rw [getElem!_pos d' i hi,getElem!_pos d' j hj] at this
   have h2:=cmpN_pre.sgn d'[j] d'[i]
   simp [Go.Proofs.ltOf] at this
   simp
   omega
  have hts:d'.toList=ssort cmpN' l:=by
   have e1:=sort_unique hperm ((hperm.map TN.node).nodup_iff.2 hd)
   rw [← e1]
   have nd:=(hperm.map TN.node).nodup_iff.2 hd
   have n1:((ssort cmpN' d'.toList).map TN.node).Nodup:=((ssort_perm cmpN' _).map TN.node).nodup_iff.2 nd
   refine pw_ext (R:=fun a b=>cmpN' a b<0) (fun a b h1 h2=>?_) (fun a h=>?_) (sort_strict nd hsrt) (sort_strict n1 (ssort_srt cmpN_pre _)) fun x=>?_
   ·have:=cmpN_pre.sgn a b; omega
   ·have:=cmpN_pre.rf a; omega
   ·rw [(ssort_perm cmpN' _).mem_iff]
  obtain ⟨ts,hd'⟩:∃ ts,d'=List.toArray ts:=⟨d'.toList,by simp⟩
  subst hd'
  have hts:ts=ssort cmpN' l:=by simpa using hts
  obtain ⟨g1,g2⟩:=row_putK encN 8 (by omega) (fun _=>rfl) encN_one hH hr q1 q2 (ts:=ts) (by simp at hsz; omega) n os
  rw [hts] at g1 g2 ⊢
  exact ⟨_,_,ρ,_,rfl,⟨rfl,rfl⟩,g1,⟨#[],rfl,rfl,fun i c v h=>by simp at h⟩,g2⟩
abbrev Spots:=List (Id×TN)
def addM (l:List TN):Spots:=l.foldl (fun m t=>aput m t.node t) []
def parB (m:Spots) (e:Edit):Bool:=(alook m e.parent).isSome || decide (e.parent=rootI)
def stepM (m:Spots) (e:Edit):Spots :=
 if e.kind=1 then (if (alook m e.id).isNone && parB m e then aput m e.id ⟨e.id,e.parent,plc e,e.value⟩ else m)
 else if e.kind=2 then (match alook m e.node with
  | some s=>if (parB m e || decide (e.parent=binI0)) && !undF m e.parent e.node then aput m e.node ⟨s.node,e.parent,plc e,s.kind⟩ else m
  | none=>m)
 else m
def runM (m:Spots) (es:List Edit):Spots:=es.foldl stepM m
def appF (l:List TN) (es:List Edit):List TN:=ssort cmpN' ((runM (addM l) es).map Prod.snd)
structure OkM (m:Spots):Prop where
 key:∀ p∈m,p.2.node=p.1
 nd:(m.map Prod.fst).Nodup
theorem aput_keys {m:Spots} {x:Id} {t:TN}:(aput m x t).map Prod.fst=if x∈m.map Prod.fst then m.map Prod.fst else m.map Prod.fst ++ [x]:=by
 induction m with
 | nil=>simp [aput]
 | cons p m ih =>
  obtain ⟨k,v⟩:=p
  simp only [aput]
  by_cases h:k=x
  ·subst h; simp
  ·rw [if_neg h,List.map_cons,ih]
   have hx:¬ x=k:=fun q=>h q.symm
   simp only [List.map_cons,List.mem_cons,hx,false_or]
   split <;> simp
theorem aput_mem {m:Spots} {x:Id} {t:TN} {p:Id×TN} (h:p∈aput m x t):p=(x,t)∨p∈m:=by
 induction m with
 | nil=>simp [aput] at h; exact .inl h
 | cons q m ih =>
  obtain ⟨k,v⟩:=q
  simp only [aput] at h
  split at h
  ·rcases List.mem_cons.1 h with h | h
   ·exact .inl h
   ·exact .inr (List.mem_cons_of_mem _ h)
  ·rcases List.mem_cons.1 h with h | h
   ·exact .inr (h▸List.mem_cons_self ..)
   ·rcases ih h with h | h
    ·exact .inl h
    ·exact .inr (List.mem_cons_of_mem _ h)
theorem okM_put {m:Spots} (h:OkM m) {x:Id} {t:TN} (ht:t.node=x):OkM (aput m x t):=by
 refine ⟨fun p hp=>?_,?_⟩
 ·rcases aput_mem hp with rfl | hp
  ·exact ht
  ·exact h.key p hp
 ·rw [aput_keys]
  split
  ·exact h.nd
  ·rename_i q
   rw [List.nodup_append]
   exact ⟨h.nd,by simp,fun a ha b hb=>by simp at hb; subst hb; exact fun e=>q (e▸ha)⟩
theorem alook_pair {m:Spots} {x:Id} {t:TN} (h:alook m x=some t):(x,t)∈m:=by
 induction m with
 | nil=>cases h
 | cons p m ih =>
  obtain ⟨k,v⟩:=p
  simp only [alook] at h
  split at h
  ·rename_i q; subst q; injection h with h; subst h; exact List.mem_cons_self ..
  ·exact List.mem_cons_of_mem _ (ih h)
theorem addM_ok (l:List TN):OkM (addM l):=by
 unfold addM
 have:∀ (l:List TN) (m:Spots),OkM m→OkM (l.foldl (fun m t=>aput m t.node t) m):=by
  intro l
  induction l with
  | nil=>intro m h; exact h
  | cons t l ih=>intro m h; exact ih _ (okM_put h rfl)
 exact this l [] ⟨(fun p hp=>nomatch hp),List.nodup_nil⟩
theorem stepM_ok {m:Spots} (h:OkM m) (e:Edit):OkM (stepM m e):=by
 unfold stepM
 split
 ·split
  ·exact okM_put h rfl
  ·exact h
 ·split
  ·split
   ·rename_i s hs
    split
    ·exact okM_put h (h.key _ (alook_pair hs))
    ·exact h
   ·exact h
  ·exact h
theorem runM_ok {m:Spots} (h:OkM m):∀ es:List Edit,OkM (runM m es):=fun es=>by
 unfold runM
 induction es generalizing m with
 | nil=>exact h
 | cons e es ih=>exact ih (stepM_ok h e)
theorem aput_len (m:Spots) (x:Id) (t:TN):(aput m x t).length≤m.length+1:=by
 have:=congrArg List.length (aput_keys (m:=m) (x:=x) (t:=t))
 rw [List.length_map] at this
 rw [this]
 split <;> simp
theorem stepM_len (m:Spots) (e:Edit):(stepM m e).length≤m.length+1:=by
 unfold stepM
 repeat' split
 all_goals first | exact aput_len _ _ _ | omega
theorem runM_len (es:List Edit):∀ m:Spots,(runM m es).length≤m.length+es.length:=by
 unfold runM
 induction es with
 | nil=>intro m; exact Nat.le_refl _
 | cons e es ih =>
  intro m
  have h1:=ih (stepM m e)
  have h2:=stepM_len m e
  simp only [List.foldl_cons,List.length_cons]
  omega
theorem addM_len (l:List TN):(addM l).length≤l.length:=by
 unfold addM
 have:∀ (l:List TN) (m:Spots),(l.foldl (fun m t=>aput m t.node t) m).length≤m.length+l.length:=by
  intro l
  induction l with
  | nil=>intro m; exact Nat.le_refl _
  | cons t l ih =>
   intro m
   have h1:=ih (aput m t.node t)
   have h2:=aput_len m t.node t
   simp only [List.foldl_cons,List.length_cons]
   omega
 have:=this l []
 simpa using this
theorem erow_x (e:Edit):e.row=[.v (.string e.id.a),.v (.int .i64 e.id.n),.v (.int .i64 e.clock),.v (.int .i64 e.floor),.sl (e.deps.map Id.row),.v (.int .i64 e.kind),.v (.string e.node.a),.v (.int .i64 e.node.n),.v (.string e.parent.a),.v (.int .i64 e.parent.n),.v (.bool e.neg),.v (.string e.num),.v (.string e.den),.v (.string e.field),.v (.string e.value),.v (.string e.target.a),.v (.int .i64 e.target.n),.v (.string e.who)]:=rfl
theorem map_erase {α β:Type} (f:α→β):∀ (l:List α) (i:Nat),(l.map f).eraseIdx i=(l.eraseIdx i).map f
 | [],i=>by simp
 | x :: l,0=>rfl
 | x :: l,i+1=>by simp only [List.map_cons,List.eraseIdx_cons_succ,map_erase f l i]
theorem perm_erase {α:Type}:∀ {l:List α} {i:Nat} {x:α},l[i]? = some x→l.Perm (x :: l.eraseIdx i)
 | [],i,x,h=>by simp at h
 | y :: l,0,x,h=>by simp at h; subst h; exact List.Perm.refl _
 | y :: l,i+1,x,h=>by
  rw [List.getElem?_cons_succ] at h
  rw [List.eraseIdx_cons_succ]
  exact ((perm_erase h).cons y).trans (List.Perm.swap x y _)
theorem cells_id (x y:Id):cellsEq [.s,.i .i64] [.d (.v (.string x.a)),.d (.v (.int .i64 x.n))] [.d (.v (.string y.a)),.d (.v (.int .i64 y.n))]=some (decide (x=y)):=by
 simp only [cellsEq,skEq,if_true,Bool.and_true,and_self]
 congr 1
 rw [Bool.eq_iff_iff]
 simp [id_iff]
theorem k2011 (l:List TN) (es:List Edit) (hl:l.length<100000000000) (he:es.length<100000000000) (H:List O) :
    ACalls prog (GM 0) 11 [.c (.d (.sl (l.map TN.row))),.c (.d (.sl (es.map Edit.row)))] H fun t H'=>t = .v (.c (.d (.sl ((appF l es).map TN.row))))∧H'=H:=by
  refine acallsX (X:=[]) trivial tab hmix func11 c2011 (by rfl) fun hw=>?_
  simp -implicitDefEqProofs (disch:=omega) [gz,ir2011,b2011,b2011_0,b2011_1,b2011_2,wrap64,fillC,splice]
  refine loopE (fun k st=>∃ i,i≤l.length∧k=l.length-i ∧
      st=⟨ofL [(1,.v (.c (.d (.sl (es.map Edit.row))))),(5,.v (.c (.mp H.length))),(20,.v (.c (.d (.sl (l.map TN.row))))),(21,.int .i64 l.length),(22,.int .i64 i)],H ++ [.map KI (encIT (addM (l.take i)))]⟩)
    (fun st=>AtS [(1,.v (.c (.d (.sl (es.map Edit.row))))),(5,.v (.c (.mp H.length)))] (H ++ [.map KI (encIT (addM l))]) st) ?_ ?_ ?_
  · refine wk_pre [0] [1,5,20,21,22] hw rfl ⟨_,0,by omega,rfl,?_⟩
    simp [phiP,phi,O.ren,C.ren,addM,encM]
  · rintro J L hJ hL k st ⟨i,hi,rfl,rfl⟩
    by_cases hlt:i<l.length
    · obtain ⟨t,ht⟩:∃ t,nth l i=t:=⟨_,rfl⟩
      have hnext:addM (l.take (i+1))=aput (addM (l.take i)) t.node t:=by
        unfold addM
        rw [take_nth hlt,List.foldl_append,ht]; rfl
      obtain ⟨m,hm⟩:∃ m,m=addM (l.take i):=⟨_,rfl⟩
      rw [← hm] at hnext ⊢
      have mk:Value.agg [Value.string t.node.a,Value.int IntKind.i64 t.node.n].toArray=keyI t.node:=rfl
      have cf:=conf_I t.node
      have m3:=mp_IT m t.node t
      rw [trw] at m3
      simp -implicitDefEqProofs (disch:=omega) [gz,hlt,wrap64,nth_map,ht,trw,keyOf,mk,cf,m3,toPV,toDs,toD,fillC,splice,Nat.add_assoc]
      repeat' with_reducible apply And.intro
      all_goals first|omega|kernel_rfl|exact fun _ _=>rfl|skip
      subst hJ
      refine wk_pre [0] [1,5,20,21,22] hw rfl ⟨l.length-(i+1),by omega,i+1,by omega,rfl,?_⟩
      rw [hnext]
      simp [phiP,phi,O.ren,C.ren]
    · have:i=l.length:=by omega
      subst this
      rw [List.take_length]
      simp -implicitDefEqProofs (disch:=omega) [gz,hlt]
      subst hL
      exact at_mk (by simp) rfl
  · rintro _ ⟨sl,rfl⟩
    have hml:=addM_len l
    obtain ⟨m0,hm0⟩:∃ m0,m0=addM l:=⟨_,rfl⟩
    have hok0:OkM m0:=by rw [hm0]; exact addM_ok l
    have happ:appF l es=ssort cmpN' ((runM m0 es).map Prod.snd):=by rw [hm0]; rfl
    rw [happ]
    rw [← hm0] at hml ⊢
    simp -implicitDefEqProofs (disch:=omega) [gz,b2011_3,wrap64,fillC,splice]
    refine loopE (fun k st=>∃ i,i≤es.length∧k=es.length-i ∧
        st=⟨ofL [(5,.v (.c (.mp H.length))),(31,.v (.c (.d (.sl (es.map Edit.row))))),(32,.int .i64 es.length),(33,.int .i64 i)],H ++ [.map KI (encIT (runM m0 (es.take i)))]⟩)
      (fun st=>AtS [(5,.v (.c (.mp H.length)))] (H ++ [.map KI (encIT (runM m0 es))]) st) ?_ ?_ ?_
    · refine wk_pre [0] [5,31,32,33] hw rfl ⟨_,0,by omega,rfl,?_⟩
      simp [phiP,phi,O.ren,C.ren,runM]
    · rintro J L hJ hL k st ⟨i,hi,rfl,rfl⟩
      by_cases hlt:i<es.length
      · obtain ⟨e,het⟩:∃ e,nth es i=e:=⟨_,rfl⟩
        have hnx:runM m0 (es.take (i+1))=stepM (runM m0 (es.take i)) e:=by
          unfold runM
          rw [take_nth hlt,List.foldl_append,het]; rfl
        obtain ⟨m,hm⟩:∃ m,m=runM m0 (es.take i):=⟨_,rfl⟩
        rw [← hm] at hnx ⊢
        have mkP:Value.agg [Value.string e.parent.a,Value.int IntKind.i64 e.parent.n].toArray=keyI e.parent:=rfl
        have cfP:=conf_I e.parent
        have mP:=mf_IT m e.parent
        have mkI:Value.agg [Value.string e.id.a,Value.int IntKind.i64 e.id.n].toArray=keyI e.id:=rfl
        have cfI:=conf_I e.id
        have mI:=mf_IT m e.id
        have mkN:Value.agg [Value.string e.node.a,Value.int IntKind.i64 e.node.n].toArray=keyI e.node:=rfl
        have cfN:=conf_I e.node
        have mN:=mf_IT m e.node
        have hroot:cellsEq [.s,.i .i64] [.d (.v (.string e.parent.a)),.d (.v (.int .i64 e.parent.n))] [.d (.v (.string ⟨#[]⟩)),.d (.v (.int .i64 0))]=some (decide (e.parent=rootI)):=cells_id e.parent rootI
        have hbin:cellsEq [.s,.i .i64] [.d (.v (.string e.parent.a)),.d (.v (.int .i64 e.parent.n))] [.d (.v (.string ⟨#[45]⟩)),.d (.v (.int .i64 0))]=some (decide (e.parent=binI0)):=cells_id e.parent binI0
        have m3:mput (encIT m) (keyI e.id) (.agg [.v (.string e.id.a),.v (.int .i64 e.id.n),.v (.string e.parent.a),.v (.int .i64 e.parent.n),.v (.bool e.neg),.v (.string e.num),.v (.string e.den),.v (.string e.value)])=encIT (aput m e.id ⟨e.id,e.parent,plc e,e.value⟩):=mp_IT m e.id ⟨e.id,e.parent,plc e,e.value⟩
        cases hP:alook m e.parent with
        | some s1 =>
          rw [hP] at mP
          have hPs:True:=trivial
          have hp:parB m e=true:=by unfold parB; rw [hP]; rfl
          by_cases k1:e.kind=1
          · cases hI:alook m e.id with
            | some s0 =>
              have hs:stepM m e=m:=by unfold stepM; rw [if_pos k1,hI]; simp
              rw [hI] at mI
              simp -implicitDefEqProofs (disch:=omega) [gz,hlt,wrap64,nth_map,het,erow_x,GM,trw,keyOf,mkP,cfP,mP,mkI,cfI,mkN,cfN,PV.toV,toPV,toDs,toD,fillC,splice,Nat.add_assoc,hPs,k1,mI]
              repeat' with_reducible apply And.intro
              all_goals first|omega|kernel_rfl|exact fun _ _=>rfl|skip
              subst hJ
              refine wk_pre [0] [5,31,32,33] hw rfl ⟨es.length-(i+1),by omega,i+1,by omega,rfl,?_⟩
              rw [hnx,hs]
              simp [phiP,phi,O.ren,C.ren]
            | none =>
              rw [hI] at mI
              have hs:stepM m e=aput m e.id ⟨e.id,e.parent,plc e,e.value⟩:=by unfold stepM; rw [if_pos k1,hI,hp]; simp
              simp -implicitDefEqProofs (disch:=omega) [gz,hlt,wrap64,nth_map,het,erow_x,GM,trw,keyOf,mkP,cfP,mP,mkI,cfI,mkN,cfN,PV.toV,toPV,toDs,toD,fillC,splice,Nat.add_assoc,hPs,k1,mI,m3]
              repeat' with_reducible apply And.intro
              all_goals first|omega|kernel_rfl|exact fun _ _=>rfl|skip
              subst hJ
              refine wk_pre [0] [5,31,32,33] hw rfl ⟨es.length-(i+1),by omega,i+1,by omega,rfl,?_⟩
              rw [hnx,hs]
              simp [phiP,phi,O.ren,C.ren]
          · by_cases k2:e.kind=2
            · cases hN:alook m e.node with
              | none =>
                have hs:stepM m e=m:=by unfold stepM; rw [if_neg k1,if_pos k2,hN]
                rw [hN] at mN
                simp -implicitDefEqProofs (disch:=omega) [gz,hlt,wrap64,nth_map,het,erow_x,GM,trw,keyOf,mkP,cfP,mP,mkI,cfI,mkN,cfN,PV.toV,toPV,toDs,toD,fillC,splice,Nat.add_assoc,hPs,k1,k2,mN]
                repeat' with_reducible apply And.intro
                all_goals first|omega|kernel_rfl|exact fun _ _=>rfl|skip
                subst hJ
                refine wk_pre [0] [5,31,32,33] hw rfl ⟨es.length-(i+1),by omega,i+1,by omega,rfl,?_⟩
                rw [hnx,hs]
                simp [phiP,phi,O.ren,C.ren]
              | some s =>
                rw [hN] at mN
                have m4:mput (encIT m) (keyI e.node) (.agg [.v (.string s.node.a),.v (.int .i64 s.node.n),.v (.string e.parent.a),.v (.int .i64 e.parent.n),.v (.bool e.neg),.v (.string e.num),.v (.string e.den),.v (.string s.kind)])=encIT (aput m e.node ⟨s.node,e.parent,plc e,s.kind⟩):=mp_IT m e.node ⟨s.node,e.parent,plc e,s.kind⟩
                simp -implicitDefEqProofs (disch:=omega) [gz,hlt,wrap64,nth_map,het,erow_x,GM,trw,keyOf,mkP,cfP,mP,mkI,cfI,mkN,cfN,PV.toV,toPV,toDs,toD,fillC,splice,Nat.add_assoc,hPs,k1,k2,mN]
                refine ((k2038 m e.parent e.node _ H.length (by rw [app_get0]; rfl)).gm).mono ?_
                rintro t H' ⟨rfl,rfl⟩
                cases hUv:undF m e.parent e.node
                · have hs:stepM m e=aput m e.node ⟨s.node,e.parent,plc e,s.kind⟩:=by unfold stepM; rw [if_neg k1,if_pos k2,hN]; simp [hp,hUv]
                  simp -implicitDefEqProofs (disch:=omega) [gz,callK,hlt,wrap64,nth_map,het,erow_x,GM,trw,keyOf,mkP,cfP,mP,mkI,cfI,mkN,cfN,PV.toV,toPV,toDs,toD,fillC,splice,Nat.add_assoc,hPs,k1,k2,mN,m4]
                  repeat' with_reducible apply And.intro
                  all_goals first|omega|kernel_rfl|exact fun _ _=>rfl|skip
                  subst hJ
                  refine wk_pre [0] [5,31,32,33] hw rfl ⟨es.length-(i+1),by omega,i+1,by omega,rfl,?_⟩
                  rw [hnx,hs]
                  simp [phiP,phi,O.ren,C.ren]
                · have hs:stepM m e=m:=by unfold stepM; rw [if_neg k1,if_pos k2,hN]; simp [hp,hUv]
                  simp -implicitDefEqProofs (disch:=omega) [gz,callK,hlt,wrap64,nth_map,het,erow_x,GM,trw,keyOf,mkP,cfP,mP,mkI,cfI,mkN,cfN,PV.toV,toPV,toDs,toD,fillC,splice,Nat.add_assoc,hPs,k1,k2,mN]
                  repeat' with_reducible apply And.intro
                  all_goals first|omega|kernel_rfl|exact fun _ _=>rfl|skip
                  subst hJ
                  refine wk_pre [0] [5,31,32,33] hw rfl ⟨es.length-(i+1),by omega,i+1,by omega,rfl,?_⟩
                  rw [hnx,hs]
                  simp [phiP,phi,O.ren,C.ren]
            · have hs:stepM m e=m:=by unfold stepM; rw [if_neg k1,if_neg k2]
              simp -implicitDefEqProofs (disch:=omega) [gz,hlt,wrap64,nth_map,het,erow_x,GM,trw,keyOf,mkP,cfP,mP,mkI,cfI,mkN,cfN,PV.toV,toPV,toDs,toD,fillC,splice,Nat.add_assoc,hPs,k1,k2]
              repeat' with_reducible apply And.intro
              all_goals first|omega|kernel_rfl|exact fun _ _=>rfl|skip
              subst hJ
              refine wk_pre [0] [5,31,32,33] hw rfl ⟨es.length-(i+1),by omega,i+1,by omega,rfl,?_⟩
              rw [hnx,hs]
              simp [phiP,phi,O.ren,C.ren]
        | none =>
          rw [hP] at mP
          cases hB1:decide (e.parent=rootI)
          · rw [hB1] at hroot
            have hp:parB m e=false:=by unfold parB; rw [hP,hB1]; rfl
            by_cases k1:e.kind=1
            · cases hI:alook m e.id with
              | some s0 =>
                have hs:stepM m e=m:=by unfold stepM; rw [if_pos k1,hI]; simp
                rw [hI] at mI
                simp -implicitDefEqProofs (disch:=omega) [gz,hlt,wrap64,nth_map,het,erow_x,GM,trw,keyOf,mkP,cfP,mP,mkI,cfI,mkN,cfN,PV.toV,toPV,toDs,toD,fillC,splice,Nat.add_assoc,hroot,k1,mI]
                repeat' with_reducible apply And.intro
                all_goals first|omega|kernel_rfl|exact fun _ _=>rfl|skip
                subst hJ
                refine wk_pre [0] [5,31,32,33] hw rfl ⟨es.length-(i+1),by omega,i+1,by omega,rfl,?_⟩
                rw [hnx,hs]
                simp [phiP,phi,O.ren,C.ren]
              | none =>
                rw [hI] at mI
                have hs:stepM m e=m:=by unfold stepM; rw [if_pos k1,hI,hp]; simp
                simp -implicitDefEqProofs (disch:=omega) [gz,hlt,wrap64,nth_map,het,erow_x,GM,trw,keyOf,mkP,cfP,mP,mkI,cfI,mkN,cfN,PV.toV,toPV,toDs,toD,fillC,splice,Nat.add_assoc,hroot,k1,mI]
                repeat' with_reducible apply And.intro
                all_goals first|omega|kernel_rfl|exact fun _ _=>rfl|skip
                subst hJ
                refine wk_pre [0] [5,31,32,33] hw rfl ⟨es.length-(i+1),by omega,i+1,by omega,rfl,?_⟩
                rw [hnx,hs]
                simp [phiP,phi,O.ren,C.ren]
            · by_cases k2:e.kind=2
              · cases hN:alook m e.node with
                | none =>
                  have hs:stepM m e=m:=by unfold stepM; rw [if_neg k1,if_pos k2,hN]
                  rw [hN] at mN
                  simp -implicitDefEqProofs (disch:=omega) [gz,hlt,wrap64,nth_map,het,erow_x,GM,trw,keyOf,mkP,cfP,mP,mkI,cfI,mkN,cfN,PV.toV,toPV,toDs,toD,fillC,splice,Nat.add_assoc,hroot,k1,k2,mN]
                  repeat' with_reducible apply And.intro
                  all_goals first|omega|kernel_rfl|exact fun _ _=>rfl|skip
                  subst hJ
                  refine wk_pre [0] [5,31,32,33] hw rfl ⟨es.length-(i+1),by omega,i+1,by omega,rfl,?_⟩
                  rw [hnx,hs]
                  simp [phiP,phi,O.ren,C.ren]
                | some s =>
                  rw [hN] at mN
                  have m4:mput (encIT m) (keyI e.node) (.agg [.v (.string s.node.a),.v (.int .i64 s.node.n),.v (.string e.parent.a),.v (.int .i64 e.parent.n),.v (.bool e.neg),.v (.string e.num),.v (.string e.den),.v (.string s.kind)])=encIT (aput m e.node ⟨s.node,e.parent,plc e,s.kind⟩):=mp_IT m e.node ⟨s.node,e.parent,plc e,s.kind⟩
                  cases hB2v:decide (e.parent=binI0)
                  · rw [hB2v] at hbin
                    have hs:stepM m e=m:=by unfold stepM; rw [if_neg k1,if_pos k2,hN]; simp [hp,hB2v]
                    simp -implicitDefEqProofs (disch:=omega) [gz,hlt,wrap64,nth_map,het,erow_x,GM,trw,keyOf,mkP,cfP,mP,mkI,cfI,mkN,cfN,PV.toV,toPV,toDs,toD,fillC,splice,Nat.add_assoc,hroot,hbin,k1,k2,mN]
                    repeat' with_reducible apply And.intro
                    all_goals first|omega|kernel_rfl|exact fun _ _=>rfl|skip
                    subst hJ
                    refine wk_pre [0] [5,31,32,33] hw rfl ⟨es.length-(i+1),by omega,i+1,by omega,rfl,?_⟩
                    rw [hnx,hs]
                    simp [phiP,phi,O.ren,C.ren]
                  · rw [hB2v] at hbin
                    simp -implicitDefEqProofs (disch:=omega) [gz,hlt,wrap64,nth_map,het,erow_x,GM,trw,keyOf,mkP,cfP,mP,mkI,cfI,mkN,cfN,PV.toV,toPV,toDs,toD,fillC,splice,Nat.add_assoc,hroot,hbin,k1,k2,mN]
                    refine ((k2038 m e.parent e.node _ H.length (by rw [app_get0]; rfl)).gm).mono ?_
                    rintro t H' ⟨rfl,rfl⟩
                    cases hUv:undF m e.parent e.node
                    · have hs:stepM m e=aput m e.node ⟨s.node,e.parent,plc e,s.kind⟩:=by unfold stepM; rw [if_neg k1,if_pos k2,hN]; simp [hp,hUv,hB2v]
                      simp -implicitDefEqProofs (disch:=omega) [gz,callK,hlt,wrap64,nth_map,het,erow_x,GM,trw,keyOf,mkP,cfP,mP,mkI,cfI,mkN,cfN,PV.toV,toPV,toDs,toD,fillC,splice,Nat.add_assoc,hroot,hbin,k1,k2,mN,m4]
                      repeat' with_reducible apply And.intro
                      all_goals first|omega|kernel_rfl|exact fun _ _=>rfl|skip
                      subst hJ
                      refine wk_pre [0] [5,31,32,33] hw rfl ⟨es.length-(i+1),by omega,i+1,by omega,rfl,?_⟩
                      rw [hnx,hs]
                      simp [phiP,phi,O.ren,C.ren]
                    · have hs:stepM m e=m:=by unfold stepM; rw [if_neg k1,if_pos k2,hN]; simp [hp,hUv,hB2v]
                      simp -implicitDefEqProofs (disch:=omega) [gz,callK,hlt,wrap64,nth_map,het,erow_x,GM,trw,keyOf,mkP,cfP,mP,mkI,cfI,mkN,cfN,PV.toV,toPV,toDs,toD,fillC,splice,Nat.add_assoc,hroot,hbin,k1,k2,mN]
                      repeat' with_reducible apply And.intro
                      all_goals first|omega|kernel_rfl|exact fun _ _=>rfl|skip
                      subst hJ
                      refine wk_pre [0] [5,31,32,33] hw rfl ⟨es.length-(i+1),by omega,i+1,by omega,rfl,?_⟩
                      rw [hnx,hs]
                      simp [phiP,phi,O.ren,C.ren]
              · have hs:stepM m e=m:=by unfold stepM; rw [if_neg k1,if_neg k2]
                simp -implicitDefEqProofs (disch:=omega) [gz,hlt,wrap64,nth_map,het,erow_x,GM,trw,keyOf,mkP,cfP,mP,mkI,cfI,mkN,cfN,PV.toV,toPV,toDs,toD,fillC,splice,Nat.add_assoc,hroot,k1,k2]
                repeat' with_reducible apply And.intro
                all_goals first|omega|kernel_rfl|exact fun _ _=>rfl|skip
                subst hJ
                refine wk_pre [0] [5,31,32,33] hw rfl ⟨es.length-(i+1),by omega,i+1,by omega,rfl,?_⟩
                rw [hnx,hs]
                simp [phiP,phi,O.ren,C.ren]
          · rw [hB1] at hroot
            have hp:parB m e=true:=by unfold parB; rw [hP,hB1]; rfl
            by_cases k1:e.kind=1
            · cases hI:alook m e.id with
              | some s0 =>
                have hs:stepM m e=m:=by unfold stepM; rw [if_pos k1,hI]; simp
                rw [hI] at mI
                simp -implicitDefEqProofs (disch:=omega) [gz,hlt,wrap64,nth_map,het,erow_x,GM,trw,keyOf,mkP,cfP,mP,mkI,cfI,mkN,cfN,PV.toV,toPV,toDs,toD,fillC,splice,Nat.add_assoc,hroot,k1,mI]
                repeat' with_reducible apply And.intro
                all_goals first|omega|kernel_rfl|exact fun _ _=>rfl|skip
                subst hJ
                refine wk_pre [0] [5,31,32,33] hw rfl ⟨es.length-(i+1),by omega,i+1,by omega,rfl,?_⟩
                rw [hnx,hs]
                simp [phiP,phi,O.ren,C.ren]
              | none =>
                rw [hI] at mI
                have hs:stepM m e=aput m e.id ⟨e.id,e.parent,plc e,e.value⟩:=by unfold stepM; rw [if_pos k1,hI,hp]; simp
                simp -implicitDefEqProofs (disch:=omega) [gz,hlt,wrap64,nth_map,het,erow_x,GM,trw,keyOf,mkP,cfP,mP,mkI,cfI,mkN,cfN,PV.toV,toPV,toDs,toD,fillC,splice,Nat.add_assoc,hroot,k1,mI,m3]
                repeat' with_reducible apply And.intro
                all_goals first|omega|kernel_rfl|exact fun _ _=>rfl|skip
                subst hJ
                refine wk_pre [0] [5,31,32,33] hw rfl ⟨es.length-(i+1),by omega,i+1,by omega,rfl,?_⟩
                rw [hnx,hs]
                simp [phiP,phi,O.ren,C.ren]
            · by_cases k2:e.kind=2
              · cases hN:alook m e.node with
                | none =>
                  have hs:stepM m e=m:=by unfold stepM; rw [if_neg k1,if_pos k2,hN]
                  rw [hN] at mN
                  simp -implicitDefEqProofs (disch:=omega) [gz,hlt,wrap64,nth_map,het,erow_x,GM,trw,keyOf,mkP,cfP,mP,mkI,cfI,mkN,cfN,PV.toV,toPV,toDs,toD,fillC,splice,Nat.add_assoc,hroot,k1,k2,mN]
                  repeat' with_reducible apply And.intro
                  all_goals first|omega|kernel_rfl|exact fun _ _=>rfl|skip
                  subst hJ
                  refine wk_pre [0] [5,31,32,33] hw rfl ⟨es.length-(i+1),by omega,i+1,by omega,rfl,?_⟩
                  rw [hnx,hs]
                  simp [phiP,phi,O.ren,C.ren]
                | some s =>
                  rw [hN] at mN
                  have m4:mput (encIT m) (keyI e.node) (.agg [.v (.string s.node.a),.v (.int .i64 s.node.n),.v (.string e.parent.a),.v (.int .i64 e.parent.n),.v (.bool e.neg),.v (.string e.num),.v (.string e.den),.v (.string s.kind)])=encIT (aput m e.node ⟨s.node,e.parent,plc e,s.kind⟩):=mp_IT m e.node ⟨s.node,e.parent,plc e,s.kind⟩
                  simp -implicitDefEqProofs (disch:=omega) [gz,hlt,wrap64,nth_map,het,erow_x,GM,trw,keyOf,mkP,cfP,mP,mkI,cfI,mkN,cfN,PV.toV,toPV,toDs,toD,fillC,splice,Nat.add_assoc,hroot,k1,k2,mN]
                  refine ((k2038 m e.parent e.node _ H.length (by rw [app_get0]; rfl)).gm).mono ?_
                  rintro t H' ⟨rfl,rfl⟩
                  cases hUv:undF m e.parent e.node
                  · have hs:stepM m e=aput m e.node ⟨s.node,e.parent,plc e,s.kind⟩:=by unfold stepM; rw [if_neg k1,if_pos k2,hN]; simp [hp,hUv]
                    simp -implicitDefEqProofs (disch:=omega) [gz,callK,hlt,wrap64,nth_map,het,erow_x,GM,trw,keyOf,mkP,cfP,mP,mkI,cfI,mkN,cfN,PV.toV,toPV,toDs,toD,fillC,splice,Nat.add_assoc,hroot,k1,k2,mN,m4]
                    repeat' with_reducible apply And.intro
                    all_goals first|omega|kernel_rfl|exact fun _ _=>rfl|skip
                    subst hJ
                    refine wk_pre [0] [5,31,32,33] hw rfl ⟨es.length-(i+1),by omega,i+1,by omega,rfl,?_⟩
                    rw [hnx,hs]
                    simp [phiP,phi,O.ren,C.ren]
                  · have hs:stepM m e=m:=by unfold stepM; rw [if_neg k1,if_pos k2,hN]; simp [hp,hUv]
                    simp -implicitDefEqProofs (disch:=omega) [gz,callK,hlt,wrap64,nth_map,het,erow_x,GM,trw,keyOf,mkP,cfP,mP,mkI,cfI,mkN,cfN,PV.toV,toPV,toDs,toD,fillC,splice,Nat.add_assoc,hroot,k1,k2,mN]
                    repeat' with_reducible apply And.intro
                    all_goals first|omega|kernel_rfl|exact fun _ _=>rfl|skip
                    subst hJ
                    refine wk_pre [0] [5,31,32,33] hw rfl ⟨es.length-(i+1),by omega,i+1,by omega,rfl,?_⟩
                    rw [hnx,hs]
                    simp [phiP,phi,O.ren,C.ren]
              · have hs:stepM m e=m:=by unfold stepM; rw [if_neg k1,if_neg k2]
                simp -implicitDefEqProofs (disch:=omega) [gz,hlt,wrap64,nth_map,het,erow_x,GM,trw,keyOf,mkP,cfP,mP,mkI,cfI,mkN,cfN,PV.toV,toPV,toDs,toD,fillC,splice,Nat.add_assoc,hroot,k1,k2]
                repeat' with_reducible apply And.intro
                all_goals first|omega|kernel_rfl|exact fun _ _=>rfl|skip
                subst hJ
                refine wk_pre [0] [5,31,32,33] hw rfl ⟨es.length-(i+1),by omega,i+1,by omega,rfl,?_⟩
                rw [hnx,hs]
                simp [phiP,phi,O.ren,C.ren]
      · have:i=es.length:=by omega
        subst this
        rw [List.take_length]
        simp -implicitDefEqProofs (disch:=omega) [gz,hlt]
        subst hL
        exact at_mk (by simp) rfl
    · rintro _ ⟨sl,rfl⟩
      have hrl:=runM_len es m0
      have hokm:=runM_ok hok0 es
      obtain ⟨m,hm⟩:∃ m,m=runM m0 es:=⟨_,rfl⟩
      rw [← hm] at hrl hokm ⊢
      have hel:(encIT m).length=m.length:=by simp [encM]
      have hnd:((m.map Prod.snd).map TN.node).Nodup:=by
        have:(m.map Prod.snd).map TN.node=m.map Prod.fst:=by
          rw [List.map_map]
          exact List.map_congr_left fun p hp=>hokm.key p hp
        rw [this]; exact hokm.nd
      simp -implicitDefEqProofs (disch:=omega) [gz,b2011_4,b2011_5,wrap64,hel,rngW,fillC,splice,Nat.add_assoc]
      repeat' with_reducible apply And.intro
      all_goals first|omega|kernel_rfl|exact fun _ _=>rfl|skip
      refine loopE (fun k st=>∃ (acc:List TN) (cur:Option (Value×PV)) (left:Spots),k=left.length∧(acc ++ left.map Prod.snd).Perm (m.map Prod.snd) ∧
          st=⟨ofL [(16,.v (.c (.os H.length 8 0 acc.length))),(122,.v (.c (.ptr (H.length+1) 0)))],H ++ [.row 8 (acc.map TN.row),.iter KI cur (encIT left)]⟩)
        (fun st=>∃ (acc:List TN) (cur:Option (Value×PV)),acc.Perm (m.map Prod.snd)∧AtS [(16,.v (.c (.os H.length 8 0 acc.length)))] (H ++ [.row 8 (acc.map TN.row),.iter KI cur []]) st) ?_ ?_ ?_
      · refine wk_pre [1,2] [16,122] hw rfl ⟨_,[],none,m,rfl,by simp,?_⟩
        have n1:¬ H.length+1<H.length:=by omega
        have n2:¬ H.length+2<H.length:=by omega
        simp [phiP,phi,O.ren,C.ren,n1,n2]
      · rintro J L hJ hL k st ⟨acc,cur,left,rfl,hp,rfl⟩
        have hal:acc.length≤m.length:=by
          have:=hp.length_eq
          simp at this; omega
        simp -implicitDefEqProofs (disch:=omega) [gz,nxtW,entW]
        refine ⟨fun h0=>?_,fun i ky pv hi=>?_⟩
        · have h0':left=[]:=by
            first
              | exact h0
              | (cases left with
                 | nil=>rfl
                 | cons q l'=>simp [encM] at h0)
          subst h0'
          subst hL
          refine ⟨acc,cur,by simpa using hp,?_⟩
          exact at_mk (by simp) (by simp [encM])
        · obtain ⟨q,hq,hq2⟩:∃ q,left[i]? = some q∧(keyI q.1,PVo.agg q.2.row)=(ky,pv):=by
            rw [show encIT left=left.map fun p=>(keyI p.1,PVo.agg p.2.row) from rfl,List.getElem?_map] at hi
            cases hx:left[i]? with
            | none=>rw [hx] at hi; cases hi
            | some q=>rw [hx] at hi; simp at hi; exact ⟨q,rfl,by rw [← hi.1,← hi.2]⟩
          injection hq2 with e1 e2
          subst e1; subst e2
          obtain ⟨x,t⟩:=q
          have her:(encIT left).eraseIdx i=encIT (left.eraseIdx i):=map_erase _ _ _
          have hpe:=perm_erase hq
          have hlen:(left.eraseIdx i).length+1=left.length:=by
            have:=hpe.length_eq
            simp at this; omega
          have hp2:((acc ++ [t]) ++ (left.eraseIdx i).map Prod.snd).Perm (m.map Prod.snd):=by
            refine List.Perm.trans ?_ hp
            rw [List.append_assoc]
            exact List.Perm.append_left acc (hpe.map Prod.snd).symm
          have hal2:acc.length+1≤m.length:=by
            have:=hp2.length_eq
            simp at this; omega
          have hb:(acc.length+1)*104≤140737488355328:=by omega
          have tA:(acc.map TN.row).take acc.length=acc.map TN.row:=List.take_of_length_le (by simp)
          simp -implicitDefEqProofs (disch:=omega) [gz,her,trw,PV.toV,fillC,fillR,splice,hb,tA,Nat.add_assoc]
          repeat' with_reducible apply And.intro
          all_goals first|omega|kernel_rfl|exact fun _ _=>rfl|skip
          subst hJ
          have n1:¬ H.length+1<H.length:=by omega
          have n4:¬ H.length+4<H.length:=by omega
          refine wk_pre [4,1] [16,122] hw rfl ⟨_,by omega,acc ++ [t],some (keyI x,.agg t.row),left.eraseIdx i,rfl,hp2,?_⟩
          simp [phiP,phi,O.ren,C.ren,n1,n4,trw]
      · rintro _ ⟨acc,cur,hperm,sl,rfl⟩
        have hal:acc.length=m.length:=by
          have:=hperm.length_eq
          simpa using this
        have hnd2:(acc.map TN.node).Nodup:=(hperm.map TN.node).nodup_iff.2 hnd
        simp -implicitDefEqProofs (disch:=omega) [gz,b2011_6]
        refine ((kSortF acc (by omega) hnd2 _ H.length (by rw [app_get0]; rfl)).gm).mono ?_
        rintro t H' ⟨rfl,rfl⟩
        simp -implicitDefEqProofs (disch:=omega) [gz,callK,b2011_7,b2011_8,fillC,splice]
        refine fin_tell (r:=H.length) hw (Nat.le_refl _) (by rw [app_get0]; rfl) ?_ ⟨?_,rfl⟩
        · rw [List.length_map,(ssort_perm cmpN' acc).length_eq]
        · rw [sort_unique hperm hnd2]
def x2011:XE:=mkX false (fun (p:List TN×List Edit)=>[.c (.sl (p.1.map TN.row)),.c (.sl (p.2.map Edit.row))]) (fun p=>p.1.length<100000000000∧p.2.length<100000000000) (fun p=>.v (.c (.d (.sl ((appF p.1 p.2).map TN.row)))))
theorem kx2011:Contract prog (GM 0) 11 x2011:=mkX_data fun p h H=>k2011 p.1 p.2 h.1 h.2 H
theorem injTE (a b:List TN×List Edit) (h:[PVo.c (D.sl (a.1.map TN.row)),PVo.c (D.sl (a.2.map Edit.row))]=[PVo.c (D.sl (b.1.map TN.row)),PVo.c (D.sl (b.2.map Edit.row))]):a=b:=by
 simp only [List.cons.injEq,PVo.c.injEq,D.sl.injEq,and_true] at h
 exact Prod.ext (tn_inj h.1) (rows_inj h.2)
theorem xg2011 (l:List TN) (es:List Edit) (h1:l.length<100000000000) (h2:es.length<100000000000):x2011.g [.c (.sl (l.map TN.row)),.c (.sl (es.map Edit.row))]=some (True,.v (.c (.d (.sl ((appF l es).map TN.row))))):=mkX_g injTE (l,es) ⟨h1,h2⟩
theorem injTIN (a b:List TN×Id×Int) (h:[PVo.c (D.sl (a.1.map TN.row)),PVo.agg a.2.1.row,PVo.c (D.v (.int .i64 a.2.2))]=[PVo.c (D.sl (b.1.map TN.row)),PVo.agg b.2.1.row,PVo.c (D.v (.int .i64 b.2.2))]):a=b:=by
 simp only [List.cons.injEq,PVo.c.injEq,D.sl.injEq,PVo.agg.injEq,D.v.injEq,Value.int.injEq,true_and,and_true] at h
 exact Prod.ext (tn_inj h.1) (Prod.ext (Id.row_inj h.2.1) h.2.2)
def x2022 (n:Nat):XE:=mkX true (fun (p:List TN×Id×Int)=>[.c (.sl (p.1.map TN.row)),.agg p.2.1.row,.c (.v (.int .i64 p.2.2))]) (fun p=>okK n p.1 p.2.1 p.2.2∧(-9223372036854775808≤p.2.2∧p.2.2≤9223372036854775807)) (fun p=>.v (ratV (keyF n p.1 p.2.1 p.2.2)))
theorem kx2022 (n:Nat):Contract prog G0 22 (x2022 n):=mkX_scal (fun _=>rfl) fun p h=>k2022 n p.1 p.2.1 p.2.2 h.1 h.2
theorem xg2022 (n:Nat) (l:List TN) (b:Id) (at':Int) (h:okK n l b at') (hr:-9223372036854775808≤at'∧at'≤9223372036854775807):(x2022 n).g [.c (.sl (l.map TN.row)),.agg b.row,.c (.v (.int .i64 at'))]=some (True,.v (ratV (keyF n l b at'))):=mkX_g injTIN (l,b,at') ⟨h,hr⟩
def eA:List Edit:=[⟨⟨⟨#[97]⟩,1⟩,1,0,[],1,⟨⟨#[]⟩,0⟩,⟨⟨#[]⟩,0⟩,false,⟨#[]⟩,⟨#[]⟩,⟨#[]⟩,⟨#[103,114,111,117,112]⟩,⟨⟨#[]⟩,0⟩,⟨#[]⟩⟩,⟨⟨⟨#[97]⟩,2⟩,2,0,[⟨⟨#[97]⟩,1⟩],1,⟨⟨#[]⟩,0⟩,⟨⟨#[97]⟩,1⟩,false,⟨#[1]⟩,⟨#[]⟩,⟨#[]⟩,⟨#[112,97,114,97,109]⟩,⟨⟨#[]⟩,0⟩,⟨#[]⟩⟩,⟨⟨⟨#[97]⟩,3⟩,3,0,[⟨⟨#[97]⟩,2⟩],2,⟨⟨#[97]⟩,1⟩,⟨⟨#[97]⟩,2⟩,false,⟨#[]⟩,⟨#[]⟩,⟨#[]⟩,⟨#[]⟩,⟨⟨#[]⟩,0⟩,⟨#[]⟩⟩,⟨⟨⟨#[97]⟩,4⟩,4,0,[⟨⟨#[97]⟩,3⟩],1,⟨⟨#[]⟩,0⟩,⟨⟨#[97]⟩,1⟩,false,⟨#[]⟩,⟨#[]⟩,⟨#[]⟩,⟨#[112,97,114,97,109]⟩,⟨⟨#[]⟩,0⟩,⟨#[]⟩⟩]
def oA:Nv.Rt:=⟨false,⟨#[1]⟩,⟨#[]⟩⟩
def tA:Nv.Rt:=⟨false,⟨#[2]⟩,⟨#[]⟩⟩
def hA:Nv.Rt:=⟨false,⟨#[1]⟩,⟨#[2]⟩⟩
def gA:List TN:=[⟨⟨⟨#[97]⟩,1⟩,⟨⟨#[]⟩,0⟩,zR,⟨#[103,114,111,117,112]⟩⟩,⟨⟨⟨#[97]⟩,2⟩,⟨⟨#[97]⟩,1⟩,oA,⟨#[112,97,114,97,109]⟩⟩,⟨⟨⟨#[97]⟩,4⟩,⟨⟨#[97]⟩,1⟩,zR,⟨#[112,97,114,97,109]⟩⟩]
theorem gA_app:appF [] eA=gA:=by kernel_rfl
theorem gA_walk:walkF gA=[idA 1,idA 4,idA 2]:=by kernel_rfl
theorem gA_key:keyF 3 gA (idA 1) 1=hA:=by kernel_rfl
theorem oA_mk:Nv.mkI 1 1=oA:=by kernel_rfl
theorem tA_mk:Nv.mkI 2 1=tA:=by kernel_rfl
theorem hA_div:divQ oA tA=(hA,true):=by kernel_rfl
theorem okA {x:Nv.Rt} (h:(decide (x.num.size<100000000) && decide (x.den.size<100000000))=true):OkQ x:=by
 rw [Bool.and_eq_true,decide_eq_true_eq,decide_eq_true_eq] at h
 exact ⟨h.1,h.2⟩
def okQb (x:Nv.Rt):Bool:=decide (x.num.size<100000000) && decide (x.den.size<100000000)
def okSb:Nat→Nv.Rt→Nv.Rt→Bool→Bool
 | 0,_,_,_=>false
 | n+1,lo,hi,bd=>okQb lo && okQb hi && okQb (flR lo) && decide ((flR lo).den.size<90000000) && okQb (nxR lo) && (stopB lo hi bd ||
   (okQb (subR hi (flR lo)) && okQb (subR lo (flR lo)) && okSb n (divQ oneR (subR hi (flR lo))).1 (divQ oneR (subR lo (flR lo))).1 (divQ oneR (subR lo (flR lo))).2 &&
   okQb (simpF n (divQ oneR (subR hi (flR lo))).1 (divQ oneR (subR lo (flR lo))).1 (divQ oneR (subR lo (flR lo))).2) &&
   okQb (divQ oneR (simpF n (divQ oneR (subR hi (flR lo))).1 (divQ oneR (subR lo (flR lo))).1 (divQ oneR (subR lo (flR lo))).2)).1))
theorem okSb_ok:∀ (n:Nat) (lo hi:Nv.Rt) (bd:Bool),okSb n lo hi bd=true→okS n lo hi bd:=by
 intro n
 induction n with
 | zero=>intro lo hi bd h; simp [okSb] at h
 | succ n ih =>
  intro lo hi bd h
  simp only [okSb,Bool.and_eq_true,decide_eq_true_eq] at h
  obtain ⟨⟨⟨⟨⟨h1,h2⟩,h3⟩,h4⟩,h5⟩,h6⟩:=h
  refine ⟨okA h1,okA h2,okA h3,h4,okA h5,fun hs=>?_⟩
  rw [hs,Bool.false_or] at h6
  simp only [Bool.and_eq_true] at h6
  obtain ⟨⟨⟨⟨k1,k2⟩,k3⟩,k4⟩,k5⟩:=h6
  exact ⟨okA k1,okA k2,ih _ _ _ k3,okA k4,okA k5⟩
theorem okA_pl:∀ t∈gA,OkQ t.pl:=by
 intro t ht
 simp [gA] at ht
 rcases ht with rfl | rfl | rfl
 ·exact okA (by kernel_rfl)
 ·exact okA (by kernel_rfl)
 ·exact okA (by kernel_rfl)
theorem okA_key:okK 3 gA (idA 1) 1:=by
 refine ⟨okA_pl,by decide,fun _ _ _=>?_⟩
 have e1:(nth (sibF gA (idA 1)) ((1:Int).toNat-1)).pl=zR:=by kernel_rfl
 have e2:(nth (sibF gA (idA 1)) (1:Int).toNat).pl=oA:=by kernel_rfl
 rw [e1,e2]
 have q0:OkQ zR:=okA (by kernel_rfl)
 have q1:OkQ oA:=okA (by kernel_rfl)
 refine ⟨q0,q1,fun _=>⟨fun h=>absurd h (by decide +kernel),fun _=>?_⟩⟩
 exact okSb_ok _ _ _ _ (by kernel_rfl)
theorem k2010:ACalls prog (GM 0) 10 [] [] fun t H=>t = .bool true∧H=[]:=by
 have s1:x2026.sc=true:=rfl
 have s2:x2028.sc=true:=rfl
 have s3:x2027.sc=true:=rfl
 have s4:x2015.sc=false:=rfl
 have s5:x2014.sc=true:=rfl
 have s6:(x2022 3).sc=true:=rfl
 have s7:x2011.sc=false:=rfl
 have g1:=xg2026
 have i1:∀ n,(idA n).row=[.v (.string ⟨#[97]⟩),.v (.int .i64 n)]:=fun _=>rfl
 have g2a:x2028.g [.c (.v (.int .i64 1))]=some (True,.v (ratV oA)):=(xg2028 1 (by decide)).trans (by rw [show Nv.mkI ((1:Nat):Int) 1=oA from oA_mk])
 have g2b:x2028.g [.c (.v (.int .i64 2))]=some (True,.v (ratV tA)):=(xg2028 2 (by decide)).trans (by rw [show Nv.mkI ((2:Nat):Int) 1=tA from tA_mk])
 have g3:x2027.g [ratP oA,ratP tA]=some (True,.tup [ratV hA,.c (.d (.v (.bool true)))]):=(xgDiv oA tA (okA (by kernel_rfl)) (okA (by kernel_rfl))).trans (by rw [hA_div])
 have g4:=(xg2015 gA okA_pl (by decide)).trans (by rw [gA_walk])
 have g5:x2014.g [.c (.sl ([idA 1,idA 4,idA 2].map Id.row)),.c (.sl ([idA 1,idA 4,idA 2].map Id.row))]=some (True,.bool true):=(xg2014 [idA 1,idA 4,idA 2] [idA 1,idA 4,idA 2] (by decide)).trans (by unfold samI; simp)
 have g6:=(xg2022 3 gA (idA 1) 1 okA_key (by decide)).trans (by rw [gA_key])
 have g7:=(xg2011 [] eA (by decide) (by decide)).trans (by rw [gA_app])
 have hea:eA.map Edit.row=[[.v (.string ⟨#[97]⟩),.v (.int .i64 1),.v (.int .i64 1),.v (.int .i64 0),.sl [],.v (.int .i64 1),.v (.string ⟨#[]⟩),.v (.int .i64 0),.v (.string ⟨#[]⟩),.v (.int .i64 0),.v (.bool false),.v (.string ⟨#[]⟩),.v (.string ⟨#[]⟩),.v (.string ⟨#[]⟩),.v (.string ⟨#[103,114,111,117,112]⟩),.v (.string ⟨#[]⟩),.v (.int .i64 0),.v (.string ⟨#[]⟩)],[.v (.string ⟨#[97]⟩),.v (.int .i64 2),.v (.int .i64 2),.v (.int .i64 0),.sl [[.v (.string ⟨#[97]⟩),.v (.int .i64 1)]],.v (.int .i64 1),.v (.string ⟨#[]⟩),.v (.int .i64 0),.v (.string ⟨#[97]⟩),.v (.int .i64 1),.v (.bool false),.v (.string ⟨#[1]⟩),.v (.string ⟨#[]⟩),.v (.string ⟨#[]⟩),.v (.string ⟨#[112,97,114,97,109]⟩),.v (.string ⟨#[]⟩),.v (.int .i64 0),.v (.string ⟨#[]⟩)],[.v (.string ⟨#[97]⟩),.v (.int .i64 3),.v (.int .i64 3),.v (.int .i64 0),.sl [[.v (.string ⟨#[97]⟩),.v (.int .i64 2)]],.v (.int .i64 2),.v (.string ⟨#[97]⟩),.v (.int .i64 1),.v (.string ⟨#[97]⟩),.v (.int .i64 2),.v (.bool false),.v (.string ⟨#[]⟩),.v (.string ⟨#[]⟩),.v (.string ⟨#[]⟩),.v (.string ⟨#[]⟩),.v (.string ⟨#[]⟩),.v (.int .i64 0),.v (.string ⟨#[]⟩)],[.v (.string ⟨#[97]⟩),.v (.int .i64 4),.v (.int .i64 4),.v (.int .i64 0),.sl [[.v (.string ⟨#[97]⟩),.v (.int .i64 3)]],.v (.int .i64 1),.v (.string ⟨#[]⟩),.v (.int .i64 0),.v (.string ⟨#[97]⟩),.v (.int .i64 1),.v (.bool false),.v (.string ⟨#[]⟩),.v (.string ⟨#[]⟩),.v (.string ⟨#[]⟩),.v (.string ⟨#[112,97,114,97,109]⟩),.v (.string ⟨#[]⟩),.v (.int .i64 0),.v (.string ⟨#[]⟩)]]:=rfl
 rw [hea] at g7
 have hgl:gA.length=3:=rfl
 rw [i1] at g6
 simp only [List.map_cons,List.map_nil,i1] at g4 g5 g7
 simp only [ratP,ratV,oA,tA,hA] at g2a g2b g3 g6
 have ce:cellsEq [.b,.s,.s] [.d (.v (.bool false)),.d (.v (.string ⟨#[1]⟩)),.d (.v (.string ⟨#[2]⟩))] [.d (.v (.bool false)),.d (.v (.string ⟨#[1]⟩)),.d (.v (.string ⟨#[2]⟩))]=some true:=by kernel_rfl
 obtain ⟨G,hG⟩:∃ G,G=gA:=⟨_,rfl⟩
 rw [← hG] at g4 g6 g7 hgl
 clear hG hea
 refine acallsX (X:=[(26,x2026),(28,x2028),(27,x2027),(15,x2015),(14,x2014),(22,x2022 3),(11,x2011)]) ⟨kx2026.gm,kx2028.gm,kx2027.gm,kx2015.gm,kx2014.gm,(kx2022 3).gm,kx2011,trivial⟩ tab hmix func10 c2010 (by rfl) fun hw=>?_
 simp -implicitDefEqProofs (disch:=omega) [gz,ir2010,b2010,b2010_0,b2010_1,b2010_2,b2010_3,b2010_4,b2010_5,s1,s2,s3,s4,s5,s6,s7,g1,i1,g2a,g2b,g3,g4,g5,g6,g7,hgl,ce,ratV,ratP,oA,tA,hA,wrap64,fillC,fillR,splice,toPVs,toPV,toDs,toD,frzVs,osVs,Nat.add_assoc]
 repeat' with_reducible apply And.intro
 all_goals first|omega|kernel_rfl|exact fun _ _=>rfl|skip
 exact fin_junk (A:=[]) hw rfl trivial ⟨rfl,rfl⟩
def x2010:XE:=mkX true (fun (_:Unit)=>[]) (fun _=>True) (fun _=>.bool true)
theorem kx2010:Contract prog (GM 0) 10 x2010:=mkX_scal (fun _=>rfl) fun _ _=>k2010
theorem xg2010:x2010.g []=some (True,.bool true):=mkX_g (fun _ _ _=>rfl) () trivial
structure OkT (l:List TN) (es:List Edit):Prop where
 ll:l.length<1152921504606846976
 n:∀ t∈l,OkN t
 el:es.length<1152921504606846976
 e:∀ e∈es,OkE e
 s:∀ e∈es,Siz e
end Go.Aw.Try
namespace Go.Aw
open Go
inductive Sh where
 | i (k:IntKind)
 | b
 | s
 | sl (es:List Sh)
mutual
def okSh:Sh→D→Prop
 | .i k,d=>∃ n,d = .v (.int k n)∧(Lit.int k n).wf=true
 | .b,d=>∃ x,d = .v (.bool x)
 | .s,d=>∃ x,d = .v (.string x)
 | .sl es,d=>∃ xs,d = .sl xs∧∀ x∈xs,okShs es x
def okShs:List Sh→List D→Prop
 | [],l=>l=[]
 | e :: es,l=>∃ d r,l=d :: r∧okSh e d∧okShs es r
end
theorem okShs_len:∀ {es:List Sh} {l:List D},okShs es l→l.length=es.length
 | [],l,h=>by simp only [okShs] at h; subst h; rfl
 | e :: es,l,h=>by
  simp only [okShs] at h
  obtain ⟨d,r,rfl,_,h⟩:=h
  simp [okShs_len h]
theorem okShs_app:∀ {es es':List Sh} {l l':List D},okShs es l→okShs es' l'→okShs (es ++ es') (l ++ l')
 | [],es',l,l',h,h'=>by simp only [okShs] at h; subst h; exact h'
 | e :: es,es',l,l',h,h'=>by
  simp only [okShs] at h
  obtain ⟨d,r,rfl,h1,h⟩:=h
  simp only [List.cons_append,okShs]
  exact ⟨d,r ++ l',rfl,h1,okShs_app h h'⟩
section
variable (P:Program)
mutual
def shT:Nat→TypeId→Option (List Sh)
 | 0,_=>none
 | n+1,t=>match P.underlying t with
  | some .bool=>some [.b]
  | some (.int k)=>some [.i k]
  | some .string=>some [.s]
  | some (.slice e)=>match shT n e with
   | some es=>if P.cellsOf e=es.length∧0<es.length then some [.sl es] else none
   | none=>none
  | some (.struct fs)=>match shF n 0 fs.toList with
   | some es=>if P.cellsOf t=es.length then some es else none
   | none=>none
  | _=>none
def shF:Nat→Nat→List Field→Option (List Sh)
 | _,_,[]=>some []
 | 0,_,_=>none
 | n+1,run,f :: r=>if f.offset=run then match shT n f.type with
  | some es=>if P.cellsOf f.type=es.length then match shF n (run+es.length) r with
   | some l=>some (es ++ l)
   | none=>none else none
  | none=>none else none
end
end
section
variable {H:Type}
mutual
def datD:DataW H→List D
 | .lit (.int k n)=>[.v (.int k n)]
 | .lit (.bool b)=>[.v (.bool b)]
 | .lit (.string bs)=>[.v (.string ⟨bs.toArray⟩)]
 | .nil=>[.sl []]
 | .slice es _=>[.sl (datDs es)]
 | .agg ps=>datF ps
 | _=>[]
def datDs:List (DataW H)→List (List D)
 | []=>[]
 | d :: r=>datD d :: datDs r
def datF:List (DataW H)→List D
 | []=>[]
 | d :: r=>datD d ++ datF r
end
theorem datDs_len:∀ l:List (DataW H),(datDs l).length=l.length
 | []=>rfl
 | d :: r=>by simp [datDs,datDs_len r]
theorem datDs_get:∀ (l:List (DataW H)) (i:Nat),(datDs l)[i]? = (l[i]?).map datD
 | [],i=>by simp [datDs]
 | d :: r,0=>by simp [datDs]
 | d :: r,i+1=>by simp [datDs,datDs_get r i]
end
theorem mapM_some {α β:Type} {f:α→Option β}:∀ {l:List α} {r:List β},l.mapM f=some r→r.length=l.length∧∀ (i:Nat) x,l[i]? = some x→∃ y,r[i]? = some y∧f x=some y
 | [],r,h=>by simp at h; subst h; simp
 | a :: l,r,h=>by
  rw [List.mapM_cons] at h
  cases hf:f a with
  | none=>rw [hf] at h; cases h
  | some b =>
   rw [hf] at h
   cases hm:l.mapM f with
   | none=>rw [hm] at h; cases h
   | some r' =>
    rw [hm] at h
    have h:some (b :: r')=some r:=h
    injection h with h; subst h
    obtain ⟨h1,h2⟩:=mapM_some hm
    refine ⟨by simp [h1],fun i x hx=>?_⟩
    cases i with
    | zero=>simp at hx; subst hx; exact ⟨b,by simp,hf⟩
    | succ i=>simp at hx; obtain ⟨y,hy,hz⟩:=h2 i x hx; exact ⟨y,by simpa using hy,hz⟩
def Rd (w:World) (es:List Sh) (cs:List Value) (ds:List D):Prop :=
 okShs es ds∧cs.length=es.length∧∀ (i:Nat) d v,ds[i]? = some d→cs[i]? = some v→DRel (fun b=>b<w.heap.size) w d v
theorem Rd.one {w:World} {e:Sh} {v:Value} {d:D} (h:okSh e d) (hd:DRel (fun b=>b<w.heap.size) w d v):Rd w [e] [v] [d] :=
 ⟨by simp only [okShs]; exact ⟨d,[],rfl,h,rfl⟩,rfl,fun i d' v' h1 h2=>by
  cases i with
  | zero=>simp at h1 h2; subst h1; subst h2; exact hd
  | succ i=>simp at h1⟩
theorem Rd.app {w:World} {es es':List Sh} {cs cs':List Value} {ds ds':List D} (h:Rd w es cs ds) (k:Rd w es' cs' ds'):Rd w (es ++ es') (cs ++ cs') (ds ++ ds'):=by
 have l1:=okShs_len h.1
 refine ⟨okShs_app h.1 k.1,by simp [h.2.1,k.2.1],fun i d v h1 h2=>?_⟩
 rw [List.getElem?_append] at h1 h2
 rw [l1] at h1
 rw [h.2.1] at h2
 split at h1
 ·rename_i hi; rw [if_pos hi] at h2; exact h.2.2 i d v h1 h2
 ·rename_i hi; rw [if_neg hi] at h2; exact k.2.2 _ d v h1 h2
theorem cells_get {w:World} {a:Addr} {n:Nat} {cs:List Value} (h:w.cells? 0 a n=some cs):cs.length=n∧∀ (j:Nat) v,cs[j]? = some v→w.cell? (a.add j)=some v:=by
 unfold World.cells? at h
 rw [if_pos (Nat.zero_le _)] at h
 obtain ⟨h1,h2⟩:=mapM_some h
 rw [List.length_range] at h1
 refine ⟨h1,fun j v hv=>?_⟩
 have hj:j<n:=by
  have:=(List.getElem?_eq_some_iff.1 hv).1; omega
 obtain ⟨y,hy,hz⟩:=h2 j j (by simp [hj])
 rw [hv] at hy; injection hy with hy; subst hy
 exact hz
theorem cell_spot {w:World} {a:Addr} {v:Value} (h:w.cell? a=some v):a.spot=none∧a.block<w.heap.size:=by
 unfold World.cell? at h
 split at h
 ·rename_i c _ _ hb
  refine ⟨?_,(Array.getElem?_eq_some_iff.1 hb).1⟩
  cases hs:a.spot with
  | none=>rfl
  | some x=>rw [hs] at h; simp at h
 ·cases h
section
variable {H:Type} {enc:TypeId×Value→H} {P:Program} {w:World} {sp:Nat→Bool} {held:Bool}
theorem trod_fields {fuel:Nat} (ih:∀ (n:Nat) (t:TypeId) (es:List Sh) (cs:List Value) (d:DataW H) (ps:List MemPlace),shT P n t=some es→DataW.trod enc P w 0 sp held fuel t cs=some (d,ps)→Rd w es cs (datD d)) :
  ∀ (fs:List Field) (n run:Nat) (es:List Sh) (cs:List Value) (xs:List (DataW H×List MemPlace)),shF P n run fs=some es →
   fs.mapM (fun f=>DataW.trod enc P w 0 sp held fuel f.type ((cs.drop f.offset).take (P.cellsOf f.type)))=some xs→run+es.length≤cs.length→Rd w es ((cs.drop run).take es.length) (datF (xs.map (·.1)))
 | [],n,run,es,cs,xs,h,hm,hl=>by
  have:es=[]:=by cases n <;> · simp only [shF] at h; injection h with h; exact h.symm
  subst this
  simp at hm; subst hm
  exact ⟨by simp [datF,okShs],by simp,fun i d v h1=>by simp [datF] at h1⟩
 | f :: fs,0,run,es,cs,xs,h,hm,hl=>by simp [shF] at h
 | f :: fs,n+1,run,es,cs,xs,h,hm,hl=>by
  simp only [shF] at h
  split at h
  ·rename_i ho
   split at h
   ·rename_i es1 h1
    split at h
    ·rename_i hc
     split at h
     ·rename_i l h2
      injection h with h; subst h
      rw [List.mapM_cons] at hm
      cases hf:DataW.trod enc P w 0 sp held fuel f.type ((cs.drop f.offset).take (P.cellsOf f.type)) with
      | none=>rw [hf] at hm; cases hm
      | some x =>
       rw [hf] at hm
       cases hr:fs.mapM (fun f=>DataW.trod enc P w 0 sp held fuel f.type ((cs.drop f.offset).take (P.cellsOf f.type))) with
       | none=>rw [hr] at hm; cases hm
       | some xs' =>
        rw [hr] at hm
        have hm:some (x :: xs')=some xs:=hm
        injection hm with hm; subst hm
        simp only [List.length_append] at hl
        have g1:=ih n f.type es1 _ x.1 x.2 h1 hf
        have g2:=trod_fields ih fs n (run+es1.length) l cs xs' h2 hr (by omega)
        rw [ho,hc] at g1
        have e:(cs.drop run).take (es1 ++ l).length=(cs.drop run).take es1.length ++ (cs.drop (run+es1.length)).take l.length:=by
         rw [List.length_append,List.take_add,List.drop_drop]
        rw [e]
        exact g1.app g2
     ·cases h
    ·cases h
   ·cases h
  ·cases h
theorem trod_rd:∀ (fuel n:Nat) (t:TypeId) (es:List Sh) (cs:List Value) (d:DataW H) (ps:List MemPlace),shT P n t=some es→DataW.trod enc P w 0 sp held fuel t cs=some (d,ps)→Rd w es cs (datD d)
 | 0,n,t,es,cs,d,ps,hs,h=>by simp [DataW.trod] at h
 | fuel+1,0,t,es,cs,d,ps,hs,h=>by simp [shT] at hs
 | fuel+1,n+1,t,es,cs,d,ps,hs,h=>by
  have ih:=trod_rd fuel
  cases hu:P.underlying t with
  | none=>simp [shT,hu] at hs
  | some td =>
   unfold DataW.trod at h
   simp only [shT,hu] at hs
   rw [hu] at h
   cases td <;> simp only at hs <;> first | (cases hs; done) | skip
   case bool =>
    injection hs with hs; subst hs
    split at h <;> first | (rename_i e; cases e; done) | (rename_i e _; cases e; done) | (rename_i e _ _; cases e; done) | skip
    ·injection h with h; injection h with h1 h2; subst h1
     exact Rd.one ⟨_,rfl⟩ (.v _ rfl)
    ·cases h
   case int k =>
    injection hs with hs; subst hs
    split at h <;> first | (rename_i e; cases e; done) | (rename_i e _; cases e; done) | (rename_i e _ _; cases e; done) | skip
    ·rename_i e
     injection e with e; injection e with e; subst e
     split at h
     ·rename_i hk
      obtain ⟨rfl,hw⟩:=hk
      injection h with h; injection h with h1 h2; subst h1
      exact Rd.one ⟨_,rfl,hw⟩ (.v _ rfl)
     ·cases h
    ·cases h
   case string =>
    injection hs with hs; subst hs
    split at h <;> first | (rename_i e; cases e; done) | (rename_i e _; cases e; done) | (rename_i e _ _; cases e; done) | skip
    ·rename_i s0 e
     split at h
     ·injection h with h; injection h with h1 h2; subst h1
      exact Rd.one ⟨_,rfl⟩ (by simpa [datD] using DRel.v (.string s0) rfl)
     ·cases h
    ·cases h
   case slice e =>
    split at hs
    ·rename_i es1 h1
     split at hs
     ·rename_i hc
      injection hs with hs; subst hs
      split at h <;> first | (rename_i e; cases e; done) | (rename_i e _; cases e; done) | (rename_i e _ _; cases e; done) | skip
      ·injection h with h; injection h with h1 h2; subst h1
       exact Rd.one ⟨[],rfl,by simp⟩ (.nil none 0)
      ·rename_i e' a len cap heq
       injection heq with heq; injection heq with heq; subst heq
       simp only at h
       split at h
       ·rename_i hcap
        cases hm:(List.range len).mapM (fun i=>(w.cells? 0 (a.add (i*P.cellsOf e)) (P.cellsOf e)).bind (DataW.trod enc P w 0 sp held fuel e)) with
        | none=>rw [hm] at h; cases h
        | some elems =>
         rw [hm] at h
         simp only [Option.bind_some,Option.map_eq_some_iff] at h
         obtain ⟨rest,_,h⟩:=h
         injection h with h2 h3; subst h2
         obtain ⟨hlen,hget⟩:=mapM_some hm
         rw [List.length_range] at hlen
         have hel:∀ (i:Nat) x,elems[i]? = some x→∃ cs,w.cells? 0 (a.add (i*es1.length)) es1.length=some cs∧Rd w es1 cs (datD x.1):=fun i x hx=>by
          have hi:i<len:=by have:=(List.getElem?_eq_some_iff.1 hx).1; omega
          obtain ⟨y,hy,hz⟩:=hget i i (by simp [hi])
          rw [hx] at hy; injection hy with hy; subst hy
          simp only [Option.bind_eq_some_iff] at hz
          obtain ⟨cs,hcs,hz⟩:=hz
          rw [hc.1] at hcs
          exact ⟨cs,hcs,ih n e es1 cs x.1 x.2 h1 hz⟩
         have hget':∀ (i:Nat) y,(datDs (elems.map (·.1)))[i]? = some y→∃ x,elems[i]? = some x∧y=datD x.1:=fun i y hy=>by
          rw [datDs_get,List.getElem?_map] at hy
          cases hx:elems[i]? with
          | none=>rw [hx] at hy; cases hy
          | some x=>rw [hx] at hy; simp at hy; exact ⟨x,rfl,hy.symm⟩
         have hok:∀ y∈datDs (elems.map (·.1)),okShs es1 y:=fun y hy=>by
          obtain ⟨i,hi⟩:=List.getElem?_of_mem hy
          obtain ⟨x,hx,rfl⟩:=hget' i y hi
          obtain ⟨cs,_,hr⟩:=hel i x hx
          exact hr.1
         refine Rd.one ⟨_,rfl,hok⟩ ?_
         by_cases hl0:len=0
         ·have:elems=[]:=List.length_eq_zero_iff.1 (by omega)
          subst this; subst hl0
          exact .nil _ _
         ·obtain ⟨x0,hx0⟩:∃ x0,elems[0]? = some x0:=⟨elems[0]'(by omega),by simp⟩
          obtain ⟨cs0,hcs0,hr0⟩:=hel 0 x0 hx0
          obtain ⟨g1,g2⟩:=cells_get hcs0
          obtain ⟨v0,hv0⟩:∃ v0,cs0[0]? = some v0:=⟨cs0[0]'(by omega),by simp⟩
          have hsp:=cell_spot (g2 0 v0 hv0)
          have ha0:(a.add (0*es1.length)).add 0=a:=by simp [Addr.add]
          rw [ha0] at hsp
          have hadd:∀ i j,(a.add (i*es1.length)).add j=⟨a.block,a.off+i*es1.length+j,none⟩:=fun i j=>by
           cases a with
           | mk b o sp0 =>
            have:sp0=none:=hsp.1
            subst this
            unfold Addr.add
            split
            ·split
             ·rename_i q1 q2; simp [q1,q2]
             ·rename_i q1 q2; simp [q1]
            ·split
             ·rename_i q1 q2; simp [q2]
             ·rfl
          obtain ⟨b,o,sp0⟩:=a
          have:sp0=none:=hsp.1
          subst this
          have hlen':(datDs (elems.map (·.1))).length=len:=by rw [datDs_len,List.length_map,hlen]
          have hcell:∀ (i:Nat) (y:List D) (j:Nat) (d:D),(datDs (elems.map (·.1)))[i]? = some y→y[j]? = some d→∃ v,w.cell? ⟨b,o+i*es1.length+j,none⟩=some v∧DRel (fun b=>b<w.heap.size) w d v:=fun i y j d hy hd=>by
           obtain ⟨x,hx,rfl⟩:=hget' i y hy
           obtain ⟨cs,hcs,hr⟩:=hel i x hx
           obtain ⟨q1,q2⟩:=cells_get hcs
           have hj:j<cs.length:=by
            have:=(List.getElem?_eq_some_iff.1 hd).1
            rw [okShs_len hr.1] at this; omega
           have hv:cs[j]? = some cs[j]:=by simp [hj]
           refine ⟨cs[j],?_,hr.2.2 j d _ hd hv⟩
           have:=q2 j _ hv
           rw [hadd] at this; exact this
          have:=DRel.sl (S:=fun b=>b<w.heap.size) (w:=w) (datDs (elems.map (·.1))) b o cap es1.length (fun i j=>(w.cell? ⟨b,o+i*es1.length+j,none⟩).getD undef) hsp.2 hsp.2 (by rw [hlen']; exact hcap.2.1)
           (fun i x hx=>by
            obtain ⟨x',hx',rfl⟩:=hget' i x hx
            obtain ⟨cs,_,hr⟩:=hel i x' hx'
            exact okShs_len hr.1)
           (fun i x j d hi hj=>by obtain ⟨v,hv,_⟩:=hcell i x j d hi hj; rw [hv]; rfl)
           (fun i x j d hi hj=>by obtain ⟨v,hv,hr⟩:=hcell i x j d hi hj; rw [hv]; exact hr)
          rw [hlen'] at this
          exact this
       ·cases h
      ·cases h
     ·cases hs
    ·cases hs
   case struct fs =>
    split at hs
    ·rename_i es1 h1
     split at hs
     ·rename_i hc
      injection hs with hs; subst hs
      split at h <;> first | (rename_i e; cases e; done) | (rename_i e _; cases e; done) | (rename_i e _ _; cases e; done) | skip
      ·rename_i fs' heq
       injection heq with heq; injection heq with heq; subst heq
       split at h
       ·rename_i hlen
        simp only [Option.map_eq_some_iff] at h
        obtain ⟨xs,hm,h⟩:=h
        injection h with h2 h3; subst h2
        have:=trod_fields ih fs.toList n 0 es1 _ xs h1 hm (by omega)
        rw [List.drop_zero,List.take_of_length_le (by omega)] at this
        exact this
       ·cases h
      ·exact (‹∀ fs_1,some (TypeDesc.struct fs)=some (TypeDesc.struct fs_1)→False› fs rfl).elim
     ·cases hs
    ·cases hs
theorem vals_of_trod:∀ {ts:List TypeId} {vs:List Value} {ds:List (DataW H)} {ps:List MemPlace},DataW.TrodAll enc P w 0 sp held ts vs ds ps →
  ∀ (n:Nat) (ess:List (List Sh)),ts.map (shT P n)=ess.map some→vs.length=ts.length∧ds.length=ts.length ∧
   ∀ (i:Nat) es v d,ess[i]? = some es→vs[i]? = some v→ds[i]? = some d→Rd w es v.cells.toList (datD d)
 | [],[],[],ps,h,n,ess,he=>by
  have:ess=[]:=by cases ess <;> simp_all
  subst this
  simp
 | t :: ts,v :: vs,d :: ds,ps,h,n,ess,he=>by
  obtain ⟨p,q,⟨fuel,h1⟩,h2,_⟩:=h
  match ess,he with
  | es :: ess,he =>
   simp only [List.map_cons,List.cons.injEq] at he
   obtain ⟨g1,g2,g3⟩:=vals_of_trod h2 n ess he.2
   refine ⟨by simp [g1],by simp [g2],fun i es' v' d' hi hv hd=>?_⟩
   cases i with
   | zero=>simp at hi hv hd; subst hi; subst hv; subst hd; exact trod_rd fuel n t es _ _ _ he.1 h1
   | succ i=>simp at hi hv hd; exact g3 i es' v' d' hi hv hd
 | [],_ :: _,_,_,h,_,_,_=>by cases h
 | [],[],_ :: _,_,h,_,_,_=>by cases h
 | _ :: _,[],_,_,h,_,_,_=>by cases h
 | _ :: _,_ :: _,[],_,h,_,_,_=>by cases h
def argV (agg:Bool) (ds:List D):V:=if agg then .agg (ds.map .d) else match ds with | [d]=>.c (.d d) | _=>.any
theorem argV_rel {k:K} (hS:k.S=fun b=>b<k.w.heap.size) {es:List Sh} {v:Value} {ds:List D} {agg:Bool} (h:Rd k.w es v.cells.toList ds) (ha:agg=true→∃ cs,v = .agg cs) (hna:agg=false→v.cells = #[v]∧es.length=1) :
  VRel P k (argV agg ds) v:=by
 cases agg with
 | true =>
  obtain ⟨cs,rfl⟩:=ha rfl
  have hl:=okShs_len h.1
  have h2:=h.2.1
  refine ⟨cs,rfl,?_,fun i c v hc hv=>?_⟩
  ·simp [Value.cells] at h2; simp [hl,h2]
  ·rw [List.getElem?_map] at hc
   cases hd:ds[i]? with
   | none=>rw [hd] at hc; cases hc
   | some d =>
    rw [hd] at hc; simp at hc; subst hc
    have:=h.2.2 i d v hd (by simpa [Value.cells] using hv)
    show DRel k.S k.w d v
    rw [hS]; exact this
 | false =>
  obtain ⟨hc,he⟩:=hna rfl
  have hl:=okShs_len h.1
  match ds,hl with
  | [d],_ =>
   have:=h.2.2 0 d v rfl (by rw [hc]; rfl)
   show DRel k.S k.w d v
   rw [hS]; exact this
  | [],hl=>rw [he] at hl; cases hl
  | _ :: _ :: _,hl=>rw [he] at hl; simp at hl
theorem stab_nil0 (w:World):(ctx (fun _=>none) [] w).S=fun b=>b<w.heap.size:=by
 funext b
 apply propext
 constructor
 ·intro h; exact h.1
 ·intro h; exact ⟨h,fun r o hr=>by simp at hr⟩
theorem hrel_nil (w:World):HRel P (fun _=>none) [] w:=⟨fun r o hr=>by simp at hr,fun r r' o o' b hr=>by simp at hr,fun r b hr=>by cases hr⟩
theorem post_of_acalls {G0:Gl} (hl:laidOutB P=true) {f:Nat} {fn:Func} {s:ChangeSpec} {W:World} (hG0:GRel G0 (stab (fun _=>none) [] W) W) {args:Array Value} {ds gs:List (DataW H)} {before:List MemPlace} {us:List V} {R:T→List O→Prop} {apart handsOn:Bool} {tb:TypeId}
  (hres:fn.resultTypes = #[tb]) (hb:P.underlying tb=some .bool) (hvars:s.vars=[]) (hspec:s.fn H (ds ++ gs) = { results:=[.lit (.bool true)],args:=ds })
  (hparams:∀ t∈fn.params.toList,P.readableRec t=true∧t<P.types.size)
  (hW:DataW.Whole enc P fn.params.toList s.vars apart W args.toList ds gs before)
  (hv:VsRel P (ctx (fun _=>none) [] W) us args) (h:ACalls P G0 f us [] R) (hR:∀ t H,R t H→t = .bool true) :
  Calls P f args W fun e W'=>∃ v,e = .returned v∧s.post enc P fn apart true handsOn false W args v W':=by
 refine (h.2 (fun _=>none) W args (hrel_nil W) hG0 hv).mono ?_
 rintro e W' ⟨v,t,ρ',H',rfl,hRt,hH,ht,le⟩
 have:=hR t H' hRt
 subst this
 have hvt:v = .bool true:=drel_v ht
 subst hvt
 have hstep:=le.step
 rw [stab_nil0] at hstep
 have hkeep:∀ b,b<W.heap.size→W'.heap[b]? = W.heap[b]? := hstep.keep
 obtain ⟨p,q,hA,hV,hpq,hz,hn⟩:=id hW
 have hlt:∀ x∈before,x.block<W.heap.size:=fun x hx=>by simpa using hW.lt x hx
 have hq:q=[]:=by rw [hvars] at hV; cases gs <;> simp [DataW.TrodVars] at hV; exact hV
 subst hq
 rw [List.append_nil] at hpq
 have hbelow:Go.RowKit.Below W.heap.size W W':=⟨hstep.os,hstep.tape,hstep.output,hstep.size,hkeep⟩
 have hargs:∀ (ts:List TypeId) (vs:List Value) (ds:List (DataW H)) (ps:List MemPlace),(∀ t∈ts,P.readableRec t=true∧t<P.types.size)→(∀ x∈ps,x.block<W.heap.size)→DataW.TrodAll enc P W 0 (fun _=>true) true ts vs ds ps →
   DataW.TrodAll enc P W' 0 (fun b=>decide (b<W.heap.size)) true ts vs ds ps:=by
  intro ts
  induction ts with
  | nil=>intro vs ds ps _ _ h; cases vs <;> cases ds <;> exact h
  | cons t ts ih =>
   intro vs ds ps hp hlt h
   cases vs with
   | nil=>cases h
   | cons v vs =>
    cases ds with
    | nil=>cases h
    | cons d ds =>
     obtain ⟨p,q,h1,h2,rfl⟩:=h
     have ht:=hp t List.mem_cons_self
     exact ⟨p,q,Go.RowKit.Below.trod hl ht.1 ht.2 h1 hbelow (fun x hx=>hlt x (List.mem_append_left _ hx)),ih vs ds q (fun t ht=>hp t (List.mem_cons_of_mem _ ht)) (fun x hx=>hlt x (List.mem_append_right _ hx)) h2,rfl⟩
 refine ⟨_,rfl,ds,gs,before,[],before,[],hW,?_,?_,?_,?_,fun h=>by cases h⟩
 ·rw [hspec,hres]
  exact ⟨[],[],Go.RowKit.shut_bool hb true,rfl,rfl⟩
 ·rw [hspec]; exact hargs _ _ _ _ hparams hlt (hpq▸hA)
 ·rw [hspec,hvars]; simp [DataW.TrodVars]
 ·refine ⟨hstep.os,hstep.output,fun i hi=>?_⟩
  rw [hkeep i hi]
  cases W.heap[i]? with
  | none=>simp
  | some o=>cases o <;> simp
end
section
variable {P:Program} {w:World}
def aggT (P:Program) (t:TypeId):Bool:=match P.underlying t with
 | some (.struct _)=>true
 | some (.array _ _)=>true
 | _=>false
theorem okWide_one {r:Reach} {base:Nat} {t:TypeId} {v:Value} (ha:aggT P t=false) (h:Value.okWide P w r base t v):v.cells = #[v]:=by
 unfold aggT at ha
 unfold Value.okWide at h
 cases hu:P.underlying t with
 | none =>
  rw [hu] at h
  cases v <;> first | rfl | (simp [Cell.okWide,Cell.ok,hu] at h)
 | some td =>
  rw [hu] at h ha
  cases td <;> first | (cases ha; done) | (cases v <;> first | rfl | (simp [Cell.okWide,Cell.ok,hu] at h))
theorem okWide_agg {r:Reach} {base:Nat} {t:TypeId} {v:Value} (ha:aggT P t=true) (h:Value.okWide P w r base t v):∃ cs,v = .agg cs:=by
 unfold aggT at ha
 unfold Value.okWide at h
 cases hu:P.underlying t with
 | none=>rw [hu] at ha; cases ha
 | some td =>
  rw [hu] at h ha
  cases td <;> first | (cases ha; done) | (obtain ⟨cs,e,_⟩:=h; exact ⟨cs,e⟩)
theorem shT_one {n:Nat} {t:TypeId} {es:List Sh} (ha:aggT P t=false) (h:shT P n t=some es):es.length=1:=by
 cases n with
 | zero=>simp [shT] at h
 | succ n =>
  unfold aggT at ha
  cases hu:P.underlying t with
  | none=>simp [shT,hu] at h
  | some td =>
   rw [hu] at ha
   simp only [shT,hu] at h
   cases td <;> simp only at h <;> first | (cases h; done) | (cases ha; done) | (injection h with h; subst h; rfl) | skip
   split at h
   ·split at h
    ·injection h with h; subst h; rfl
    ·cases h
   ·cases h
variable {H:Type} {enc:TypeId×Value→H}
theorem law_calls {G0:Gl} (hl:laidOutB P=true) {f:Nat} {fn:Func} {s:ChangeSpec} {W:World} (hG0:GRel G0 (stab (fun _=>none) [] W) W) {base:Nat} {args:Array Value} {ds gs:List (DataW H)} {before:List MemPlace} {apart handsOn:Bool} {tb:TypeId}
  {n:Nat} {ess:List (List Sh)} {aggs:List Bool} (hts:fn.params.toList.map (shT P n)=ess.map some) (hag:fn.params.toList.map (aggT P)=aggs)
  (hres:fn.resultTypes = #[tb]) (hb:P.underlying tb=some .bool) (hvars:s.vars=[]) (hspec:∀ ds:List (DataW H),ds.length=fn.params.toList.length→s.fn H ds = { results:=[.lit (.bool true)],args:=ds })
  (hparams:fn.params.toList.all (fun t=>P.readableRec t && decide (t<P.types.size))=true)
  (hval:∀ (j:Nat) t v,fn.params[j]? = some t→args[j]? = some v→Value.okWide P W .any base t v)
  (hW:DataW.Whole enc P fn.params.toList s.vars apart W args.toList ds gs before)
  (h:(ds.map datD).length=ess.length→(∀ (i:Nat) es u,ess[i]? = some es→(ds.map datD)[i]? = some u→okShs es u)→gs=[]→ACalls P G0 f (List.zipWith argV aggs (ds.map datD)) [] fun t _=>t = .bool true) :
  Calls P f args W fun e W'=>∃ v,e = .returned v∧s.post enc P fn apart true handsOn false W args v W':=by
 obtain ⟨p,q,hA,hV,hpq,hz,hn⟩:=id hW
 have hgs:gs=[]:=by rw [hvars] at hV; cases gs <;> simp [DataW.TrodVars] at hV; rfl
 subst hgs
 obtain ⟨l1,l2,hr⟩:=vals_of_trod hA n ess hts
 have hel:ess.length=fn.params.toList.length:=by have:=congrArg List.length hts; simpa using this.symm
 have hal:aggs.length=fn.params.toList.length:=by rw [← hag]; simp
 have hok:=h (by simp [l2,hel]) (fun i es u he hu=>by
  rw [List.getElem?_map] at hu
  cases hd:ds[i]? with
  | none=>rw [hd] at hu; cases hu
  | some d =>
   rw [hd] at hu; simp at hu; subst hu
   have hi:i<args.toList.length:=by rw [l1,← l2]; exact (List.getElem?_eq_some_iff.1 hd).1
   exact (hr i es _ d he (List.getElem?_eq_getElem hi) hd).1) rfl
 refine post_of_acalls hl hG0 (ds:=ds) (gs:=[]) hres hb hvars (by rw [List.append_nil]; exact hspec ds l2) (fun t ht=>?_) hW ?_ hok (fun t H h=>h)
 ·have:=List.all_eq_true.1 hparams t ht
  simp at this; exact this
 ·refine ⟨by simp [hal,l2]; simpa using l1,fun i c v hc hv=>?_⟩
  rw [List.getElem?_zipWith] at hc
  have hv':args.toList[i]? = some v:=by simpa using hv
  have hi:i<fn.params.toList.length:=by rw [← l1]; exact (List.getElem?_eq_some_iff.1 hv').1
  have hp:fn.params.toList[i]? = some fn.params.toList[i]:=List.getElem?_eq_getElem hi
  obtain ⟨t,ht⟩:∃ t,fn.params.toList[i]? = some t:=⟨_,hp⟩
  have hga:aggs[i]? = some (aggT P t):=by rw [← hag,List.getElem?_map,ht]; rfl
  have hsh:∃ es,ess[i]? = some es∧shT P n t=some es:=by
   have h1:(fn.params.toList.map (shT P n))[i]? = some (shT P n t):=by rw [List.getElem?_map,ht]; rfl
   rw [hts,List.getElem?_map] at h1
   cases he:ess[i]? with
   | none=>rw [he] at h1; cases h1
   | some es=>rw [he] at h1; simp at h1; exact ⟨es,rfl,h1.symm⟩
  obtain ⟨es,he,hse⟩:=hsh
  have hdi:i<ds.length:=by rw [l2]; exact hi
  have hd:ds[i]? = some ds[i]:=List.getElem?_eq_getElem hdi
  have hdm:(ds.map datD)[i]? = some (datD ds[i]):=by rw [List.getElem?_map,hd]; rfl
  rw [hga,hdm] at hc
  simp at hc
  subst hc
  have hrd:=hr i es v ds[i] he hv' hd
  have hok':=hval i t v (by simpa using ht) hv
  exact argV_rel (k:=ctx (fun _=>none) [] W) (stab_nil0 W) hrd (fun ha=>okWide_agg ha hok') (fun ha=>⟨okWide_one ha hok',shT_one ha hse⟩)
mutual
def wD:D→Nat
 | .v (.string s)=>s.size+1
 | .sl xs=>wDss xs+1
 | _=>1
def wDs:List D→Nat
 | []=>0
 | d :: r=>wD d+wDs r
def wDss:List (List D)→Nat
 | []=>0
 | x :: r=>wDs x+wDss r
end
theorem wDs_app:∀ (a b:List D),wDs (a ++ b)=wDs a+wDs b
 | [],b=>by simp [wDs]
 | d :: a,b=>by simp only [List.cons_append,wDs,wDs_app a b]; omega
end
end Go.Aw
namespace Go.Aw.Try
open Go Go.Proofs Go.Proofs.YtbehhclclhfhkaaGreatDoor Go.Aw
set_option maxRecDepth 100000
set_option maxHeartbeats 4000000
abbrev idSh:List Sh:=[.s,.i .i64]
theorem dec_id {l:List D} (h:okShs idSh l):∃ x:Id,l=x.row:=by
 simp only [idSh,okShs,okSh] at h
 obtain ⟨_,_,rfl,⟨a,rfl⟩,_,_,rfl,⟨n,rfl,_⟩,rfl⟩:=h
 exact ⟨⟨a,n⟩,rfl⟩
theorem dec_list {α:Type} {row:α→List D} {sh:List Sh} (hd:∀ l,okShs sh l→∃ x,l=row x):∀ {xs:List (List D)},(∀ x∈xs,okShs sh x)→∃ l:List α,xs=l.map row
 | [],_=>⟨[],rfl⟩
 | x :: xs,h=>by
  obtain ⟨a,rfl⟩:=hd x (h x List.mem_cons_self)
  obtain ⟨l,rfl⟩:=dec_list hd (fun y hy=>h y (List.mem_cons_of_mem _ hy))
  exact ⟨a :: l,rfl⟩
theorem wrows {α:Type} {row:α→List D} (h:∀ x,row x≠[]):∀ l:List α,l.length≤wDss (l.map row)
 | []=>by simp
 | x :: l=>by
  have:=wrows h l
  have h1:1≤wDs (row x):=by
   cases hx:row x with
   | nil=>exact absurd hx (h x)
   | cons d r =>
    have:1≤wD d:=by unfold wD; split <;> omega
    simp only [wDs]; omega
  simp only [List.map_cons,wDss,List.length_cons]; omega
section
variable {H:Type}
mutual
theorem bulk_D:∀ d:DataW H,wDs (datD d)≤Rows.uptoBulk d
 | .lit l=>by cases l <;> simp [datD,wDs,wD,Rows.uptoBulk,ByteArray.size]
 | .nil=>by simp [datD,wDs,wD,wDss,Rows.uptoBulk]
 | .ptr d=>by simp [datD,wDs]
 | .slice es sp=>by
  have:=bulk_Ds es
  simp only [datD,wDs,wD,Rows.uptoBulk]; omega
 | .agg ps=>by
  have:=bulk_F ps
  simp only [datD,Rows.uptoBulk]; omega
 | .iface t d=>by simp [datD,wDs]
 | .map es=>by simp [datD,wDs]
 | .held h=>by simp [datD,wDs]
theorem bulk_Ds:∀ l:List (DataW H),wDss (datDs l)≤Rows.uptoBulkAll l
 | []=>by simp [datDs,wDss]
 | d :: r=>by
  have h1:=bulk_D d
  have h2:=bulk_Ds r
  simp only [datDs,wDss,Rows.uptoBulkAll]; omega
theorem bulk_F:∀ l:List (DataW H),wDs (datF l)≤Rows.uptoBulkAll l
 | []=>by simp [datF,wDs]
 | d :: r=>by
  have h1:=bulk_D d
  have h2:=bulk_F r
  simp only [datF,Rows.uptoBulkAll]; rw [wDs_app]; omega
end
theorem bulk_args {ds:List (DataW H)} (hk:Rows.uptoSmall H ds=true):∀ (i:Nat) u,(ds.map datD)[i]? = some u→wDs u≤1048576:=by
 have h:Rows.uptoBulkAll ds≤1048576:=of_decide_eq_true hk
 intro i u hu
 have key:∀ (ds:List (DataW H)) (i:Nat) u,(ds.map datD)[i]? = some u→wDs u≤Rows.uptoBulkAll ds:=by
  intro ds
  induction ds with
  | nil=>intro i u hu; simp at hu
  | cons d r ih =>
   intro i u hu
   cases i with
   | zero=>simp at hu; subst hu; have:=bulk_D d; simp only [Rows.uptoBulkAll]; omega
   | succ i=>simp at hu; have:=ih i u (by simpa using hu); simp only [Rows.uptoBulkAll]; omega
 exact Nat.le_trans (key ds i u hu) h
end
theorem own:ownKnob prog.godebug=none:=by kernel_rfl
theorem laid:laidOutB prog=true:=by kernel_rfl
theorem wmem {α:Type} {row:α→List D}:∀ {l:List α} {x:α},x∈l→wDs (row x)≤wDss (l.map row)
 | [],x,h=>by cases h
 | y :: l,x,h=>by
  simp only [List.map_cons,wDss]
  rcases List.mem_cons.1 h with rfl | h
  ·omega
  ·have:=wmem (row:=row) h; omega
abbrev tnSh:List Sh:=[.s,.i .i64,.s,.i .i64,.b,.s,.s,.s]
theorem dec_tn {l:List D} (h:okShs tnSh l):∃ e:TN,l=e.row:=by
 simp only [tnSh,okShs,okSh] at h
 obtain ⟨_,_,rfl,⟨a1,rfl⟩,_,_,rfl,⟨a2,rfl,_⟩,_,_,rfl,⟨a3,rfl⟩,_,_,rfl,⟨a4,rfl,_⟩,_,_,rfl,⟨a5,rfl⟩,_,_,rfl,⟨a6,rfl⟩,_,_,rfl,⟨a7,rfl⟩,_,_,rfl,⟨a8,rfl⟩,rfl⟩:=h
 exact ⟨⟨⟨a1,a2⟩,⟨a3,a4⟩,⟨a5,a6,a7⟩,a8⟩,rfl⟩
theorem dec_tns {l:List D} (h:okShs [.sl tnSh] l):∃ es:List TN,l=[.sl (es.map TN.row)]:=by
 simp only [okShs,okSh] at h
 obtain ⟨_,_,rfl,⟨xs,rfl,h⟩,rfl⟩:=h
 obtain ⟨es,rfl⟩:=dec_list (row:=TN.row) (fun l h=>dec_tn h) h
 exact ⟨es,rfl⟩
theorem dec_idA {l:List D} (h:okShs idSh l):∃ x:Id,l=x.row:=dec_id h
theorem trash {W:World} (h:laidMetH prog Rows.movetreeBatchesUptoRow.laid W):GRel (GM 0) (stab (fun _=>none) [] W) W:=by
 rw [Go.MakeChecks.laidMetH_plain _ _ _ (by kernel_rfl)] at h
 obtain ⟨ps,⟨_,_,_,_,_,_,_,_,_,_,⟨g,t,cs,fuel,p,q,hg,ht,hv,hd,_,_⟩,_⟩,_,_⟩:=h
 obtain rfl:=Option.some.inj ((show prog.globalNamed "voussoir/movetree.trash" = some 0 by kernel_rfl).symm.trans hg)
 obtain rfl:=Option.some.inj ((show (prog.globals[0]?).map (·.type)=some 25 by kernel_rfl).symm.trans ht)
 have hr:=trod_rd fuel 20 25 idSh _ _ _ (by kernel_rfl) hd
 obtain ⟨_,hlen,hr⟩:=hr
 have hd0:datD (H:=Unit) Rows.laid_voussoir_movetree_trash=[.v (.string ⟨#[45]⟩),.v (.int .i64 0)]:=rfl
 rw [hd0] at hr
 have h2:cs.toList.length=2:=hlen
 have c0:W.cell? ⟨0,0,none⟩=some (.string ⟨#[45]⟩):=by
  have e:=World.var?_cell hg hv 0
  have e0:cs.toList[0]? = some (cs.toList[0]'(by omega)):=List.getElem?_eq_getElem (by omega)
  have e1:=drel_v (hr 0 _ _ rfl e0)
  rw [e,← e1,← Array.getElem?_toList]; exact e0
 have c1:W.cell? ⟨0,1,none⟩=some (.int .i64 0):=by
  have e:=World.var?_cell hg hv 1
  have e0:cs.toList[1]? = some (cs.toList[1]'(by omega)):=List.getElem?_eq_getElem (by omega)
  have e1:=drel_v (hr 1 _ _ rfl e0)
  rw [e,← e1,← Array.getElem?_toList]; exact e0
 intro g cs' hg'
 unfold GM at hg'
 split at hg'
 ·rename_i h0
  subst h0
  injection hg' with hg'; subst hg'
  have hlt:0<W.heap.size:=World.block_lt_of_cell? _ _ c0
  refine ⟨⟨hlt,fun r o hr=>by simp at hr⟩,hlt,fun j d hj=>?_⟩
  cases j with
  | zero=>injection hj with hj; subst hj; exact ⟨_,c0,DRel.v _ rfl⟩
  | succ j =>
   cases j with
   | zero=>injection hj with hj; subst hj; exact ⟨_,c1,DRel.v _ rfl⟩
   | succ j=>simp at hj
 ·cases hg'
def litV:DataW Unit→Value
 | .lit (.int k n)=>.int k n
 | _=>undef
def aggV:DataW Unit→List Value
 | .agg xs=>xs.flatMap fun d=>match d with
  | .agg ys=>ys.map litV
  | d=>[litV d]
 | _=>[]
def layO (cs:Array Value):Obj→Obj
 | .cells _ t fz=>.cells cs t fz
 | o=>o
def laidWorld (os:Os):World :=
  { World.holding prog os ⟨#[],#[],[]⟩ with heap:=(((World.holding prog os ⟨#[],#[],[]⟩).heap.modify 2 (layO (aggV Go.Pinned.utf8First).toArray)).modify 3 (layO (aggV (Rows.laid_unicode_utf8_acceptRanges (H:=Unit))).toArray)).modify 0 (layO #[.string ⟨#[45]⟩,.int .i64 0]) }
theorem b_tns {l:List TN} (h:wDs [.sl (l.map TN.row)]≤1048576):l.length<1152921504606846976∧∀ e∈l,OkN e:=by
 simp only [wDs,wD] at h
 have h1:=wrows (row:=TN.row) (fun x=>by simp [TN.row]) l
 refine ⟨by omega,fun e he=>?_⟩
 have h2:=wmem (row:=TN.row) he
 have h5:wDs e.row≤1048576:=by omega
 simp only [TN.row,wDs,wD] at h5
 exact ⟨by omega,by omega,by omega,by omega,by omega⟩
end Go.Aw.Try
namespace Go.Nv
def spF:Nat→Nat→Nat→Nat→Nat→Nat×Nat
 | 0,_,_,_,_=>(0,1)
 | n+1,a,b,c,d=>if (a / b+1)*d<c then (a / b+1,1) else
   (a / b*(spF n d (c-a / b*d) b (a % b)).1+(spF n d (c-a / b*d) b (a % b)).2,(spF n d (c-a / b*d) b (a % b)).1)
theorem spF_ok:∀ (n a b c d:Nat),0<b→a*d<c*b→b+d<n →
  0<(spF n a b c d).1∧0<(spF n a b c d).2∧a*(spF n a b c d).2<(spF n a b c d).1*b∧(spF n a b c d).1*d<c*(spF n a b c d).2 ∧
   ∀ x y,0<y→a*y<x*b→x*d<c*y→(spF n a b c d).1≤x∧(spF n a b c d).2≤y
 | 0,a,b,c,d,hb,h,hn=>by omega
 | n+1,a,b,c,d,hb,h,hn=>by
  obtain ⟨w,hw⟩:∃ w,w=a / b:=⟨_,rfl⟩
  obtain ⟨a',ha'⟩:∃ a',a'=a % b:=⟨_,rfl⟩
  have ea:a=w*b+a':=by rw [hw,ha',Nat.mul_comm]; exact (Nat.div_add_mod a b).symm
  have hab:a'<b:=by rw [ha']; exact Nat.mod_lt _ hb
  have key:∀ x y,0<y→a*y<x*b→w*y<x:=by
   intro x y hy hx
   have h1:w*y*b<x*b:=by
    refine Nat.lt_of_le_of_lt ?_ hx
    rw [ea,Nat.add_mul,Nat.mul_right_comm]
    exact Nat.le_add_right _ _
   exact Nat.lt_of_mul_lt_mul_right h1
  simp only [spF,← hw,← ha']
  by_cases hc:(w+1)*d<c
  ·simp only [if_pos hc]
   refine ⟨by omega,by omega,?_,by omega,fun x y hy hx _=>⟨?_,hy⟩⟩
   ·have:(w+1)*b=w*b+b:=Nat.succ_mul w b
    rw [Nat.mul_one]; omega
   ·have:=key x y hy hx
    have h2:w*1≤w*y:=Nat.mul_le_mul_left w hy
    omega
  ·simp only [if_neg hc]
   have hd:0<d:=by
    rcases Nat.eq_zero_or_pos d with q | q
    ·subst q; simp at hc h; rw [hc] at h; simp at h
    ·exact q
   have hwd:w*d<c:=by
    have h1:w*d*b<c*b:=by
     refine Nat.lt_of_le_of_lt ?_ h
     rw [ea,Nat.add_mul,Nat.mul_right_comm]
     exact Nat.le_add_right _ _
    exact Nat.lt_of_mul_lt_mul_right h1
   obtain ⟨c',hc'⟩:∃ c',c'=c-w*d:=⟨_,rfl⟩
   rw [← hc']
   have ec:c=w*d+c':=by omega
   have hcd:c'≤d:=by rw [Nat.add_mul] at hc; omega
   have h':d*a'<b*c':=by
    rw [ea,ec,Nat.add_mul,Nat.add_mul,Nat.mul_right_comm w b d] at h
    rw [Nat.mul_comm d a',Nat.mul_comm b c']; omega
   obtain ⟨i1,i2,i3,i4,i5⟩:=spF_ok n d c' b a' (by omega) h' (by omega)
   obtain ⟨u,hu⟩:∃ u,u=(spF n d c' b a').1:=⟨_,rfl⟩
   obtain ⟨v,hv⟩:∃ v,v=(spF n d c' b a').2:=⟨_,rfl⟩
   rw [← hu,← hv] at i3 i4 i5
   rw [← hu] at i1
   rw [← hv] at i2
   rw [← hu,← hv]
   refine ⟨by omega,i1,?_,?_,fun x y hy hx hxd=>?_⟩
   ·rw [ea,Nat.add_mul,Nat.add_mul,Nat.mul_right_comm w b u,Nat.mul_comm a' u,Nat.mul_comm v b]; omega
   ·rw [ec,Nat.add_mul,Nat.add_mul,Nat.mul_right_comm w u d,Nat.mul_comm v d,Nat.mul_comm c' u]; omega
   ·have hxw:=key x y hy hx
    obtain ⟨x',hx'⟩:∃ x',x'=x-w*y:=⟨_,rfl⟩
    have ex:x=w*y+x':=by omega
    obtain ⟨j1,j2⟩:=i5 y x' (by omega) (by
     rw [ex,ec,Nat.add_mul,Nat.add_mul,Nat.mul_right_comm w y d] at hxd
     rw [Nat.mul_comm d x',Nat.mul_comm y c']; omega) (by
     rw [ex,ea,Nat.add_mul,Nat.add_mul,Nat.mul_right_comm w y b] at hx
     rw [Nat.mul_comm y a',Nat.mul_comm b x']; omega)
    refine ⟨?_,j1⟩
    have:=Nat.mul_le_mul_left w j1
    omega
theorem sp_next {a b c d:Nat} (hb:0<b) (h:a*d<c*b):0<c-a / b*d∧d*(a % b)<b*(c-a / b*d):=by
 obtain ⟨w,hw⟩:∃ w,w=a / b:=⟨_,rfl⟩
 obtain ⟨a',ha'⟩:∃ a',a'=a % b:=⟨_,rfl⟩
 have ea:a=w*b+a':=by rw [hw,ha',Nat.mul_comm]; exact (Nat.div_add_mod a b).symm
 rw [← hw,← ha']
 have hwd:w*d<c:=by
  have h1:w*d*b<c*b:=by
   refine Nat.lt_of_le_of_lt ?_ h
   rw [ea,Nat.add_mul,Nat.mul_right_comm]
   exact Nat.le_add_right _ _
  exact Nat.lt_of_mul_lt_mul_right h1
 refine ⟨by omega,?_⟩
 obtain ⟨c',hc'⟩:∃ c',c'=c-w*d:=⟨_,rfl⟩
 rw [← hc']
 have ec:c=w*d+c':=by omega
 rw [ea,ec,Nat.add_mul,Nat.add_mul,Nat.mul_right_comm w b d] at h
 rw [Nat.mul_comm d a',Nat.mul_comm b c']; omega
end Go.Nv
namespace Go.Aw.Try
open Go Go.Proofs Go.Aw
set_option maxRecDepth 100000
set_option maxHeartbeats 4000000
theorem rfOf (neg:Bool) (mag:ByteArray) (r:Int) (hm:mag=zm r) (hn:r=0∨neg=zn r) (hs:mag.size<549755813888):x1129.g [.c (.v (.bool neg)),.c (.v (.string mag))]=some (True,.v (zV r)):=by
 refine (xg1129 neg mag hs).trans ?_
 rw [iV_z,hm,zm_val]
 have:Nv.sgn neg r.natAbs=r:=by
  rcases hn with h | h
  ·subst h; unfold Nv.sgn; cases neg <;> rfl
  ·rw [h]; exact sgn_zn r
 rw [this]
theorem k1154 (z:Int) (h:(zm z).size<549755813888):ACalls prog G0 136 [zV z] [] fun t H=>t = .v (zV (-z))∧H=[]:=by
 have s2:x1129.sc=true:=rfl
 have g2:=rfOf (!zn z) (zm z) (-z) (zm_neg z).symm (by
  unfold zn
  by_cases c:z=0
  ·left; omega
  ·right
   by_cases q:z<0
   ·rw [decide_eq_true q,decide_eq_false (by omega)]; rfl
   ·rw [decide_eq_false q,decide_eq_true (by omega)]; rfl) h
 refine acallsX (X:=[(134,x1129)]) ⟨kx1129,trivial⟩ tab hmix func136 c1154 (by rfl) fun hw=>?_
 simp -implicitDefEqProofs (disch:=omega) [gz,ir1154,b1154,s2,g2,fillC,splice]
 exact fin_nil ⟨rfl,rfl⟩
def x1154:XE:=mkX true (fun (z:Int)=>[zQ z]) (fun z=>(zm z).size<549755813888) (fun z=>.v (zV (-z)))
theorem kx1154:Contract prog G0 136 x1154:=mkX_scal (fun _=>rfl) fun z h=>k1154 z h
theorem xg1154 (z:Int) (h:(zm z).size<549755813888):x1154.g [zQ z]=some (True,.v (zV (-z))):=mkX_g injZ z h
theorem k2097 (a b:Int) (ha:(zm a).size<1000000000) (hb:(zm b).size<1000000000) (hab:(zm (a*b)).size<549755813888):ACalls prog G0 97 [zV a,zV b] [] fun t H=>t = .v (zV (a*b))∧H=[]:=by
 have s2:x1129.sc=true:=rfl
 have s3:x1168.sc=true:=rfl
 have g3:=xg1168 (zm a) (zm b) (by omega) (by omega)
 have e:nB (nV (zm a)*nV (zm b))=zm (a*b):=by rw [zm_val,zm_val]; unfold zm; rw [Int.natAbs_mul]
 rw [e] at g3
 have g4:=rfOf (!decide (zn a=zn b)) (zm (a*b)) (a*b) rfl (by
  by_cases c:a=0
  ·left; rw [c,Int.zero_mul]
  by_cases c':b=0
  ·left; rw [c',Int.mul_zero]
  right
  unfold zn
  rcases Int.lt_or_gt_of_ne c with q | q <;> rcases Int.lt_or_gt_of_ne c' with q' | q'
  ·have:=Int.mul_pos_of_neg_of_neg q q'
   rw [decide_eq_true q,decide_eq_true q',decide_eq_false (show ¬ a*b<0 by omega)]; rfl
  ·have:=Int.mul_neg_of_neg_of_pos q q'
   rw [decide_eq_true q,decide_eq_false (show ¬ b<0 by omega),decide_eq_true this]; rfl
  ·have:=Int.mul_neg_of_pos_of_neg q q'
   rw [decide_eq_false (show ¬ a<0 by omega),decide_eq_true q',decide_eq_true this]; rfl
  ·have:=Int.mul_pos q q'
   rw [decide_eq_false (show ¬ a<0 by omega),decide_eq_false (show ¬ b<0 by omega),decide_eq_false (show ¬ a*b<0 by omega)]; rfl) hab
 refine acallsX (X:=[(134,x1129),(139,x1168)]) ⟨kx1129,kx1168,trivial⟩ tab hmix func97 c2097 (by rfl) fun hw=>?_
 obtain ⟨r,hr⟩:∃ r,r=a*b:=⟨_,rfl⟩
 rw [← hr] at g3 g4 ⊢
 simp -implicitDefEqProofs (disch:=omega) [gz,ir2097,b2097,s2,s3,g3,g4,fillC,splice]
 repeat' with_reducible apply And.intro
 all_goals first|omega|kernel_rfl|exact fun _ _=>rfl|skip
 exact fin_nil ⟨rfl,rfl⟩
def x2097:XE:=mkX true (fun (p:Int×Int)=>[zQ p.1,zQ p.2]) (fun p=>(zm p.1).size<1000000000∧(zm p.2).size<1000000000∧(zm (p.1*p.2)).size<549755813888) (fun p=>.v (zV (p.1*p.2)))
theorem kx2097:Contract prog G0 97 x2097:=mkX_scal (fun _=>rfl) fun p h=>k2097 p.1 p.2 h.1 h.2.1 h.2.2
theorem xg2097 (a b:Int) (ha:(zm a).size<1000000000) (hb:(zm b).size<1000000000) (hab:(zm (a*b)).size<549755813888):x2097.g [zQ a,zQ b]=some (True,.v (zV (a*b))):=mkX_g injZZ (a,b) ⟨ha,hb,hab⟩
theorem k2098 (x:Nv.Rt) (h:OkQ x):ACalls prog G0 98 [ratV x] [] fun t H=>t = .int .i64 (sgZ (rn x))∧H=[]:=by
 have s1:x1101.sc=true:=rfl
 have s2:x1132.sc=true:=rfl
 have hn:=h.n
 have g1:=(xg1101 x (by omega)).trans (by rw [iV_z])
 have hz:=rn_size x
 have e:Nv.sgn x.neg (nV x.num)=rn x:=rfl
 rw [e] at g1
 have g2:x1132.g [zQ (rn x)]=some (True,.int .i64 (sgZ (rn x))):=(xg1132 (zn (rn x)) (zm (rn x)) (by omega)).trans (by
  rw [zm_val]
  have:sgnI (zn (rn x)) (rn x).natAbs=sgZ (rn x):=by
   unfold sgnI sgZ zn
   by_cases q:rn x=0
   ·simp [q]
   ·by_cases q2:rn x<0
    ·simp [q,q2]
    ·simp [q,q2]
  rw [this])
 refine acallsX (X:=[(90,x1101),(140,x1132)]) ⟨kx1101,kx1132,trivial⟩ tab hmix func98 c2098 (by rfl) fun hw=>?_
 simp -implicitDefEqProofs (disch:=omega) [gz,ir2098,b2098,s1,s2,g1,g2,fillC,splice]
 exact fin_nil ⟨rfl,rfl⟩
def x2098:XE:=mkX true (fun (x:Nv.Rt)=>[ratP x]) OkQ (fun x=>.int .i64 (sgZ (rn x)))
theorem kx2098:Contract prog G0 98 x2098:=mkX_scal (fun _=>rfl) fun x h=>k2098 x h
theorem xg2098 (x:Nv.Rt) (h:OkQ x):x2098.g [ratP x]=some (True,.int .i64 (sgZ (rn x))):=mkX_g injRat x h
theorem add8_step {A B S P c x y s c':Nat} (h:A+B=S+P*c) (e:c+(x+y)=s+256*c'):(A+P*x)+(B+P*y)=(S+P*s)+P*(256*c'):=by
 have h1:P*(c+(x+y))=P*(s+256*c'):=by rw [e]
 simp only [Nat.mul_add] at h1; omega
theorem k1153 (a b:ByteArray) (ha:a.size<1099511627776) (hb:b.size<1099511627776):ACalls prog G0 137 [Sx a,Sx b] [] fun t H=>t = .str (nB (nV a+nV b))∧H=[]:=by
 have s2:x1169.sc=true:=rfl
 have s3:x1149.sc=true:=rfl
 obtain ⟨R,hR⟩:∃ R,R=nB (nV a+nV b):=⟨_,rfl⟩
 rw [← hR]
 obtain ⟨M,hM0,hM1,hM2⟩:∃ M,a.size≤M∧b.size≤M∧(M=a.size∨M=b.size):=⟨max a.size b.size,Nat.le_max_left _ _,Nat.le_max_right _ _,by omega⟩
 refine acallsX (X:=[(159,x1169),(158,x1149)]) ⟨kx1169,kx1149,trivial⟩ tab hmix func137 c1153 (by rfl) fun hw=>?_
 simp -implicitDefEqProofs (disch:=omega) [gz,ir1153,b1153,wrap64,fillR]
 refine loopE (fun k st=>∃ (i c:Nat) (out:List UInt8),i≤M+1∧k=M+1-i∧out.length=i∧c≤1∧(i=M+1→c=0)∧pv a i+pv b i=Nv.valB out+256^i*c ∧
   st=⟨ofL [(0,.v (.c (.d (.v (.string a))))),(1,.v (.c (.d (.v (.string b))))),(5,.v (.c (.os 0 1 0 out.length))),(6,.int .i64 c),(7,.int .i64 i)],[.row 1 (out.map u8R)]⟩)
  (fun st=>∃ (out:List UInt8),out.length≤M+1∧Nv.valB out=nV a+nV b∧AtS [(5,.v (.c (.os 0 1 0 out.length)))] [.row 1 (out.map u8R)] st) ?_ ?_ ?_
 ·refine wk_nil [0] [0,1,5,6,7] rfl ⟨_,0,0,[],by omega,rfl,rfl,by omega,fun _=>rfl,by simp [pv_zero,Nv.valB],?_⟩
  simp [phi,O.ren,C.ren]
 ·rintro J L hJ hL k st ⟨i,c,out,hi,rfl,hol,hc,hcM,hval,rfl⟩
  have ga:=xg1169 a i (by omega)
  have gb:=xg1169 b i (by omega)
  have pa:=pv_succ a i
  have pb:=pv_succ b i
  have la:=bt_lt a i
  have lb:=bt_lt b i
  have za:a.size≤i→bt a i=0:=fun h=>by unfold bt; rw [Array.getElem?_eq_none (by exact h)]; rfl
  have zb:b.size≤i→bt b i=0:=fun h=>by unfold bt; rw [Array.getElem?_eq_none (by exact h)]; rfl
  obtain ⟨x,hx⟩:∃ x,x=bt a i:=⟨_,rfl⟩
  obtain ⟨y,hy⟩:∃ y,y=bt b i:=⟨_,rfl⟩
  rw [← hx] at ga pa la za
  rw [← hy] at gb pb lb zb
  have tC:(out.map u8R).take out.length=out.map u8R:=List.take_of_length_le (by simp)
  obtain ⟨n,hn⟩:∃ n,n=c+(x+y):=⟨_,rfl⟩
  have hni:(c:Int)+((x:Int)+(y:Int))=(n:Int):=by omega
  obtain ⟨s,hs⟩:∃ s,s=n % 256:=⟨_,rfl⟩
  obtain ⟨d,hd⟩:∃ d,d=n / 256:=⟨_,rfl⟩
  have hsl:s<256:=by omega
  have hnd:n=s+256*d:=by omega
  have hdl:d≤1:=by omega
  have hsi:(n:Int).tmod 256=(s:Int):=by rw [hs]; rfl
  have hdi:(n:Int).tdiv 256=(d:Int):=by rw [hd]; rfl
  have hws:IntKind.u8.wrap (s:Int)=((UInt8.ofNat s).toNat:Int):=by rw [u8n,Nv.toNat_of hsl,Nat.mod_eq_of_lt hsl]
  have fin:pv a (i+1)+pv b (i+1)=Nv.valB (out ++ [UInt8.ofNat s])+256^(i+1)*d:=by
   have:=add8_step hval (hn.symm.trans hnd)
   rw [valB_snoc,hol,Nv.toNat_of hsl,pa,pb,Nat.pow_succ,Nat.mul_assoc]
   exact this
  have nI:¬ (256:Int)=0:=by decide
  have go:i<M+1→(i+1=M+1→d=0):=fun _ h=>by
   have:=za (by omega)
   have:=zb (by omega)
   omega
  by_cases c1:i<a.size
  ·have c1i:(i:Int)<(a.size:Int):=by omega
   simp -implicitDefEqProofs (disch:=omega) [gz,c1,c1i,wrap64,s2,ga,gb,hni,hsi,hdi,hws,elems,tC,maxLen47,fillR]
   repeat' with_reducible apply And.intro
   all_goals first | omega | kernel_rfl | skip
   subst hJ
   refine wk_nil [2] [0,1,5,6,7] rfl ⟨M+1-(i+1),by omega,i+1,d,out ++ [UInt8.ofNat s],by omega,rfl,by simp [hol],hdl,go (by omega),fin,?_⟩
   simp [phi,O.ren,C.ren,u8R]
  ·have c1i:¬ (i:Int)<(a.size:Int):=by omega
   by_cases c2:i<b.size
   ·have c2i:(i:Int)<(b.size:Int):=by omega
    simp -implicitDefEqProofs (disch:=omega) [gz,c1,c1i,c2,c2i,wrap64,s2,ga,gb,hni,hsi,hdi,hws,elems,tC,maxLen47,fillR]
    repeat' with_reducible apply And.intro
    all_goals first | omega | kernel_rfl | skip
    subst hJ
    refine wk_nil [2] [0,1,5,6,7] rfl ⟨M+1-(i+1),by omega,i+1,d,out ++ [UInt8.ofNat s],by omega,rfl,by simp [hol],hdl,go (by omega),fin,?_⟩
    simp [phi,O.ren,C.ren,u8R]
   ·have c2i:¬ (i:Int)<(b.size:Int):=by omega
    by_cases c3:0<c
    ·have c3i:(0:Int)<(c:Int):=by omega
     have hiM:i≠M+1:=fun e=>by have:=hcM e; omega
     simp -implicitDefEqProofs (disch:=omega) [gz,c1,c1i,c2,c2i,c3,c3i,wrap64,s2,ga,gb,hni,hsi,hdi,hws,elems,tC,maxLen47,fillR]
     repeat' with_reducible apply And.intro
     all_goals first | omega | kernel_rfl | skip
     subst hJ
     refine wk_nil [2] [0,1,5,6,7] rfl ⟨M+1-(i+1),by omega,i+1,d,out ++ [UInt8.ofNat s],by omega,rfl,by simp [hol],hdl,go (by omega),fin,?_⟩
     simp [phi,O.ren,C.ren,u8R]
    ·have c0:c=0:=by omega
     subst c0
     simp -implicitDefEqProofs (disch:=omega) [gz,c1,c1i,c2,c2i]
     subst hL
     rw [pv_all (by omega),pv_all (by omega)] at hval
     exact ⟨out,by omega,by omega,at_mk (by simp) rfl⟩
 ·rintro _ ⟨out,hol,hval,sl,rfl⟩
  have tC:(out.map u8R).take out.length=out.map u8R:=List.take_of_length_le (by simp)
  have g3:=xg1149 ⟨out.toArray⟩ (by show out.toArray.size<_; simp; omega)
  have hv:nV ⟨out.toArray⟩=nV a+nV b:=by
   show Nv.valB out.toArray.toList=_
   rw [List.toList_toArray]; exact hval
  rw [hv,← hR] at g3
  simp -implicitDefEqProofs (disch:=omega) [gz,wrap64,elems,tC,bytR_u8,s3,g3]
  exact fin_nil ⟨rfl,rfl⟩
def x1153:XE:=mkX true (fun (p:ByteArray×ByteArray)=>[.c (.v (.string p.1)),.c (.v (.string p.2))]) (fun p=>p.1.size<1099511627776∧p.2.size<1099511627776) (fun p=>.str (nB (nV p.1+nV p.2)))
theorem kx1153:Contract prog G0 137 x1153:=mkX_scal (fun _=>rfl) fun p h=>k1153 p.1 p.2 h.1 h.2
theorem xg1153 (a b:ByteArray) (ha:a.size<1099511627776) (hb:b.size<1099511627776):x1153.g [.c (.v (.string a)),.c (.v (.string b))]=some (True,.str (nB (nV a+nV b))):=mkX_g inj2s (a,b) ⟨ha,hb⟩
theorem k138 (a b:ByteArray) (ha:a.size<1099511627776) (hb:b.size<1099511627776):ACalls prog G0 138 [Sx a,Sx b] [] fun t H=>t=subT (nV a) (nV b)∧H=[]:=by
 unfold subT
 by_cases c:nV a<nV b
 ·rw [if_pos c]
  have s1:x1150.sc=true:=rfl
  have g1:=xg1150 a b (by omega) (by omega)
  have hc:cmpN (nV a) (nV b)<0:=by unfold cmpN; rw [if_pos c]; omega
  refine acallsX (X:=[(160,x1150)]) ⟨kx1150,trivial⟩ tab hmix func138 c1152 (by rfl) fun hw=>?_
  simp -implicitDefEqProofs (disch:=omega) [gz,ir1152,b1152,wrap64,s1,g1,hc,fillR]
  exact fin_nil ⟨rfl,rfl⟩
 ·rw [if_neg c]
  exact k1152 a b ha hb (by omega)
def x138:XE:=mkX true (fun (p:ByteArray×ByteArray)=>[.c (.v (.string p.1)),.c (.v (.string p.2))]) (fun p=>p.1.size<1099511627776∧p.2.size<1099511627776) (fun p=>subT (nV p.1) (nV p.2))
theorem kx138:Contract prog G0 138 x138:=mkX_scal (fun _=>subT_sc _ _) fun p h=>k138 p.1 p.2 h.1 h.2
theorem xg138 (a b:ByteArray) (ha:a.size<1099511627776) (hb:b.size<1099511627776):x138.g [.c (.v (.string a)),.c (.v (.string b))]=some (True,subT (nV a) (nV b)):=mkX_g inj2s (a,b) ⟨ha,hb⟩
theorem k1133 (a b:Int) (ha:(zm a).size<3000000000) (hb:(zm b).size<3000000000) (hab:(zm (a+b)).size<549755813888):ACalls prog G0 96 [zV a,zV b] [] fun t H=>t = .v (zV (a+b))∧H=[]:=by
 have s2:x1129.sc=true:=rfl
 have s3:x1153.sc=true:=rfl
 have s4:x138.sc=true:=rfl
 refine acallsX (X:=[(134,x1129),(137,x1153),(138,x138)]) ⟨kx1129,kx1153,kx138,trivial⟩ tab hmix func96 c1133 (by rfl) fun hw=>?_
 have g3:=xg1153 (zm a) (zm b) (by omega) (by omega)
 have g5:=xg138 (zm a) (zm b) (by omega) (by omega)
 have g6:=xg138 (zm b) (zm a) (by omega) (by omega)
 rw [zm_val,zm_val] at g3 g5 g6
 obtain ⟨r,hr⟩:∃ r,r=a+b:=⟨_,rfl⟩
 rw [← hr] at hab
 by_cases c:zn a=zn b
 ·have e:nB (a.natAbs+b.natAbs)=zm r:=by
   unfold zm; rw [hr]; congr 1
   unfold zn at c
   have:=decide_eq_decide.1 c
   omega
  rw [e] at g3
  have g4:=rfOf (zn a) (zm r) r rfl (by
   unfold zn at c ⊢
   have:=decide_eq_decide.1 c
   by_cases q:r=0
   ·exact .inl q
   ·right
    exact decide_eq_decide.2 (by omega)) hab
  rw [← hr]
  rw [c] at g4
  simp -implicitDefEqProofs (disch:=omega) [gz,ir1133,b1133,c,s2,s3,g3,g4,fillC,splice]
  repeat' with_reducible apply And.intro
  all_goals first|omega|kernel_rfl|exact fun _ _=>rfl|skip
  exact fin_nil ⟨rfl,rfl⟩
 ·have hab':(a<0)↔¬ (b<0):=by
   unfold zn at c
   by_cases q:a<0 <;> by_cases q':b<0 <;> simp [q,q'] at c ⊢
  unfold subT at g5 g6
  by_cases lt:a.natAbs<b.natAbs
  ·rw [if_pos lt] at g5
   rw [if_neg (by omega)] at g6
   have e:nB (b.natAbs-a.natAbs)=zm r:=by
    unfold zm; rw [hr]; congr 1; omega
   rw [e] at g6
   have g4:=rfOf (zn b) (zm r) r rfl (by
    right; unfold zn
    exact decide_eq_decide.2 (by omega)) hab
   rw [← hr]
   simp -implicitDefEqProofs (disch:=omega) [gz,ir1133,b1133,c,s2,s4,g5,g6,g4,fillC,splice]
   repeat' with_reducible apply And.intro
   all_goals first|omega|kernel_rfl|exact fun _ _=>rfl|skip
   exact fin_nil ⟨rfl,rfl⟩
  ·rw [if_neg lt] at g5
   have e:nB (a.natAbs-b.natAbs)=zm r:=by
    unfold zm; rw [hr]; congr 1; omega
   rw [e] at g5
   have g4:=rfOf (zn a) (zm r) r rfl (by
    unfold zn
    by_cases q:r=0
    ·exact .inl q
    ·right
     exact decide_eq_decide.2 (by omega)) hab
   rw [← hr]
   simp -implicitDefEqProofs (disch:=omega) [gz,ir1133,b1133,c,s2,s4,g5,g4,fillC,splice]
   repeat' with_reducible apply And.intro
   all_goals first|omega|kernel_rfl|exact fun _ _=>rfl|skip
   exact fin_nil ⟨rfl,rfl⟩
def x1133:XE:=mkX true (fun (p:Int×Int)=>[zQ p.1,zQ p.2]) (fun p=>(zm p.1).size<3000000000∧(zm p.2).size<3000000000∧(zm (p.1+p.2)).size<549755813888) (fun p=>.v (zV (p.1+p.2)))
theorem kx1133:Contract prog G0 96 x1133:=mkX_scal (fun _=>rfl) fun p h=>k1133 p.1 p.2 h.1 h.2.1 h.2.2
theorem xg1133 (a b:Int) (ha:(zm a).size<3000000000) (hb:(zm b).size<3000000000) (hab:(zm (a+b)).size<549755813888):x1133.g [zQ a,zQ b]=some (True,.v (zV (a+b))):=mkX_g injZZ (a,b) ⟨ha,hb,hab⟩
theorem rfAb (x:Nv.Rt) (h:OkQ x):x1101.g [ratP x]=some (True,.v (zV (rn x))):=(xg1101 x (by have:=h.n; omega)).trans (by rw [iV_z]; rfl)
theorem rfBe (x:Nv.Rt) (h:OkQ x):x1102.g [ratP x]=some (True,.v (zV (rd x))):=(xg1102 x (by have:=h.d; omega)).trans (by rw [iV_z]; rfl)
theorem rfMk (p q:Int) (hp:(zm p).size<4000000000) (hq:(zm q).size<4000000000) (h0:0<q):x1100.g [zQ p,zQ q]=some (True,.tup [ratV (Nv.mkI p q.natAbs),.c (.d (.v (.bool true)))]):=by
 have h1:=xgMake p q hp hq
 have h2:=xg1118 (zn p) (zn q) (zm p) (zm q) hp hq
 have h3:=xg1100 (zn p) (zn q) (zm p) (zm q) hp hq
 have e:some (True,makeT (zn p) (zn q) (nV (zm p)) (nV (zm q)))=some (True,mkZ p q):=h2.symm.trans h1
 injection e with e
 injection e with _ e
 rw [e] at h3
 refine h3.trans ?_
 unfold mkZ
 have hs:sgZ q=1:=by unfold sgZ; rw [if_neg (by omega),if_neg (by omega)]
 rw [if_neg (by omega),hs,Int.mul_one]
theorem k2095 (x:Nv.Rt) (h:OkQ x):ACalls prog G0 95 [ratV x] [] fun t H=>t = .v (ratV (negR x))∧H=[]:=by
 have s1:x1101.sc=true:=rfl
 have s2:x1102.sc=true:=rfl
 have s3:x1154.sc=true:=rfl
 have s4:x1100.sc=true:=rfl
 have g1:=rfAb x h
 have g2:=rfBe x h
 have r1:=rn_size x
 have r2:=rd_size x
 have r3:=rd_pos x
 have hn:=h.n
 have hd':=h.d
 have g3:=xg1154 (rn x) (by omega)
 have g4:=rfMk (-(rn x)) (rd x) (by rw [zm_neg]; omega) (by omega) r3
 refine acallsX (X:=[(90,x1101),(91,x1102),(136,x1154),(89,x1100)]) ⟨kx1101,kx1102,kx1154,kx1100,trivial⟩ tab hmix func95 c2095 (by rfl) fun hw=>?_
 rw [show Nv.mkI (-(rn x)) (rd x).natAbs=negR x from rfl] at g4
 obtain ⟨y,hy⟩:∃ y,y=negR x:=⟨_,rfl⟩
 rw [← hy] at g4 ⊢
 obtain ⟨a,ha⟩:∃ a,a=rn x:=⟨_,rfl⟩
 obtain ⟨b,hb⟩:∃ b,b=rd x:=⟨_,rfl⟩
 rw [← ha] at g1 g3 g4
 rw [← hb] at g2 g4
 obtain ⟨c,hc⟩:∃ c,c = -a:=⟨_,rfl⟩
 rw [← hc] at g3 g4
 simp -implicitDefEqProofs (disch:=omega) [gz,ir2095,b2095,s1,g1,s2,g2,s3,g3,s4,g4,fillC,splice]
 repeat' with_reducible apply And.intro
 all_goals first|omega|kernel_rfl|exact fun _ _=>rfl|skip
 exact fin_nil ⟨rfl,rfl⟩
def x2095:XE:=mkX true (fun (x:Nv.Rt)=>[ratP x]) OkQ (fun x=>.v (ratV (negR x)))
theorem kx2095:Contract prog G0 95 x2095:=mkX_scal (fun _=>rfl) fun x h=>k2095 x h
theorem xg2095 (x:Nv.Rt) (h:OkQ x):x2095.g [ratP x]=some (True,.v (ratV (negR x))):=mkX_g injRat x h
theorem k2058 (x y:Nv.Rt) (hx:OkQ x) (hy:OkQ y):ACalls prog G0 58 [ratV x,ratV y] [] fun t H=>t = .v (ratV (addR x y))∧H=[]:=by
 have s1:x1101.sc=true:=rfl
 have s1':x1102.sc=true:=rfl
 have s2:x2097.sc=true:=rfl
 have s3:x1133.sc=true:=rfl
 have s4:x1100.sc=true:=rfl
 have g1:=rfAb x hx
 have g1':=rfBe x hx
 have g2:=rfAb y hy
 have g2':=rfBe y hy
 have q1:=rn_size x
 have q2:=rd_size x
 have q3:=rn_size y
 have q4:=rd_size y
 obtain ⟨p1,p2⟩:=hx
 obtain ⟨p3,p4⟩:=hy
 have m1:=zm_mul (rn x) (rd y)
 have m2:=zm_mul (rn y) (rd x)
 have m3:=zm_mul (rd x) (rd y)
 have m4:=zm_add (rn x*rd y) (rn y*rd x)
 have g3:=xg2097 (rn x) (rd y) (by omega) (by omega) (by omega)
 have g4:=xg2097 (rn y) (rd x) (by omega) (by omega) (by omega)
 have g6:=xg2097 (rd x) (rd y) (by omega) (by omega) (by omega)
 have g5:=xg1133 (rn x*rd y) (rn y*rd x) (by omega) (by omega) (by omega)
 have g7:=rfMk (rn x*rd y+rn y*rd x) (rd x*rd y) (by omega) (by omega) (Int.mul_pos (rd_pos x) (rd_pos y))
 refine acallsX (X:=[(90,x1101),(91,x1102),(97,x2097),(96,x1133),(89,x1100)]) ⟨kx1101,kx1102,kx2097,kx1133,kx1100,trivial⟩ tab hmix func58 c2058 (by rfl) fun hw=>?_
 rw [show Nv.mkI (rn x*rd y+rn y*rd x) (rd x*rd y).natAbs=addR x y from rfl] at g7
 obtain ⟨r,hr⟩:∃ r,r=addR x y:=⟨_,rfl⟩
 rw [← hr] at g7 ⊢
 obtain ⟨u,hu⟩:∃ u,u=rn x*rd y:=⟨_,rfl⟩
 obtain ⟨v,hv⟩:∃ v,v=rn y*rd x:=⟨_,rfl⟩
 obtain ⟨w,hw'⟩:∃ w,w=rd x*rd y:=⟨_,rfl⟩
 rw [← hu] at g3 g5 g7
 rw [← hv] at g4 g5 g7
 rw [← hw'] at g6 g7
 obtain ⟨s,hs⟩:∃ s,s=u+v:=⟨_,rfl⟩
 rw [← hs] at g5 g7
 obtain ⟨a,ha⟩:∃ a,a=rn x:=⟨_,rfl⟩
 obtain ⟨b,hb⟩:∃ b,b=rd x:=⟨_,rfl⟩
 obtain ⟨c,hc⟩:∃ c,c=rn y:=⟨_,rfl⟩
 obtain ⟨d,hd⟩:∃ d,d=rd y:=⟨_,rfl⟩
 rw [← ha] at g1 g3
 rw [← hb] at g1' g4 g6
 rw [← hc] at g2 g4
 rw [← hd] at g2' g3 g6
 simp -implicitDefEqProofs (disch:=omega) [gz,ir2058,b2058,s1,s1',g1,g1',g2,g2',s2,g3,g4,g6,s3,g5,s4,g7,fillC,splice]
 repeat' with_reducible apply And.intro
 all_goals first|omega|kernel_rfl|exact fun _ _=>rfl|skip
 exact fin_nil ⟨rfl,rfl⟩
def x2058:XE:=mkX true (fun (p:Nv.Rt×Nv.Rt)=>[ratP p.1,ratP p.2]) (fun p=>OkQ p.1∧OkQ p.2) (fun p=>.v (ratV (addR p.1 p.2)))
theorem kx2058:Contract prog G0 58 x2058:=mkX_scal (fun _=>rfl) fun p h=>k2058 p.1 p.2 h.1 h.2
theorem xg2058 (x y:Nv.Rt) (hx:OkQ x) (hy:OkQ y):x2058.g [ratP x,ratP y]=some (True,.v (ratV (addR x y))):=mkX_g injRR (x,y) ⟨hx,hy⟩
theorem k2057 (x y:Nv.Rt) (hx:OkQ x) (hy:OkQ y) (hy2:y.den.size<90000000):ACalls prog G0 57 [ratV x,ratV y] [] fun t H=>t = .v (ratV (subR x y))∧H=[]:=by
 have s1:x2095.sc=true:=rfl
 have s2:x2058.sc=true:=rfl
 have g1:=xg2095 y hy
 obtain ⟨n1,n2⟩:=neg_size y
 have g2:=xg2058 x (negR y) hx ⟨by have:=hy.n; omega,by omega⟩
 refine acallsX (X:=[(95,x2095),(58,x2058)]) ⟨kx2095,kx2058,trivial⟩ tab hmix func57 c2057 (by rfl) fun hw=>?_
 rw [show addR x (negR y)=subR x y from rfl] at g2
 obtain ⟨r,hr⟩:∃ r,r=subR x y:=⟨_,rfl⟩
 rw [← hr] at g2 ⊢
 obtain ⟨z,hz⟩:∃ z,z=negR y:=⟨_,rfl⟩
 rw [← hz] at g1 g2
 simp -implicitDefEqProofs (disch:=omega) [gz,ir2057,b2057,s1,g1,s2,g2,fillC,splice]
 repeat' with_reducible apply And.intro
 all_goals first|omega|kernel_rfl|exact fun _ _=>rfl|skip
 exact fin_nil ⟨rfl,rfl⟩
def x2057:XE:=mkX true (fun (p:Nv.Rt×Nv.Rt)=>[ratP p.1,ratP p.2]) (fun p=>OkQ p.1∧OkQ p.2∧p.2.den.size<90000000) (fun p=>.v (ratV (subR p.1 p.2)))
theorem kx2057:Contract prog G0 57 x2057:=mkX_scal (fun _=>rfl) fun p h=>k2057 p.1 p.2 h.1 h.2.1 h.2.2
theorem xg2057 (x y:Nv.Rt) (hx:OkQ x) (hy:OkQ y) (hy2:y.den.size<90000000):x2057.g [ratP x,ratP y]=some (True,.v (ratV (subR x y))):=mkX_g injRR (x,y) ⟨hx,hy,hy2⟩
theorem sgZ_mulP {z k:Int} (hk:0<k):sgZ (z*k)=sgZ z:=by
 unfold sgZ
 by_cases h:z=0
 ·subst h; simp
 ·by_cases q:z<0
  ·have:=Int.mul_neg_of_neg_of_pos q hk
   rw [if_neg (by omega),if_pos this,if_neg h,if_pos q]
  ·have:=Int.mul_pos (show 0<z by omega) hk
   rw [if_neg (by omega),if_neg (by omega),if_neg h,if_neg q]
theorem sg_mkI {z:Int} {b:Nat} (hb:0<b):sgZ (rn (Nv.mkI z b))=sgZ z:=by
 have h:=Nv.numI_mk (z:=z) hb
 have h1:sgZ (rn (Nv.mkI z b)*(b:Int))=sgZ (rn (Nv.mkI z b)):=sgZ_mulP (by omega)
 have h2:sgZ (z*rd (Nv.mkI z b))=sgZ z:=sgZ_mulP (rd_pos _)
 rw [← h1,← h2]
 exact congrArg sgZ h
theorem sg_sub (x y:Nv.Rt):sgZ (rn (subR x y))=cmpR x y:=by
 obtain ⟨n,hn⟩:∃ n,n=negR y:=⟨_,rfl⟩
 have hx:=rd_pos x
 have hy:=rd_pos y
 have h0:=rd_pos n
 have h:=Nv.numI_mk (z:=-(rn y)) (b:=(rd y).natAbs) (by omega)
 have h':rn n*rd y = -(rn y)*rd n:=by
  rw [hn]
  have e:(((rd y).natAbs:Nat):Int)=rd y:=by omega
  rw [e] at h
  exact h
 have e1:subR x y=Nv.mkI (rn x*rd n+rn n*rd x) (rd x*rd n).natAbs:=by rw [hn]; rfl
 have hp:=Int.mul_pos hx h0
 rw [e1,sg_mkI (by omega),← sgZ_mulP (z:=rn x*rd n+rn n*rd x) hy]
 unfold cmpR
 rw [← sgZ_mulP (z:=rn x*rd y-rn y*rd x) h0]
 congr 1
 rw [Int.add_mul,Int.mul_right_comm (rn n) (rd x) (rd y),h',Int.sub_mul,Int.mul_right_comm (rn x) (rd n) (rd y),Int.neg_mul,Int.neg_mul,Int.mul_right_comm (rn y) (rd n) (rd x)]
 omega
theorem sub_ok {x y:Nv.Rt} (x1:x.num.size<10000000) (x2:x.den.size<10000000) (y1:y.num.size<10000000) (y2:y.den.size<10000000):OkQ (subR x y):=by
 obtain ⟨n1,n2⟩:=neg_size y
 have q1:=rn_size x
 have q2:=rd_size x
 have q3:=rn_size (negR y)
 have q4:=rd_size (negR y)
 have m1:=zm_mul (rn x) (rd (negR y))
 have m2:=zm_mul (rn (negR y)) (rd x)
 have m3:=zm_mul (rd x) (rd (negR y))
 have m4:=zm_add (rn x*rd (negR y)) (rn (negR y)*rd x)
 have a1:=mkI_num (rn x*rd (negR y)+rn (negR y)*rd x) (rd x*rd (negR y)).natAbs
 have a2:=mkI_den (rn x*rd (negR y)+rn (negR y)*rd x) (rd x*rd (negR y)).natAbs
 have e:nB (rd x*rd (negR y)).natAbs=zm (rd x*rd (negR y)):=rfl
 rw [e] at a2
 exact ⟨Nat.lt_of_le_of_lt a1 (by omega),Nat.lt_of_le_of_lt a2 (by omega)⟩
structure OkS (x:Nv.Rt):Prop where
 n:x.num.size<10000000
 d:x.den.size<10000000
theorem k2059 (x y:Nv.Rt) (hx:OkS x) (hy:OkS y):ACalls prog G0 59 [ratV x,ratV y] [] fun t H=>t = .int .i64 (cmpR x y)∧H=[]:=by
 have s1:x2057.sc=true:=rfl
 have s2:x2098.sc=true:=rfl
 obtain ⟨x1,x2⟩:=hx
 obtain ⟨y1,y2⟩:=hy
 have g1:=xg2057 x y ⟨by omega,by omega⟩ ⟨by omega,by omega⟩ (by omega)
 have g2:=xg2098 (subR x y) (sub_ok x1 x2 y1 y2)
 rw [sg_sub] at g2
 refine acallsX (X:=[(57,x2057),(98,x2098)]) ⟨kx2057,kx2098,trivial⟩ tab hmix func59 c2059 (by rfl) fun hw=>?_
 obtain ⟨r,hr⟩:∃ r,r=subR x y:=⟨_,rfl⟩
 rw [← hr] at g1 g2
 simp -implicitDefEqProofs (disch:=omega) [gz,ir2059,b2059,s1,g1,s2,g2,fillC,splice]
 repeat' with_reducible apply And.intro
 all_goals first|omega|kernel_rfl|exact fun _ _=>rfl|skip
 exact fin_nil ⟨rfl,rfl⟩
def x2059:XE:=mkX true (fun (p:Nv.Rt×Nv.Rt)=>[ratP p.1,ratP p.2]) (fun p=>OkS p.1∧OkS p.2) (fun p=>.int .i64 (cmpR p.1 p.2))
theorem kx2059:Contract prog G0 59 x2059:=mkX_scal (fun _=>rfl) fun p h=>k2059 p.1 p.2 h.1 h.2
theorem xg2059 (x y:Nv.Rt) (hx:OkS x) (hy:OkS y):x2059.g [ratP x,ratP y]=some (True,.int .i64 (cmpR x y)):=mkX_g injRR (x,y) ⟨hx,hy⟩
end Go.Aw.Try
