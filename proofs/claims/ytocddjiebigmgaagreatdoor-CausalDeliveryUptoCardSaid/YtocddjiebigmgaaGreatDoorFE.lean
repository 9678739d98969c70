/- An abstract machine over the model, and contracts of functions of this program on it (part 5): words and lemmas for the proof in the last text. -/
import Derived.Lib.SplitLaws
import Derived.Deep.RegionLaw
import Derived.Sort.WalkB12
import Derived.Lib.SlicesDelete
import Derived.Test.YtocddjiebigmgaaGreatDoorFD
set_option linter.unusedSimpArgs false
set_option linter.unusedVariables false
set_option linter.unusedSectionVars false

namespace Go.Aw.Try
open Go Go.Proofs Go.Aw
set_option maxRecDepth 100000
set_option maxHeartbeats 4000000
abbrev nB (n:Nat):ByteArray:=Nv.natB n
abbrev nV (s:ByteArray):Nat:=Nv.natV s
noncomputable def x140:XE:=mkX true (fun (s:ByteArray)=>[.c (.v (.string s)),.c (.v (.string ⟨#[0]⟩))]) (fun s=>s.size<4611686018427387904) (fun s=>.str (nB (nV s)))
theorem kx140:Contract Tryz.prog G0 140 x140:=mkX_scal (fun _=>rfl) fun s h=>kTrimR s h []
theorem xg140 (s:ByteArray) (h:s.size<4611686018427387904):x140.g [.c (.v (.string s)),.c (.v (.string ⟨#[0]⟩))]=some (True,.str (nB (nV s))):=mkX_g (fun a b h=>by simp at h; exact h) s h
theorem k1119 (s:ByteArray) (h:s.size<4611686018427387904):ACalls Tryz.prog G0 119 [Sx s] [] fun t H=>t = .str (nB (nV s))∧H=[]:=by
 have s1:x140.sc=true:=rfl
 have g1:=xg140 s h
 refine acallsX (X:=[(140,x140)]) ⟨kx140,trivial⟩ tab hmix Tryz.func119 c1119 (by rfl) fun hw=>?_
 simp (implicitDefEqProofs:=false) (disch:=omega) [gz,ir1119,b1119,s1,g1]
 exact fin_nil ⟨rfl,rfl⟩
noncomputable def x1119:XE:=mkX true (fun (s:ByteArray)=>[.c (.v (.string s))]) (fun s=>s.size<4611686018427387904) (fun s=>.str (nB (nV s)))
theorem kx1119:Contract Tryz.prog G0 119 x1119:=mkX_scal (fun _=>rfl) fun s h=>k1119 s h
theorem xg1119 (s:ByteArray) (h:s.size<4611686018427387904):x1119.g [.c (.v (.string s))]=some (True,.str (nB (nV s))):=mkX_g (fun a b h=>by simp at h; exact h) s h
theorem bytR_u8:∀ l:List UInt8,bytR (l.map u8R)=some l
 | []=>rfl
 | b :: l=>by
  have ih:=bytR_u8 l
  show (match bytR (l.map u8R) with | some l'=>some (UInt8.ofNat ((b.toNat:Int)).toNat :: l') | none=>none)=_
  rw [ih]
  simp
theorem byt4_nth {x j:Nat} (h:j<4):nth (Nv.byt4 x) j=UInt8.ofNat (x / 256^j % 256):=by
 match j,h with
 | 0,_=>simp [Nv.byt4,nth]
 | 1,_=>simp [Nv.byt4,nth]
 | 2,_=>simp [Nv.byt4,nth]
 | 3,_=>simp [Nv.byt4,nth]
theorem shr8 {x j:Nat} (h:j<4):((x:Int).fdiv (2^(min (8*(j:Int)).toNat IntKind.u32.bits)))=((x / 256^j:Nat):Int):=by
 have e:(2:Int)^(min (8*(j:Int)).toNat IntKind.u32.bits)=((256^j:Nat):Int):=by
  match j,h with
  | 0,_=>rfl
  | 1,_=>rfl
  | 2,_=>rfl
  | 3,_=>rfl
 rw [e,fdv _ (Int.natCast_nonneg _)]; rfl
theorem byt4_len (x:Nat):(Nv.byt4 x).length=4:=rfl
theorem flat4_len:∀ l:List Nat,(l.flatMap Nv.byt4).length=4*l.length
 | []=>rfl
 | x :: l=>by rw [List.flatMap_cons,List.length_append,flat4_len l,byt4_len,List.length_cons]; omega
theorem k1160 (l:List Nat) (hl:l.length<1073741824) (hL:Nv.Lim l):ACalls Tryz.prog G0 160 [.c (.d (.sl (l.map limR)))] [] fun t H=>t = .str (nB (Nv.valL l))∧H=[]:=by
 have s1:x1119.sc=true:=rfl
 refine acallsX (X:=[(119,x1119)]) ⟨kx1119,trivial⟩ tab hmix Tryz.func160 c1160 (by rfl) fun hw=>?_
 simp (implicitDefEqProofs:=false) (disch:=omega) [gz,ir1160,b1160,wrap64]
 refine ⟨by omega,?_⟩
 refine loopE (fun k st=>∃ i,i≤l.length∧k=l.length-i ∧
   st=⟨ofL [(3,.v (.c (.os 0 1 0 ((l.take i).flatMap Nv.byt4).length))),(11,.v (.c (.d (.sl (l.map limR))))),(12,.int .i64 l.length),(13,.int .i64 i)],[.row 1 (((l.take i).flatMap Nv.byt4).map u8R)]⟩)
  (fun st=>AtS [(3,.v (.c (.os 0 1 0 (l.flatMap Nv.byt4).length)))] [.row 1 ((l.flatMap Nv.byt4).map u8R)] st) ?_ ?_ ?_
 ·refine wk_keep [3,11,12,13] ⟨_,0,by omega,rfl,?_⟩
  simp
 ·rintro J L hJ hJL k st ⟨i,hi,rfl,rfl⟩
  by_cases hlt:i<l.length
  ·obtain ⟨x,hx⟩:∃ x,nth l i=x:=⟨_,rfl⟩
   obtain ⟨B,hB⟩:∃ B,B=(l.take i).flatMap Nv.byt4:=⟨_,rfl⟩
   have hBl:B.length=4*i:=by rw [hB,flat4_len,List.length_take,Nat.min_eq_left hi]
   have hnext:(l.take (i+1)).flatMap Nv.byt4=B ++ Nv.byt4 x:=by rw [take_nth hlt,List.flatMap_append,← hB,hx]; simp
   rw [← hB]
   simp (implicitDefEqProofs:=false) (disch:=omega) [gz,hlt,wrap64,nth_map,hx,limR]
   refine loopE (fun k st=>∃ j,j≤4∧k=4-j ∧
     st=⟨ofL [(3,.v (.c (.os 0 1 0 (B ++ (Nv.byt4 x).take j).length))),(5,.v (U4 x)),(11,.v (.c (.d (.sl (l.map limR))))),(12,.int .i64 l.length),(13,.int .i64 i),(17,.int .i64 j)],[.row 1 ((B ++ (Nv.byt4 x).take j).map u8R)]⟩)
    (fun st=>AtS [(3,.v (.c (.os 0 1 0 (B ++ Nv.byt4 x).length))),(11,.v (.c (.d (.sl (l.map limR))))),(12,.int .i64 l.length),(13,.int .i64 i)] [.row 1 ((B ++ Nv.byt4 x).map u8R)] st) ?_ ?_ ?_
   ·refine wk_keep [3,5,11,12,13,17] ⟨_,0,by omega,rfl,?_⟩
    simp
   ·rintro J' L' hJ' hL' k st ⟨j,hj,rfl,rfl⟩
    by_cases hj4:j<4
    ·obtain ⟨C,hC⟩:∃ C,C=B ++ (Nv.byt4 x).take j:=⟨_,rfl⟩
     have hCl:C.length=4*i+j:=by rw [hC,List.length_append,hBl,List.length_take,byt4_len,Nat.min_eq_left hj]
     have hCn:B ++ (Nv.byt4 x).take (j+1)=C ++ [nth (Nv.byt4 x) j]:=by rw [take_nth (by rw [byt4_len]; exact hj4),← List.append_assoc,← hC]
     have tC:(C.map u8R).take C.length=C.map u8R:=List.take_of_length_le (by simp)
     rw [← hC]
     obtain ⟨y,hy⟩:∃ y,y=x / 256^j:=⟨_,rfl⟩
     obtain ⟨b,hb⟩:∃ b,b=nth (Nv.byt4 x) j:=⟨_,rfl⟩
     have h8:=shr8 (x:=x) hj4
     rw [← hy] at h8
     have hby:IntKind.u8.wrap (y:Int)=(b.toNat:Int):=by
      rw [hb,byt4_nth hj4,u8n,hy,Nv.toNat_of (Nat.mod_lt _ (by decide))]
     have hj4':(j:Int)<4:=by omega
     rw [← hb] at hCn
     simp (implicitDefEqProofs:=false) (disch:=omega) [gz,hj4',wrap64,h8,hby,elems,tC,maxLen47]
     refine ⟨by omega,by omega,?_⟩
     subst hJ'
     refine wk_nil [2] [3,5,11,12,13,17] rfl ⟨4-(j+1),by omega,j+1,by omega,rfl,?_⟩
     rw [hCn]
     simp [phi,O.ren,u8R]
    ·have:j=4:=by omega
     subst this
     have t4:(Nv.byt4 x).take 4=Nv.byt4 x:=rfl
     rw [t4]
     simp (implicitDefEqProofs:=false) (disch:=omega) [gz,wrap64]
     subst hL'
     exact at_mk (by simp) (by simp)
   ·rintro _ ⟨sl,rfl⟩
    simp (implicitDefEqProofs:=false) (disch:=omega) [gz,wrap64]
    subst hJ
    refine wk_keep [3,11,12,13] ⟨l.length-(i+1),by omega,i+1,by omega,rfl,?_⟩
    rw [hnext]
    simp
  ·have:i=l.length:=by omega
   subst this
   simp (implicitDefEqProofs:=false) (disch:=omega) [gz,hlt]
   subst hJL
   refine at_mk (by simp) (by simp)
 ·rintro _ ⟨sl,rfl⟩
  obtain ⟨B,hB⟩:∃ B,B=l.flatMap Nv.byt4:=⟨_,rfl⟩
  have hBl:B.length=4*l.length:=by rw [hB,flat4_len]
  have tC:(B.map u8R).take B.length=B.map u8R:=List.take_of_length_le (by simp)
  have g1:=xg1119 ⟨B.toArray⟩ (by show B.toArray.size<_; simp; omega)
  have hv:nV ⟨B.toArray⟩=Nv.valL l:=by
   show Nv.valB B.toArray.toList=_
   rw [List.toList_toArray,hB,Nv.bytes_val hL]
  rw [hv] at g1
  rw [← hB]
  simp (implicitDefEqProofs:=false) (disch:=omega) [gz,wrap64,elems,tC,bytR_u8,s1,g1]
  exact fin_nil ⟨rfl,rfl⟩
theorem limR_inj {a b:List Nat} (h:a.map limR=b.map limR):a=b:=map_inj (fun x y h=>by simp [limR] at h; omega) h
noncomputable def x1160:XE:=mkX true (fun (l:List Nat)=>[.c (.sl (l.map limR))]) (fun l=>l.length<1073741824∧Nv.Lim l) (fun l=>.str (nB (Nv.valL l)))
theorem kx1160:Contract Tryz.prog G0 160 x1160:=mkX_scal (fun _=>rfl) fun l h=>k1160 l h.1 h.2
theorem xg1160 (l:List Nat) (h:l.length<1073741824) (hL:Nv.Lim l):x1160.g [.c (.sl (l.map limR))]=some (True,.str (nB (Nv.valL l))):=mkX_g (fun a b h=>by simp only [List.cons.injEq,PVo.c.injEq,D.sl.injEq] at h; exact limR_inj h.1) l ⟨h,hL⟩
theorem k1142 (n:Nat) (h:n<18446744073709551616):ACalls Tryz.prog G0 142 [U8 n] [] fun t H=>t = .str (nB n)∧H=[]:=by
 have s1:x1160.sc=true:=rfl
 have hl1:n / 4294967296<4294967296:=by omega
 have hl0:n % 4294967296<4294967296:=Nat.mod_lt _ (by decide)
 have hL:Nv.Lim [n % 4294967296,n / 4294967296]:=fun x hx=>by
  rw [Nv.BL_eq]
  rcases List.mem_cons.1 hx with rfl | hx
  ·exact hl0
  ·rw [List.mem_singleton.1 hx]; exact hl1
 have g1:=xg1160 [n % 4294967296,n / 4294967296] (by simp) hL
 have hv:Nv.valL [n % 4294967296,n / 4294967296]=n:=by
  simp only [Nv.valL,Nv.BL_eq]; omega
 rw [hv] at g1
 obtain ⟨a,ha⟩:∃ a,a=n % 4294967296:=⟨_,rfl⟩
 obtain ⟨b,hb⟩:∃ b,b=n / 4294967296:=⟨_,rfl⟩
 rw [← ha,← hb] at g1
 simp only [List.map_cons,List.map_nil,limR] at g1
 have w1:IntKind.u32.wrap (n:Int)=(a:Int):=by rw [u32n,ha]
 have w2:IntKind.u32.wrap ((n:Int).fdiv (2^min 32 IntKind.u64.bits))=(b:Int):=by
  rw [p32,fdv _ (by omega),u32i]; omega
 refine acallsX (X:=[(160,x1160)]) ⟨kx1160,trivial⟩ tab hmix Tryz.func142 c1142 (by rfl) fun hw=>?_
 simp (implicitDefEqProofs:=false) (disch:=omega) [gz,ir1142,b1142,s1,g1,w1,w2,elems]
 exact fin_nil ⟨rfl,rfl⟩
noncomputable def x1142:XE:=mkX true (fun (n:Nat)=>[.c (.v (.int .u64 (n:Int)))]) (fun n=>n<18446744073709551616) (fun n=>.str (nB n))
theorem kx1142:Contract Tryz.prog G0 142 x1142:=mkX_scal (fun _=>rfl) fun n h=>k1142 n h
theorem xg1142 (n:Nat) (h:n<18446744073709551616):x1142.g [.c (.v (.int .u64 (n:Int)))]=some (True,.str (nB n)):=mkX_g (fun a b h=>by simp at h; omega) n h
def bl8 (s:ByteArray):List UInt8:=s.data.toList
theorem bl8_len (s:ByteArray):(bl8 s).length=s.size:=rfl
theorem bl8_at (s:ByteArray) (i:Nat):s.data[i]?.getD 0=(bl8 s).getD i 0:=by simp [bl8]
theorem bl8_get {s:ByteArray} {i:Nat} (h:i<s.size):(bl8 s).getD i 0=(bl8 s)[i]'h:=by
 rw [List.getD_eq_getElem?_getD,List.getElem?_eq_getElem (l:=bl8 s) (i:=i) h]; rfl
def u64T (n:Nat):T:=if n<18446744073709551616 then .tup [U8 n,.c (.d (.v (.bool true)))] else .tup [U8 0,.c (.d (.v (.bool false)))]
theorem p256:(256:Nat)^8=18446744073709551616:=by decide
theorem pow256 (i:Nat):(2:Nat)^(8*i)=256^i:=by rw [Nat.pow_mul]
theorem k1156 (a:ByteArray) (h:a.size<4611686018427387904):ACalls Tryz.prog G0 156 [Sx a] [] fun t H=>t=u64T (nV a)∧H=[]:=by
 have s1:x1119.sc=true:=rfl
 have g1:=xg1119 a h
 obtain ⟨n,hn⟩:∃ n,n=nV a:=⟨_,rfl⟩
 rw [← hn] at g1 ⊢
 obtain ⟨s,hs⟩:∃ s,s=nB n:=⟨_,rfl⟩
 rw [← hs] at g1
 have hv:Nv.valB (bl8 s)=n:=by rw [hs]; exact Nv.valB_digs n
 have hss:s.size=(Nv.digs n).length:=by rw [hs]; rfl
 have hsb:s.size<4611686018427387904:=by
  rw [hss,hn]
  show (Nv.digs (Nv.valB a.data.toList)).length<_
  rw [Nv.digs_valB]
  exact Nat.lt_of_le_of_lt (Nv.trim_le _) h
 refine acallsX (X:=[(119,x1119)]) ⟨kx1119,trivial⟩ tab hmix Tryz.func156 c1156 (by rfl) fun hw=>?_
 by_cases h8:8<s.size
 ·have:¬ n<18446744073709551616:=fun q=>by
   have:=Nv.digs_len_le (n:=n) (k:=8) (by rw [p256]; exact q)
   omega
  have h8':8<(s.size:Int):=by omega
  unfold u64T
  rw [if_neg this]
  simp (implicitDefEqProofs:=false) (disch:=omega) [gz,ir1156,b1156,wrap64,s1,g1,h8']
  exact fin_nil ⟨rfl,rfl⟩
 ·have hlt64:n<18446744073709551616:=by
   have:=Nv.digs_len_gt (n:=n) (k:=8) (by omega)
   rw [p256] at this; exact this
  have h8':¬ 8<(s.size:Int):=by omega
  unfold u64T
  rw [if_pos hlt64]
  simp (implicitDefEqProofs:=false) (disch:=omega) [gz,ir1156,b1156,wrap64,s1,g1,h8']
  refine loopE (fun k st=>∃ i,i≤s.size∧k=s.size-i ∧
    st=⟨ofL [(0,.v (.c (.d (.v (.string s))))),(4,.v (U8 (Nv.valB ((bl8 s).take i)))),(12,.int .i64 s.size),(13,.int .i64 i)],[]⟩)
   (fun st=>AtS [(4,.v (U8 n))] [] st) ?_ ?_ ?_
  ·refine wk_keep [0,4,12,13] ⟨_,0,by omega,rfl,?_⟩
   simp [Nv.valB]; rfl
  ·rintro J L hJ hL k st ⟨i,hi,rfl,rfl⟩
   by_cases hlt:i<s.size
   ·obtain ⟨x,hx⟩:∃ x,x=Nv.valB ((bl8 s).take i):=⟨_,rfl⟩
    obtain ⟨b,hb⟩:∃ b,b=(s.data[i]?.getD 0).toNat:=⟨_,rfl⟩
    have hbl:b<256:=by rw [hb]; exact UInt8.toNat_lt _
    have hxl:x<256^i:=by
     rw [hx]
     have:=Nv.valB_lt ((bl8 s).take i)
     rwa [List.length_take,bl8_len,Nat.min_eq_left hi] at this
    have hnext:Nv.valB ((bl8 s).take (i+1))=x+b*256^i:=by
     rw [Nv.valB_take (by rw [bl8_len]; exact hlt),← hx,hb,bl8_at,bl8_get hlt,Nat.mul_comm]; rfl
    have hp1:256^(i+1)≤18446744073709551616:=by rw [← p256]; exact Nat.pow_le_pow_right (by decide) (by omega)
    have hbp:b*256^i<18446744073709551616:=by
     have:b*256^i<256*256^i:=Nat.mul_lt_mul_of_pos_right hbl (Nat.pow_pos (by decide))
     rw [Nat.pow_succ,Nat.mul_comm] at hp1; omega
    have hxb:x<18446744073709551616:=by
     have:256^i≤256^(i+1):=Nat.pow_le_pow_right (by decide) (by omega)
     omega
    have hw1:IntKind.u64.wrap (b:Int)=(b:Int):=u64w (by omega)
    have hsum:x+b*256^i<18446744073709551616:=by
     have:=Nv.valB_lt ((bl8 s).take (i+1))
     rw [hnext,List.length_take,bl8_len,Nat.min_eq_left (by omega)] at this
     omega
    have hsh:IntKind.u64.wrap ((b:Int)*2^(min (8*(i:Int)).toNat IntKind.u64.bits))=((b*2^(8*i):Nat):Int):=by
     have e1:min (8*(i:Int)).toNat IntKind.u64.bits=8*i:=by
      have:(8*(i:Int)).toNat=8*i:=by omega
      rw [this]
      exact Nat.min_eq_left (by show 8*i≤64; omega)
     rw [e1]
     have e2:(b:Int)*2^(8*i)=((b*2^(8*i):Nat):Int):=by simp
     rw [e2,u64w (by rw [pow256]; exact hbp)]
    have hor:IntKind.u64.wrap ((BitVec.ofInt IntKind.u64.bits (x:Int) ||| BitVec.ofInt IntKind.u64.bits ((b*2^(8*i):Nat):Int)).toNat:Int)=((x+b*256^i:Nat):Int):=by
     have:=Nv.bv_orAdd' (w:=64) (k:=8*i) (x:=b) (lo:=x) (by rw [pow256]; exact hxl) (by rw [pow256]; exact hbp) hxb
     show IntKind.u64.wrap (((BitVec.ofInt 64 (x:Int) ||| BitVec.ofInt 64 ((b*2^(8*i):Nat):Int)).toNat:Nat):Int)=_
     rw [this,pow256,u64w hsum]
    obtain ⟨y,hy⟩:∃ y,y=b*2^(8*i):=⟨_,rfl⟩
    obtain ⟨z,hz⟩:∃ z,z=x+b*256^i:=⟨_,rfl⟩
    rw [← hy] at hsh hor
    rw [← hz] at hor hnext
    rw [← hx]
    simp (implicitDefEqProofs:=false) (disch:=omega) [gz,hlt,wrap64,← hb,hw1,hsh,hor,-BitVec.toNat_or,-BitVec.toNat_ofInt,-BitVec.ofInt_natCast,-BitVec.toNat_ofNat]
    refine ⟨by omega,?_⟩
    subst hJ
    refine wk_keep [0,4,12,13] ⟨s.size-(i+1),by omega,i+1,by omega,rfl,?_⟩
    rw [hnext]
    simp
   ·have:i=s.size:=by omega
    subst this
    simp (implicitDefEqProofs:=false) (disch:=omega) [gz,hlt]
    subst hL
    have t4:(bl8 s).take s.size=bl8 s:=List.take_of_length_le (by rw [bl8_len]; exact Nat.le_refl _)
    rw [t4,hv]
    exact at_mk (by simp) rfl
  ·rintro _ ⟨sl,rfl⟩
   simp (implicitDefEqProofs:=false) (disch:=omega) [gz,wrap64]
   exact fin_nil ⟨rfl,rfl⟩
theorem inj1s (a b:ByteArray) (h:[PVo.c (D.v (Value.string a))]=[PVo.c (D.v (Value.string b))]):a=b:=by simp at h; exact h
theorem u64T_sc (n:Nat):scT (u64T n)=true:=by unfold u64T; split <;> rfl
noncomputable def x1156:XE:=mkX true (fun (s:ByteArray)=>[.c (.v (.string s))]) (fun s=>s.size<4611686018427387904) (fun s=>u64T (nV s))
theorem kx1156:Contract Tryz.prog G0 156 x1156:=mkX_scal (fun _=>u64T_sc _) fun s h=>k1156 s h
theorem xg1156 (s:ByteArray) (h:s.size<4611686018427387904):x1156.g [.c (.v (.string s))]=some (True,u64T (nV s)):=mkX_g inj1s s h
def cmpN (a b:Nat):Int:=if a<b then -1 else if b<a then 1 else 0
theorem digs_short {a b:Nat} (h:(Nv.digs a).length<(Nv.digs b).length):a<b:=by
 apply Classical.byContradiction
 intro q
 have h1:=Nv.digs_len_gt (Nat.le_refl (Nv.digs a).length)
 have h2:=Nv.digs_len_le (n:=b) (k:=(Nv.digs a).length) (by omega)
 omega
theorem top_lt {l m:List UInt8} {k:Nat} (hl:k<l.length) (hm:k<m.length) (hd:l.drop (k+1)=m.drop (k+1)) (h:l[k].toNat<m[k].toNat):Nv.valB l<Nv.valB m:=by
 have sp:∀ (l:List UInt8) (hl:k<l.length),Nv.valB l=Nv.valB (l.take k)+256^k*(l[k].toNat+256*Nv.valB (l.drop (k+1))):=fun l hl=>by
  conv=>lhs; rw [← List.take_append_drop k l,Nv.valB_app,List.drop_eq_getElem_cons hl]
  rw [List.length_take,Nat.min_eq_left (Nat.le_of_lt hl)]; rfl
 rw [sp l hl,sp m hm,hd]
 have h1:=Nv.valB_lt (l.take k)
 rw [List.length_take,Nat.min_eq_left (Nat.le_of_lt hl)] at h1
 have h2:256^k*(l[k].toNat+256*Nv.valB (m.drop (k+1))+1)≤256^k*(m[k].toNat+256*Nv.valB (m.drop (k+1))):=Nat.mul_le_mul_left _ (by omega)
 rw [Nat.mul_add,Nat.mul_one] at h2
 omega
theorem nB_size (n:Nat):(nB n).size=(Nv.digs n).length:=rfl
theorem nB_le {s:ByteArray}:(nB (nV s)).size≤s.size:=by
 show (Nv.digs (Nv.valB s.data.toList)).length≤s.data.toList.length
 rw [Nv.digs_valB]; exact Nv.trim_le _
theorem k1158 (a b:ByteArray) (ha:a.size<4611686018427387904) (hb:b.size<4611686018427387904):ACalls Tryz.prog G0 158 [Sx a,Sx b] [] fun t H=>t = .int .i64 (cmpN (nV a) (nV b))∧H=[]:=by
 have s1:x1119.sc=true:=rfl
 have g1:=xg1119 a ha
 have g2:=xg1119 b hb
 have hsb:=nB_le (s:=a)
 have htb:=nB_le (s:=b)
 obtain ⟨m,hm⟩:∃ m,m=nV a:=⟨_,rfl⟩
 obtain ⟨n,hn⟩:∃ n,n=nV b:=⟨_,rfl⟩
 rw [← hm] at g1 hsb ⊢
 rw [← hn] at g2 htb ⊢
 have hls:(nB m).size=(Nv.digs m).length:=rfl
 have hlt:(nB n).size=(Nv.digs n).length:=rfl
 have hvs:Nv.valB (bl8 (nB m))=m:=Nv.valB_digs m
 have hvt:Nv.valB (bl8 (nB n))=n:=Nv.valB_digs n
 obtain ⟨s,hs⟩:∃ s,s=nB m:=⟨_,rfl⟩
 obtain ⟨t,ht⟩:∃ t,t=nB n:=⟨_,rfl⟩
 rw [← hs] at g1 hsb hls hvs
 rw [← ht] at g2 htb hlt hvt
 refine acallsX (X:=[(119,x1119)]) ⟨kx1119,trivial⟩ tab hmix Tryz.func158 c1158 (by rfl) fun hw=>?_
 by_cases hlen:s.size=t.size
 ·have hbase:=hlen
  simp (implicitDefEqProofs:=false) (disch:=omega) [gz,ir1158,b1158,wrap64,s1,g1,g2,hlen]
  refine loopE (fun k st=>∃ i,i≤t.size∧k=t.size-i∧(bl8 s).drop (t.size-i)=(bl8 t).drop (t.size-i) ∧
    st=⟨ofL [(0,.v (.c (.d (.v (.string s))))),(1,.v (.c (.d (.v (.string t))))),(22,.int .i64 t.size),(23,.int .i64 i)],[]⟩)
   (fun st=>m=n∧AtS [] [] st) ?_ ?_ ?_
  ·refine wk_keep [0,1,22,23] ⟨_,0,by omega,rfl,?_,?_⟩
   ·rw [Nat.sub_zero,List.drop_eq_nil_of_le (by rw [bl8_len]; omega),List.drop_eq_nil_of_le (by rw [bl8_len]; omega)]
   ·simp
  ·rintro J L hJ hL k st ⟨i,hi,rfl,hd,rfl⟩
   by_cases hlti:i<t.size
   ·obtain ⟨q,hq⟩:∃ q,q=t.size-(i+1):=⟨_,rfl⟩
    have hqs:q<s.size:=by omega
    have hqt:q<t.size:=by omega
    have hqi:((t.size:Int)-1-(i:Int))=(q:Int):=by omega
    have hq1:t.size-i=q+1:=by omega
    rw [hq1] at hd
    obtain ⟨x,hx⟩:∃ x,x=(s.data[q]?.getD 0).toNat:=⟨_,rfl⟩
    obtain ⟨y,hy⟩:∃ y,y=(t.data[q]?.getD 0).toNat:=⟨_,rfl⟩
    have ex:x=((bl8 s)[q]'hqs).toNat:=by rw [hx,bl8_at,bl8_get hqs]
    have ey:y=((bl8 t)[q]'hqt).toNat:=by rw [hy,bl8_at,bl8_get hqt]
    by_cases c1:x=y
    ·subst c1
     simp (implicitDefEqProofs:=false) (disch:=omega) [gz,hlti,wrap64,hqi,hqs,hqt,hlen,← hx,← hy]
     refine ⟨by kernel_rfl,?_⟩
     subst hJ
     refine wk_keep [0,1,22,23] ⟨t.size-(i+1),by omega,i+1,by omega,rfl,?_,?_⟩
     ·rw [← hq,List.drop_eq_getElem_cons (l:=bl8 s) hqs,List.drop_eq_getElem_cons (l:=bl8 t) hqt,hd]
      congr 1
      exact UInt8.toNat_inj.1 (by rw [← ex,← ey])
     ·simp
    ·have c1':¬ (x:Int)=(y:Int):=by omega
     by_cases c2:x<y
     ·have c2':(x:Int)<(y:Int):=by omega
      have hmn:m<n:=by
       rw [← hvs,← hvt]
       exact top_lt (l:=bl8 s) (m:=bl8 t) hqs hqt hd (by rw [← ex,← ey]; exact c2)
      rw [show cmpN m n = -1 from by unfold cmpN; rw [if_pos hmn]]
      simp (implicitDefEqProofs:=false) (disch:=omega) [gz,hlti,wrap64,hqi,hqs,hqt,hlen,← hx,← hy,c1',c2']
      repeat' (with_reducible apply And.intro)
      all_goals first | kernel_rfl | skip
      exact fin_nil ⟨rfl,rfl⟩
     ·have c2':¬ (x:Int)<(y:Int):=by omega
      have hmn:n<m:=by
       rw [← hvs,← hvt]
       exact top_lt (l:=bl8 t) (m:=bl8 s) hqt hqs hd.symm (by rw [← ex,← ey]; omega)
      rw [show cmpN m n=1 from by unfold cmpN; rw [if_neg (by omega),if_pos hmn]]
      simp (implicitDefEqProofs:=false) (disch:=omega) [gz,hlti,wrap64,hqi,hqs,hqt,hlen,← hx,← hy,c1',c2']
      repeat' (with_reducible apply And.intro)
      all_goals first | kernel_rfl | skip
      exact fin_nil ⟨rfl,rfl⟩
   ·have:i=t.size:=by omega
    subst this
    simp (implicitDefEqProofs:=false) (disch:=omega) [gz,hlti]
    subst hL
    refine ⟨?_,at_mk (by simp) rfl⟩
    rw [Nat.sub_self,List.drop_zero,List.drop_zero] at hd
    rw [← hvs,← hvt,hd]
  ·rintro _ ⟨hmn,sl,rfl⟩
   rw [show cmpN m n=0 from by unfold cmpN; rw [if_neg (by omega),if_neg (by omega)]]
   simp (implicitDefEqProofs:=false) (disch:=omega) [gz,wrap64]
   exact fin_nil ⟨rfl,rfl⟩
 ·have hlen':¬ (s.size:Int)=t.size:=by omega
  by_cases c1:s.size<t.size
  ·have hmn:m<n:=digs_short (by omega)
   rw [show cmpN m n = -1 from by unfold cmpN; rw [if_pos hmn]]
   simp (implicitDefEqProofs:=false) (disch:=omega) [gz,ir1158,b1158,wrap64,s1,g1,g2,hlen,hlen',c1]
   exact fin_nil ⟨rfl,rfl⟩
  ·have hmn:n<m:=digs_short (by omega)
   rw [show cmpN m n=1 from by unfold cmpN; rw [if_neg (by omega),if_pos hmn]]
   simp (implicitDefEqProofs:=false) (disch:=omega) [gz,ir1158,b1158,wrap64,s1,g1,g2,hlen,hlen',c1]
   exact fin_nil ⟨rfl,rfl⟩
theorem inj2s (a b:ByteArray×ByteArray) (h:[PVo.c (D.v (Value.string a.1)),PVo.c (D.v (Value.string a.2))]=[PVo.c (D.v (Value.string b.1)),PVo.c (D.v (Value.string b.2))]):a=b:=by
 simp at h; exact Prod.ext h.1 h.2
noncomputable def x1158:XE:=mkX true (fun (p:ByteArray×ByteArray)=>[.c (.v (.string p.1)),.c (.v (.string p.2))]) (fun p=>p.1.size<4611686018427387904∧p.2.size<4611686018427387904) (fun p=>.int .i64 (cmpN (nV p.1) (nV p.2)))
theorem kx1158:Contract Tryz.prog G0 158 x1158:=mkX_scal (fun _=>rfl) fun p h=>k1158 p.1 p.2 h.1 h.2
theorem xg1158 (a b:ByteArray) (ha:a.size<4611686018427387904) (hb:b.size<4611686018427387904):x1158.g [.c (.v (.string a)),.c (.v (.string b))]=some (True,.int .i64 (cmpN (nV a) (nV b))):=mkX_g inj2s (a,b) ⟨ha,hb⟩
def limN (n:Nat):List Nat:=Nv.limsOf (Nv.digs n) (((Nv.digs n).length+3) / 4)
theorem limN_len (n:Nat):(limN n).length=((Nv.digs n).length+3) / 4:=Nv.limsOf_len _ _
theorem limN_lim (n:Nat):Nv.Lim (limN n):=Nv.limsOf_lim _ _
theorem limN_val (n:Nat):Nv.valL (limN n)=n:=by
 unfold limN
 rw [Nv.limsOf_all (by omega),Nv.valB_digs]
theorem limN_zero {n:Nat}:(limN n).length=0↔n=0:=by
 constructor
 ·intro h
  have:=limN_val n
  rw [List.length_eq_zero_iff.1 h] at this
  exact this.symm
 ·rintro rfl
  rw [limN_len,Nv.digs_zero]; rfl
theorem limN_top {n:Nat} (h:n≠0):Nv.BL^((limN n).length-1)≤n:=by
 rw [limN_len]
 have h1:¬ n<256^((Nv.digs n).length-1):=fun q=>by
  have:=Nv.digs_len_le q
  have h0:(Nv.digs n).length≠0:=fun q=>h (by have:=Nv.valB_digs n; rw [List.length_eq_zero_iff.1 q] at this; exact this.symm)
  omega
 have h4:Nv.BL=256^4:=by rw [Nv.BL_eq]
 rw [h4,← Nat.pow_mul]
 refine Nat.le_trans (Nat.pow_le_pow_right (by decide) ?_) (Nat.le_of_not_lt h1)
 omega
theorem limN_last {n:Nat} (h:n≠0):0<nth (limN n) ((limN n).length-1):=by
 have hl:(limN n).length≠0:=fun q=>h (limN_zero.1 q)
 have h1:=limN_top h
 have h2:=Nv.valL_split (limN n) ((limN n).length-1) (by omega)
 have h3:=Nv.valL_lt (l:=(limN n).take ((limN n).length-1)) fun x hx=>limN_lim n x (List.mem_of_mem_take hx)
 rw [List.length_take,Nat.min_eq_left (by omega)] at h3
 rw [List.drop_eq_getElem_cons (by omega),List.drop_eq_nil_of_le (by omega),limN_val] at h2
 rw [nth_eq (by omega)]
 apply Nat.pos_of_ne_zero
 intro q
 rw [q] at h2
 simp only [Nv.valL,Nat.mul_zero,Nat.add_zero,Nat.zero_add] at h2
 omega
theorem limK_take (L:List UInt8) (j k:Nat):Nv.limK (L.take j) k=Nv.valB ((L.drop (4*k)).take (min 4 (j-4*k))):=by
 unfold Nv.limK
 rw [List.drop_take,List.take_take]
theorem lims_step {L:List UInt8} {m i:Nat} (hi:i<L.length):(Nv.limsOf (L.take i) m).set (i / 4) (Nv.limK (L.take i) (i / 4)+L[i].toNat*256^(i % 4))=Nv.limsOf (L.take (i+1)) m:=by
 apply List.ext_getElem
 ·rw [List.length_set,Nv.limsOf_len,Nv.limsOf_len]
 ·intro k h1 h2
  rw [Nv.limsOf_len] at h2
  have e1:∀ (s:List UInt8) (h:k<(Nv.limsOf s m).length),(Nv.limsOf s m)[k]=Nv.limK s k:=fun s h=>by simp [Nv.limsOf]
  rw [List.getElem_set,e1]
  split
  ·rename_i e
   subst e
   rw [e1,limK_take,limK_take]
   have a1:min 4 (i-4*(i / 4))=i % 4:=by omega
   have a2:min 4 (i+1-4*(i / 4))=i % 4+1:=by omega
   rw [a1,a2,Nv.valB_take (by rw [List.length_drop]; omega),List.getElem_drop]
   have a3:4*(i / 4)+i % 4=i:=by omega
   simp only [a3]
   rw [Nat.mul_comm (L[i].toNat)]
  ·rename_i e
   rw [e1,limK_take,limK_take]
   congr 2
   omega
theorem limK_small (L:List UInt8) (i:Nat):Nv.limK (L.take i) (i / 4)<256^(i % 4):=by
 rw [limK_take]
 have a1:min 4 (i-4*(i / 4))=i % 4:=by omega
 rw [a1]
 refine Nat.lt_of_lt_of_le (Nv.valB_lt _) (Nat.pow_le_pow_right (by decide) ?_)
 rw [List.length_take]; omega
theorem nth_lims {s:List UInt8} {m k:Nat} (h:k<m):nth (Nv.limsOf s m) k=Nv.limK s k:=by
 rw [nth_eq (by rw [Nv.limsOf_len]; exact h)]; simp [Nv.limsOf]
theorem k1157 (a:ByteArray) (h:a.size<4611686018) (H:List O):ACalls Tryz.prog G0 157 [Sx a] H (Own H 1 ((limN (nV a)).map limR)):=by
 have s1:x1119.sc=true:=rfl
 have g1:=xg1119 a (by omega)
 have hsb:=nB_le (s:=a)
 obtain ⟨n,hn⟩:∃ n,n=nV a:=⟨_,rfl⟩
 rw [← hn] at g1 hsb ⊢
 obtain ⟨s,hs⟩:∃ s,s=nB n:=⟨_,rfl⟩
 rw [← hs] at g1 hsb
 have hL:limN n=Nv.limsOf (bl8 s) ((s.size+3) / 4):=by rw [hs]; rfl
 rw [hL]
 obtain ⟨m,hm⟩:∃ m,m=(s.size+3) / 4:=⟨_,rfl⟩
 rw [← hm]
 refine acallsX (X:=[(119,x1119)]) ⟨kx1119,trivial⟩ tab hmix Tryz.func157 c1157 (by rfl) fun hw=>?_
 have hmi:((s.size:Int)+4-1).tdiv 4=(m:Int):=by rw [Int.tdiv_eq_ediv_of_nonneg (by omega)]; omega
 simp (implicitDefEqProofs:=false) (disch:=omega) [gz,ir1157,b1157,wrap64,s1,g1,hmi]
 refine ⟨by omega,?_⟩
 refine loopE (fun k st=>∃ i,i≤s.size∧k=s.size-i ∧
   st=⟨ofL [(0,.v (.c (.d (.v (.string s))))),(3,.v (.c (.os H.length 1 0 m))),(14,.int .i64 s.size),(15,.int .i64 i)],H ++ [.row 1 ((Nv.limsOf ((bl8 s).take i) m).map limR)]⟩)
  (fun st=>AtS [(3,.v (.c (.os H.length 1 0 m)))] (H ++ [.row 1 ((Nv.limsOf (bl8 s) m).map limR)]) st) ?_ ?_ ?_
 ·refine wk_pre [0] [0,3,14,15] hw rfl ⟨_,0,by omega,rfl,?_⟩
  have h0:(Nv.limsOf ((bl8 s).take 0) m).map limR=List.replicate m [D.v (.int .u32 0)]:=by
   rw [List.take_zero]
   apply List.ext_getElem
   ·rw [List.length_map,Nv.limsOf_len,List.length_replicate]
   ·intro k h1 h2
    simp [Nv.limsOf,Nv.limK,Nv.valB,limR]
  rw [h0]
  simp [phiP,phi,O.ren]
 ·rintro J L hJ hJL k st ⟨i,hi,rfl,rfl⟩
  by_cases hlt:i<s.size
  ·obtain ⟨R,hR⟩:∃ R,R=Nv.limsOf ((bl8 s).take i) m:=⟨_,rfl⟩
   have hRl:R.length=m:=by rw [hR,Nv.limsOf_len]
   obtain ⟨q,hq⟩:∃ q,q=i / 4:=⟨_,rfl⟩
   obtain ⟨r,hr⟩:∃ r,r=i % 4:=⟨_,rfl⟩
   have hqm:q<m:=by omega
   obtain ⟨x,hx⟩:∃ x,x=Nv.limK ((bl8 s).take i) q:=⟨_,rfl⟩
   have hxr:nth R q=x:=by rw [hR,nth_lims hqm,hx]
   have hxs:x<256^r:=by rw [hx,hq,hr]; exact limK_small _ _
   obtain ⟨b,hb⟩:∃ b,b=(s.data[i]?.getD 0).toNat:=⟨_,rfl⟩
   have hbl:b<256:=by rw [hb]; exact UInt8.toNat_lt _
   have hbe:((bl8 s)[i]'hlt).toNat=b:=by rw [hb,bl8_at,bl8_get hlt]
   have hnext:R.set q (x+b*256^r)=Nv.limsOf ((bl8 s).take (i+1)) m:=by
    have:=lims_step (L:=bl8 s) (m:=m) (i:=i) hlt
    rw [← hR,← hq,← hr,← hx,hbe] at this
    exact this
   have hq':(i:Int).tdiv 4=(q:Int):=by rw [Int.tdiv_eq_ediv_of_nonneg (by omega)]; omega
   have hr':(i:Int).tmod 4=(r:Int):=by rw [Int.tmod_eq_emod_of_nonneg (by omega)]; omega
   have hp1:256^r*256≤4294967296:=by
    have:256^(r+1)≤256^4:=Nat.pow_le_pow_right (by decide) (by omega)
    rw [Nat.pow_succ] at this
    exact this
   have hbp:b*256^r<4294967296:=by
    have:b*256^r<256*256^r:=Nat.mul_lt_mul_of_pos_right hbl (Nat.pow_pos (by decide))
    omega
   have hw1:IntKind.u32.wrap (b:Int)=(b:Int):=u32w (by omega)
   have hpp:(2:Nat)^(8*r)=256^r:=pow256 r
   have hsh:IntKind.u32.wrap ((b:Int)*2^(min (8*(r:Int)).toNat IntKind.u32.bits))=((b*2^(8*r):Nat):Int):=by
    have e1:min (8*(r:Int)).toNat IntKind.u32.bits=8*r:=by
     have:(8*(r:Int)).toNat=8*r:=by omega
     rw [this]
     exact Nat.min_eq_left (by show 8*r≤32; omega)
    rw [e1]
    have e2:(b:Int)*2^(8*r)=((b*2^(8*r):Nat):Int):=by simp
    rw [e2,u32w (by rw [hpp]; exact hbp)]
   have hsum:x+b*256^r<4294967296:=by
    have h1:b*256^r≤255*256^r:=Nat.mul_le_mul_right _ (by omega)
    omega
   have hor:IntKind.u32.wrap ((BitVec.ofInt IntKind.u32.bits (x:Int) ||| BitVec.ofInt IntKind.u32.bits ((b*2^(8*r):Nat):Int)).toNat:Int)=((x+b*256^r:Nat):Int):=by
    have:=Nv.bv_orAdd' (w:=32) (k:=8*r) (x:=b) (lo:=x) (by rw [hpp]; exact hxs) (by rw [hpp]; exact hbp) (show x<2^32 by omega)
    show IntKind.u32.wrap (((BitVec.ofInt 32 (x:Int) ||| BitVec.ofInt 32 ((b*2^(8*r):Nat):Int)).toNat:Nat):Int)=_
    rw [this,hpp,u32w hsum]
   obtain ⟨y,hy⟩:∃ y,y=b*2^(8*r):=⟨_,rfl⟩
   obtain ⟨z,hz⟩:∃ z,z=x+b*256^r:=⟨_,rfl⟩
   rw [← hy] at hsh hor
   rw [← hz] at hor hnext
   rw [← hR]
   simp (implicitDefEqProofs:=false) (disch:=omega) [gz,hlt,wrap64,← hb,hw1,hq',hr',hsh,hor,hRl,hqm,nth_map,hxr,limR,splice,-BitVec.toNat_or,-BitVec.toNat_ofInt,-BitVec.ofInt_natCast,-BitVec.toNat_ofNat]
   repeat' (with_reducible apply And.intro)
   all_goals first | omega | kernel_rfl | skip
   subst hJ
   refine wk_pre [0] [0,3,14,15] hw rfl ⟨s.size-(i+1),by omega,i+1,by omega,rfl,?_⟩
   rw [← hnext]
   simp [phiP,phi,O.ren,List.map_set,limR]
  ·have:i=s.size:=by omega
   subst this
   simp (implicitDefEqProofs:=false) (disch:=omega) [gz,hlt]
   subst hJL
   have t4:(bl8 s).take s.size=bl8 s:=List.take_of_length_le (by rw [bl8_len]; exact Nat.le_refl _)
   rw [t4]
   exact at_mk (by simp) rfl
 ·rintro _ ⟨sl,rfl⟩
  simp (implicitDefEqProofs:=false) (disch:=omega) [gz,wrap64]
  exact fin_own (k:=0) hw rfl (by rw [List.length_map,Nv.limsOf_len])
theorem BLe:Nv.BL=4294967296:=rfl
def digN (n j:Nat):Nat:=n / 4294967296^j % 4294967296
def limF (k n:Nat):List Nat:=(List.range k).map (digN n)
theorem limF_len (k n:Nat):(limF k n).length=k:=by simp [limF]
theorem digN_lt (n j:Nat):digN n j<4294967296:=Nat.mod_lt _ (by decide)
theorem limF_lim (k n:Nat):Nv.Lim (limF k n):=fun x hx=>by
 obtain ⟨j,_,rfl⟩:=List.mem_map.1 hx
 exact digN_lt n j
theorem limF_get {k n j:Nat} (h:j<(limF k n).length):(limF k n)[j]=digN n j:=by simp [limF]
theorem nth_limF {k n j:Nat} (h:j<k):nth (limF k n) j=digN n j:=by
 rw [nth_eq (by rw [limF_len]; exact h),limF_get]
theorem Bpow_pos (j:Nat):0<4294967296^j:=Nat.pow_pos (by decide)
theorem dig_of {l:List Nat} (hl:Nv.Lim l) {j:Nat} (h:j<l.length):digN (Nv.valL l) j=l[j]:=by
 have h1:=Nv.valL_split l j (Nat.le_of_lt h)
 have h2:=Nv.valL_lt (l:=l.take j) fun x hx=>hl x (List.mem_of_mem_take hx)
 rw [List.length_take,Nat.min_eq_left (Nat.le_of_lt h)] at h2
 rw [List.drop_eq_getElem_cons h] at h1
 simp only [Nv.valL] at h1
 have h3:l[j]<4294967296:=hl _ (List.getElem_mem h)
 unfold digN
 rw [h1,BLe] at *
 rw [Nat.add_mul_div_left _ _ (Bpow_pos j),Nat.div_eq_of_lt h2,Nat.zero_add,Nat.add_mul_mod_self_left,Nat.mod_eq_of_lt h3]
theorem limF_of {l:List Nat} (hl:Nv.Lim l):l=limF l.length (Nv.valL l):=by
 apply List.ext_getElem
 ·rw [limF_len]
 ·intro j h1 h2
  rw [limF_get,dig_of hl h1]
theorem limF_val:∀ (k n:Nat),Nv.valL (limF k n)=n % 4294967296^k
 | 0,n=>by simp [limF,Nv.valL,Nat.mod_one]
 | k+1,n=>by
  have ih:=limF_val k n
  have e:limF (k+1) n=limF k n ++ [digN n k]:=by unfold limF; rw [List.range_succ,List.map_append]; rfl
  rw [e,Nv.valL_app,ih,limF_len]
  simp only [Nv.valL,Nat.mul_zero,Nat.add_zero,BLe]
  unfold digN
  rw [Nat.pow_succ,Nat.mod_mul]
theorem limF_small {k n:Nat} (h:n<4294967296^k):Nv.valL (limF k n)=n:=by rw [limF_val,Nat.mod_eq_of_lt h]
theorem limF_uniq {l:List Nat} {k n:Nat} (hl:Nv.Lim l) (hk:l.length=k) (hv:Nv.valL l=n):l=limF k n:=by
 rw [← hk,← hv]; exact limF_of hl
theorem limF_take {k n j:Nat} (h:j≤k):(limF k n).take j=limF j n:=by
 unfold limF
 rw [← List.map_take,List.take_range,Nat.min_eq_left h]
theorem limF_mod {k n:Nat}:limF k n=limF k (n % 4294967296^k):=by
 have:=limF_of (limF_lim k n)
 rw [limF_len,limF_val] at this
 exact this
theorem limF_zero (k:Nat):limF k 0=List.replicate k 0:=by
 apply List.ext_getElem
 ·rw [limF_len,List.length_replicate]
 ·intro j h1 h2
  rw [limF_get,List.getElem_replicate]; simp [digN]
theorem short_dig {V d k:Nat} (hd:0<d) (hd2:d<4294967296):(V / 4294967296^(k+1) % d*4294967296+digN V k) / d=digN (V / d) k∧(V / 4294967296^(k+1) % d*4294967296+digN V k) % d=V / 4294967296^k % d:=by
 obtain ⟨W,hW⟩:∃ W,W=V / 4294967296^k:=⟨_,rfl⟩
 have h1:V / 4294967296^(k+1)=W / 4294967296:=by rw [hW,Nat.pow_succ,Nat.div_div_eq_div_mul]
 have h2:V / d / 4294967296^k=W / d:=by rw [hW,Nat.div_div_eq_div_mul,Nat.div_div_eq_div_mul,Nat.mul_comm]
 unfold digN
 rw [h1,h2,← hW]
 obtain ⟨a,ha⟩:∃ a,a=W / 4294967296 / d:=⟨_,rfl⟩
 obtain ⟨r,hr⟩:∃ r,r=W / 4294967296 % d:=⟨_,rfl⟩
 obtain ⟨x,hx⟩:∃ x,x=W % 4294967296:=⟨_,rfl⟩
 have e1:W / 4294967296=d*a+r:=by rw [ha,hr]; exact (Nat.div_add_mod _ _).symm
 have e2:W=4294967296*(d*a+r)+x:=by rw [← e1,hx]; exact (Nat.div_add_mod _ _).symm
 have hrd:r<d:=by rw [hr]; exact Nat.mod_lt _ hd
 have hxb:x<4294967296:=by rw [hx]; exact Nat.mod_lt _ (by decide)
 rw [← hr,← hx]
 have e3:W=(r*4294967296+x)+d*(4294967296*a):=by
  rw [e2,Nat.mul_add]
  have:4294967296*(d*a)=d*(4294967296*a):=by rw [Nat.mul_left_comm]
  rw [this,Nat.mul_comm 4294967296 r]; omega
 have hlt:r*4294967296+x<d*4294967296:=by
  have:(r+1)*4294967296≤d*4294967296:=Nat.mul_le_mul_right _ hrd
  rw [Nat.add_mul] at this; omega
 have hq:(r*4294967296+x) / d<4294967296:=Nat.div_lt_of_lt_mul hlt
 constructor
 ·conv=>rhs; rw [e3,Nat.add_mul_div_left _ _ hd,Nat.add_mul_mod_self_left,Nat.mod_eq_of_lt hq]
 ·conv=>rhs; rw [e3,Nat.add_mul_mod_self_left]
def upF (m c n:Nat):List Nat:=(List.range m).map fun j=>if c≤j then digN n j else 0
theorem upF_len (m c n:Nat):(upF m c n).length=m:=by simp [upF]
theorem upF_all (m n:Nat):upF m 0 n=limF m n:=by unfold upF limF; simp
theorem upF_none (m n:Nat):upF m m n=List.replicate m 0:=by
 apply List.ext_getElem
 ·rw [upF_len,List.length_replicate]
 ·intro j h1 h2
  rw [upF_len] at h1
  simp [upF]; omega
theorem upF_set {m c n:Nat}:(upF m (c+1) n).set c (digN n c)=upF m c n:=by
 apply List.ext_getElem
 ·rw [List.length_set,upF_len,upF_len]
 ·intro j h1 h2
  rw [List.getElem_set]
  split
  ·rename_i e; subst e; simp [upF]
  ·rename_i e
   simp only [upF,List.getElem_map,List.getElem_range]
   by_cases q:c≤j
   ·rw [if_pos q,if_pos (by omega)]
   ·rw [if_neg q,if_neg (by omega)]
theorem rep_limR (m:Nat):List.replicate m [D.v (.int .u32 0)]=(List.replicate m 0).map limR:=by
 rw [List.map_replicate]; rfl
abbrev shortT (l:List Nat) (d:Nat):T:=.tup [.c (.d (.sl ((limF l.length (Nv.valL l / d)).map limR))),U4 (Nv.valL l % d)]
theorem k1159 (l:List Nat) (d:Nat) (hl:l.length<1073741824) (hL:Nv.Lim l) (hd:0<d) (hd2:d<4294967296) (H:List O) :
  ACalls Tryz.prog G0 159 [.c (.d (.sl (l.map limR))),U4 d] H fun t H'=>t=shortT l d∧H'=H:=by
 have s1:x1170.sc=true:=rfl
 refine acallsX (X:=[(170,x1170)]) ⟨kx1170,trivial⟩ tab hmix Tryz.func159 c1159 (by rfl) fun hw=>?_
 obtain ⟨m,hm⟩:∃ m,m=l.length:=⟨_,rfl⟩
 obtain ⟨N,hV⟩:∃ N,N=Nv.valL l:=⟨_,rfl⟩
 have hVm:N<4294967296^m:=by rw [hV,hm]; exact Nv.valL_lt hL
 unfold shortT
 rw [← hm] at hl
 rw [← hm,← hV]
 simp (implicitDefEqProofs:=false) (disch:=omega) [gz,ir1159,b1159,wrap64,← hm]
 refine ⟨by omega,?_⟩
 refine loopE (fun k st=>∃ i,i≤m∧k=m-i ∧
   st=⟨ofL [(0,.v (.c (.d (.sl (l.map limR))))),(1,.v (U4 d)),(6,.v (.c (.os H.length 1 0 m))),(7,.v (U4 (N / 4294967296^(m-i) % d))),(14,.int .i64 m),(15,.int .i64 i)],H ++ [.row 1 ((upF m (m-i) (N / d)).map limR)]⟩)
  (fun st=>AtS [(6,.v (.c (.os H.length 1 0 m))),(7,.v (U4 (N % d)))] (H ++ [.row 1 ((limF m (N / d)).map limR)]) st) ?_ ?_ ?_
 ·refine wk_pre [0] [0,1,6,7,14,15] hw rfl ⟨_,0,by omega,rfl,?_⟩
  rw [Nat.sub_zero,upF_none,← rep_limR,Nat.div_eq_of_lt hVm,Nat.zero_mod]
  simp [phiP,phi,O.ren]; rfl
 ·rintro J L hJ hJL k st ⟨i,hi,rfl,rfl⟩
  by_cases hlt:i<m
  ·obtain ⟨q,hq⟩:∃ q,q=m-(i+1):=⟨_,rfl⟩
   have hqm:q<m:=by omega
   have hq1:m-i=q+1:=by omega
   have hqi:((m:Int)-1-(i:Int))=(q:Int):=by omega
   rw [hq1]
   obtain ⟨x,hx⟩:∃ x,nth l q=x:=⟨_,rfl⟩
   have hxd:digN N q=x:=by rw [hV,dig_of hL (by omega),← nth_eq,hx]
   have hxb:x<4294967296:=by rw [← hxd]; exact digN_lt _ _
   obtain ⟨r,hr⟩:∃ r,r=N / 4294967296^(q+1) % d:=⟨_,rfl⟩
   have hrd:r<d:=by rw [hr]; exact Nat.mod_lt _ hd
   obtain ⟨e1,e2⟩:=short_dig (V:=N) (k:=q) hd hd2
   rw [← hr,hxd] at e1 e2
   have g1:=xg1170 r x d hrd hxb hd2
   rw [e1,e2] at g1
   obtain ⟨R,hR⟩:∃ R,R=upF m (q+1) (N / d):=⟨_,rfl⟩
   have hRl:R.length=m:=by rw [hR,upF_len]
   have hnext:R.set q (digN (N / d) q)=upF m q (N / d):=by rw [hR,upF_set]
   obtain ⟨y,hy⟩:∃ y,y=digN (N / d) q:=⟨_,rfl⟩
   obtain ⟨z,hz⟩:∃ z,z=N / 4294967296^q % d:=⟨_,rfl⟩
   rw [← hy] at g1 hnext
   rw [← hz] at g1
   rw [← hR,← hr]
   simp (implicitDefEqProofs:=false) (disch:=omega) [gz,hlt,wrap64,hqi,hqm,nth_map,hx,limR,s1,g1,hRl,splice,← hm]
   repeat' (with_reducible apply And.intro)
   all_goals first | omega | kernel_rfl | skip
   subst hJ
   refine wk_pre [0] [0,1,6,7,14,15] hw rfl ⟨m-(i+1),by omega,i+1,by omega,rfl,?_⟩
   rw [← hq,← hz,← hnext]
   simp [phiP,phi,O.ren,List.map_set,limR]
  ·have:i=m:=by omega
   subst this
   simp (implicitDefEqProofs:=false) (disch:=omega) [gz,hlt]
   subst hJL
   rw [upF_all]
   exact at_mk (by simp) rfl
 ·rintro _ ⟨sl,rfl⟩
  simp (implicitDefEqProofs:=false) (disch:=omega) [gz,wrap64]
  refine fin_pre_pvs (ps:=[.c (.sl ((limF m (N / d)).map limR)),.c (.v (.int .u32 ((N % d:Nat):Int)))]) (L':=[.frow 1 ((limF m (N / d)).map limR)]) hw (by simp [toPVs,toPV,toD,take_of_len,limF_len]) (by simp [frzVs,frz,frz1,V.cells]) ⟨rfl,rfl⟩
theorem shortT_inj (a b:List Nat×Nat) (h:[PVo.c (D.sl (a.1.map limR)),PVo.c (D.v (.int .u32 (a.2:Int)))]=[PVo.c (D.sl (b.1.map limR)),PVo.c (D.v (.int .u32 (b.2:Int)))]):a=b:=by
 simp only [List.cons.injEq,PVo.c.injEq,D.sl.injEq,D.v.injEq,Value.int.injEq,true_and,and_true] at h
 exact Prod.ext (limR_inj h.1) (by omega)
noncomputable def x1159:XE:=mkX false (fun (p:List Nat×Nat)=>[.c (.sl (p.1.map limR)),.c (.v (.int .u32 (p.2:Int)))]) (fun p=>p.1.length<1073741824∧Nv.Lim p.1∧0<p.2∧p.2<4294967296) (fun p=>shortT p.1 p.2)
theorem kx1159:Contract Tryz.prog G0 159 x1159:=mkX_data fun p h H=>k1159 p.1 p.2 h.1 h.2.1 h.2.2.1 h.2.2.2 H
theorem xg1159 (l:List Nat) (d:Nat) (hl:l.length<1073741824) (hL:Nv.Lim l) (hd:0<d) (hd2:d<4294967296):x1159.g [.c (.sl (l.map limR)),.c (.v (.int .u32 (d:Int)))]=some (True,shortT l d):=mkX_g shortT_inj (l,d) ⟨hl,hL,hd,hd2⟩
theorem limF_set2 {k n m i:Nat} (h:∀ j,j<k→j≠i→j≠i+1→digN m j=digN n j):((limF k n).set i (digN m i)).set (i+1) (digN m (i+1))=limF k m:=by
 apply List.ext_getElem
 ·rw [List.length_set,List.length_set,limF_len,limF_len]
 ·intro j h1 h2
  rw [limF_len] at h2
  rw [List.getElem_set,List.getElem_set,limF_get]
  split
  ·rename_i e; subst e; rw [limF_get]
  ·rename_i e1
   split
   ·rename_i e; subst e; rw [limF_get]
   ·rename_i e
    rw [limF_get,h j h2 (fun q=>e q.symm) (fun q=>e1 q.symm)]
theorem pow_le32 {b:Nat} (h:b<32):2^b≤2147483648:=Nat.pow_le_pow_right (n:=2) (by decide) (show b≤31 by omega)
theorem shift_dig {A x i b:Nat} (hb:b<32) (hA:A<4294967296^i*2^b) (hx:x<4294967296) :
  digN A i<2^b∧digN (A+4294967296^i*(x*2^b)) i=digN A i+x*2^b % 4294967296∧digN A i+x*2^b % 4294967296<4294967296∧digN (A+4294967296^i*(x*2^b)) (i+1)=x*2^b / 4294967296 ∧
   (∀ j,j≠i→j≠i+1→digN (A+4294967296^i*(x*2^b)) j=digN A j)∧x*2^b % 4294967296=x % 2^(32-b)*2^b:=by
 have h2:=pow_le32 hb
 have hB:4294967296=2^(32-b)*2^b:=by rw [← Nat.pow_add,show 32-b+b=32 by omega]
 have ha:A / 4294967296^i<2^b:=Nat.div_lt_of_lt_mul hA
 have hdi:digN A i=A / 4294967296^i:=by unfold digN; exact Nat.mod_eq_of_lt (by omega)
 have hmod:x*2^b % 4294967296=x % 2^(32-b)*2^b:=by
  conv=>lhs; rw [hB,Nat.mul_mod_mul_right]
 have hlo:x*2^b % 4294967296+2^b≤4294967296:=by
  rw [hmod]
  have h3:x % 2^(32-b)<2^(32-b):=Nat.mod_lt _ (Nat.pow_pos (by decide))
  have h4:(x % 2^(32-b)+1)*2^b≤2^(32-b)*2^b:=Nat.mul_le_mul_right _ h3
  rw [← hB,Nat.add_mul] at h4; omega
 have hdiv:(A+4294967296^i*(x*2^b)) / 4294967296^i=A / 4294967296^i+x*2^b:=Nat.add_mul_div_left _ _ (Bpow_pos i)
 obtain ⟨y,hy⟩:∃ y,y=x*2^b:=⟨_,rfl⟩
 have hyl:y<4294967296*2147483648:=by
  rw [hy]
  exact Nat.lt_of_lt_of_le (Nat.mul_lt_mul_of_pos_right hx (Nat.pow_pos (by decide))) (Nat.mul_le_mul_left _ h2)
 have hsum:(A / 4294967296^i+y) / 4294967296=y / 4294967296:=by
  rw [← hy] at hlo
  omega
 refine ⟨by rw [hdi]; exact ha,?_,by rw [hdi]; omega,?_,fun j h1 h3=>?_,hmod⟩
 ·rw [hdi,← hy]
  unfold digN
  rw [← hy] at hdiv hlo
  rw [hdiv]; omega
 ·unfold digN
  rw [← hy] at hdiv ⊢
  rw [Nat.pow_succ,← Nat.div_div_eq_div_mul,hdiv,hsum]
  exact Nat.mod_eq_of_lt (by omega)
 ·unfold digN
  rw [← hy] at hdiv ⊢
  rcases Nat.lt_or_ge j i with q | q
  ·have e:4294967296^i=4294967296^j*(4294967296*4294967296^(i-j-1)):=by
    rw [← Nat.pow_succ',← Nat.pow_add,show j+(i-j-1).succ=i by omega]
   rw [e,Nat.mul_assoc,Nat.add_mul_div_left _ _ (Bpow_pos j),Nat.mul_assoc,Nat.add_mul_mod_self_left]
  ·obtain ⟨t,rfl⟩:∃ t,j=i+(t+2):=⟨j-i-2,by omega⟩
   have e:∀ z,z / 4294967296^(i+(t+2))=z / 4294967296^i / 4294967296 / 4294967296 / 4294967296^t:=fun z=>by
    rw [Nat.div_div_eq_div_mul,Nat.div_div_eq_div_mul,Nat.div_div_eq_div_mul,Nat.pow_add,Nat.pow_add]
    congr 1
    congr 1
    rw [Nat.pow_succ,Nat.pow_one,← Nat.mul_assoc,← Nat.mul_assoc]
    rw [Nat.mul_comm (4294967296^t) 4294967296,Nat.mul_right_comm]
   rw [e,e,hdiv,hsum]
   have z1:y / 4294967296 / 4294967296=0:=by omega
   have z2:A / 4294967296^i / 4294967296 / 4294967296=0:=by
    have:A / 4294967296^i / 4294967296=0:=Nat.div_eq_of_lt (by omega)
    rw [this]
   rw [z1,z2]
theorem u64shl {x b:Nat} (hx:x<4294967296) (hb:b<32):IntKind.u64.wrap ((x:Int)*2^(min b IntKind.u64.bits))=((x*2^b:Nat):Int):=by
 have h2:=pow_le32 hb
 have e1:min b IntKind.u64.bits=b:=Nat.min_eq_left (by show b≤64; omega)
 rw [e1]
 have e2:(x:Int)*2^b=((x*2^b:Nat):Int):=by simp
 have h3:x*2^b≤4294967296*2147483648:=Nat.mul_le_mul (by omega) h2
 rw [e2,u64w (by omega)]
theorem k1172 (l:List Nat) (b:Nat) (hl:l.length<1073741824) (hL:Nv.Lim l) (hb:b<32) (H:List O) :
  ACalls Tryz.prog G0 172 [.c (.d (.sl (l.map limR))),I b] H (Own H 1 ((limF (l.length+1) (Nv.valL l*2^b)).map limR)):=by
 refine acallsX (X:=[]) trivial tab hmix Tryz.func172 c1172 (by rfl) fun hw=>?_
 obtain ⟨m,hm⟩:∃ m,m=l.length:=⟨_,rfl⟩
 have t4:l.take m=l:=by rw [hm]; exact List.take_of_length_le (Nat.le_refl _)
 rw [← hm] at hl ⊢
 simp (implicitDefEqProofs:=false) (disch:=omega) [gz,ir1172,b1172,wrap64,← hm]
 refine ⟨by omega,?_⟩
 refine loopE (fun k st=>∃ i,i≤m∧k=m-i ∧
   st=⟨ofL [(1,.int .i64 b),(5,.v (.c (.os H.length 1 0 (m+1)))),(13,.v (.c (.d (.sl (l.map limR))))),(14,.int .i64 m),(15,.int .i64 i)],H ++ [.row 1 ((limF (m+1) (Nv.valL (l.take i)*2^b)).map limR)]⟩)
  (fun st=>AtS [(5,.v (.c (.os H.length 1 0 (m+1))))] (H ++ [.row 1 ((limF (m+1) (Nv.valL l*2^b)).map limR)]) st) ?_ ?_ ?_
 ·refine wk_pre [0] [1,5,13,14,15] hw rfl ⟨_,0,by omega,rfl,?_⟩
  rw [List.take_zero]
  simp only [Nv.valL,Nat.zero_mul]
  rw [limF_zero,← rep_limR]
  simp [phiP,phi,O.ren]
 ·rintro J L hJ hJL k st ⟨i,hi,rfl,rfl⟩
  by_cases hlt:i<m
  ·obtain ⟨x,hx⟩:∃ x,nth l i=x:=⟨_,rfl⟩
   have hil:i<l.length:=by omega
   have hxl:l[i]=x:=by rw [← nth_eq,hx]
   have hxb:x<4294967296:=by rw [← hxl]; exact hL _ (List.getElem_mem hil)
   obtain ⟨A,hA⟩:∃ A,A=Nv.valL (l.take i)*2^b:=⟨_,rfl⟩
   have hAl:A<4294967296^i*2^b:=by
    have:=Nv.valL_lt (l:=l.take i) fun x hx=>hL x (List.mem_of_mem_take hx)
    rw [List.length_take,Nat.min_eq_left (by omega)] at this
    rw [hA]; exact Nat.mul_lt_mul_of_pos_right this (Nat.pow_pos (by decide))
   have hA2:Nv.valL (l.take (i+1))*2^b=A+4294967296^i*(x*2^b):=by
    rw [Nv.valL_take hil,Nat.add_mul,← hA,hxl,Nat.mul_assoc,BLe]
   obtain ⟨e1,e2,e3,e4,e5,e6⟩:=shift_dig hb hAl hxb
   have hshl:=u64shl hxb hb
   obtain ⟨y,hy⟩:∃ y,y=x*2^b:=⟨_,rfl⟩
   rw [← hy] at hshl e2 e3 e4 e5 e6 hA2
   obtain ⟨a,ha⟩:∃ a,a=digN A i:=⟨_,rfl⟩
   rw [← ha] at e1 e2 e3
   have hyl:y<4294967296*4294967296:=by
    have h2:=pow_le32 hb
    have h3:x*2^b≤4294967296*2147483648:=Nat.mul_le_mul (by omega) h2
    omega
   have hlo:IntKind.u32.wrap (y:Int)=((y % 4294967296:Nat):Int):=u32n y
   have hhi:IntKind.u32.wrap ((y:Int).fdiv (2^min 32 IntKind.u64.bits))=((y / 4294967296:Nat):Int):=by
    rw [p32,fdv _ (by omega),u32i]; omega
   have hor:IntKind.u32.wrap ((BitVec.ofInt IntKind.u32.bits (a:Int) ||| BitVec.ofInt IntKind.u32.bits ((y % 4294967296:Nat):Int)).toNat:Int)=((a+y % 4294967296:Nat):Int):=by
    have:=Nv.bv_orAdd' (w:=32) (k:=b) (x:=x % 2^(32-b)) (lo:=a) e1 (by rw [← e6]; exact Nat.mod_lt _ (by decide)) (by have:=pow_le32 hb; omega)
    rw [← e6] at this
    show IntKind.u32.wrap (((BitVec.ofInt 32 (a:Int) ||| BitVec.ofInt 32 ((y % 4294967296:Nat):Int)).toNat:Nat):Int)=_
    rw [this,u32w e3]
   obtain ⟨lo,hloe⟩:∃ lo,lo=y % 4294967296:=⟨_,rfl⟩
   obtain ⟨hi',hhie⟩:∃ hi',hi'=y / 4294967296:=⟨_,rfl⟩
   obtain ⟨z,hz⟩:∃ z,z=a+y % 4294967296:=⟨_,rfl⟩
   rw [← hz,← hloe] at hor
   rw [← hloe] at hlo
   rw [← hhie] at hhi
   obtain ⟨R,hR⟩:∃ R,R=limF (m+1) A:=⟨_,rfl⟩
   have hRl:R.length=m+1:=by rw [hR,limF_len]
   have hRi:nth R i=a:=by rw [hR,nth_limF (by omega),ha]
   have hnext:(R.set i z).set (i+1) hi'=limF (m+1) (Nv.valL (l.take (i+1))*2^b):=by
    rw [hA2,hR,hz,hhie,← e2,← e4]
    exact limF_set2 fun j _ h1 h2=>e5 j h1 h2
   have hlt':i<m+1:=by omega
   rw [← hA,← hR]
   simp (implicitDefEqProofs:=false) (disch:=omega) [gz,hlt,hlt',wrap64,nth_map,hx,limR,hRl,hRi,u64w,hshl,hlo,hhi,hor,splice,← hm,-BitVec.toNat_or,-BitVec.toNat_ofInt,-BitVec.ofInt_natCast,-BitVec.toNat_ofNat]
   repeat' (with_reducible apply And.intro)
   all_goals first | omega | kernel_rfl | skip
   subst hJ
   refine wk_pre [0] [1,5,13,14,15] hw rfl ⟨m-(i+1),by omega,i+1,by omega,rfl,?_⟩
   rw [← hnext]
   simp [phiP,phi,O.ren,List.map_set,limR]
   rw [nth_set_ne (by omega),nth_map limR (by omega)]; rfl
  ·have:i=m:=by omega
   subst this
   simp (implicitDefEqProofs:=false) (disch:=omega) [gz,hlt]
   subst hJL
   rw [t4]
   exact at_mk (by simp) rfl
 ·rintro _ ⟨sl,rfl⟩
  simp (implicitDefEqProofs:=false) (disch:=omega) [gz,wrap64]
  exact fin_own (k:=0) hw rfl (by rw [List.length_map,limF_len])
def dnF (m c n:Nat):List Nat:=(List.range m).map fun j=>if j<c then digN n j else 0
theorem dnF_len (m c n:Nat):(dnF m c n).length=m:=by simp [dnF]
theorem dnF_all (m n:Nat):dnF m m n=limF m n:=by
 unfold dnF limF
 exact List.map_congr_left fun j hj=>if_pos (List.mem_range.1 hj)
theorem dnF_none (m n:Nat):dnF m 0 n=List.replicate m 0:=by
 apply List.ext_getElem
 ·rw [dnF_len,List.length_replicate]
 ·intro j h1 h2
  simp [dnF]
theorem dnF_set {m c n:Nat}:(dnF m c n).set c (digN n c)=dnF m (c+1) n:=by
 apply List.ext_getElem
 ·rw [List.length_set,dnF_len,dnF_len]
 ·intro j h1 h2
  rw [List.getElem_set]
  split
  ·rename_i e; subst e; simp [dnF]
  ·rename_i e
   simp only [dnF,List.getElem_map,List.getElem_range]
   by_cases q:j<c
   ·rw [if_pos q,if_pos (by omega)]
   ·rw [if_neg q,if_neg (by omega)]
theorem unshift_dig {V i b:Nat} (hb:b<32):(digN V i+4294967296*digN V (i+1)) / 2^b % 4294967296=digN (V / 2^b) i:=by
 obtain ⟨W,hW⟩:∃ W,W=V / 4294967296^i:=⟨_,rfl⟩
 have h1:V / 4294967296^(i+1)=W / 4294967296:=by rw [hW,Nat.pow_succ,Nat.div_div_eq_div_mul]
 have h2:V / 2^b / 4294967296^i=W / 2^b:=by rw [hW,Nat.div_div_eq_div_mul,Nat.div_div_eq_div_mul,Nat.mul_comm]
 unfold digN
 rw [h1,h2,← hW]
 obtain ⟨w,hw⟩:∃ w,w=W % 4294967296+4294967296*(W / 4294967296 % 4294967296):=⟨_,rfl⟩
 obtain ⟨t,ht⟩:∃ t,t=W / 4294967296 / 4294967296:=⟨_,rfl⟩
 have e:W=w+2^b*(4294967296*(2^(32-b)*t)):=by
  have hB:2^b*2^(32-b)=4294967296:=by rw [← Nat.pow_add,show b+(32-b)=32 by omega]
  have:2^b*(4294967296*(2^(32-b)*t))=4294967296*(4294967296*t):=by
   rw [Nat.mul_left_comm,← Nat.mul_assoc (2^b),hB]
  rw [this]; omega
 rw [← hw]
 conv=>rhs; rw [e,Nat.add_mul_div_left _ _ (Nat.pow_pos (by decide)),Nat.add_mul_mod_self_left]
theorem u64or' {a b:Nat} (ha:a<4294967296) (hb:b<4294967296):IntKind.u64.wrap ((BitVec.ofInt IntKind.u64.bits (b:Int) ||| BitVec.ofInt IntKind.u64.bits (IntKind.u64.wrap ((a:Int)*2^min 32 IntKind.u64.bits))).toNat:Int)=((b+4294967296*a:Nat):Int):=by
 have:=u64or ha hb
 rw [BitVec.or_comm,this]
 congr 1; omega
theorem u64shr {y b:Nat} (hb:b<32):(y:Int).fdiv (2^(min b IntKind.u64.bits))=((y / 2^b:Nat):Int):=by
 have e1:min b IntKind.u64.bits=b:=Nat.min_eq_left (by show b≤64; omega)
 have e2:(2:Int)^b=((2^b:Nat):Int):=by simp
 rw [e1,e2,fdv _ (Int.natCast_nonneg _)]; rfl
theorem k1174 (l:List Nat) (b:Nat) (hl:l.length<1073741824) (hL:Nv.Lim l) (hb:b<32) (H:List O) :
  ACalls Tryz.prog G0 174 [.c (.d (.sl (l.map limR))),I b] H (Own H 1 ((limF l.length (Nv.valL l / 2^b)).map limR)):=by
 refine acallsX (X:=[]) trivial tab hmix Tryz.func174 c1174 (by rfl) fun hw=>?_
 obtain ⟨m,hm⟩:∃ m,m=l.length:=⟨_,rfl⟩
 obtain ⟨N,hN⟩:∃ N,N=Nv.valL l:=⟨_,rfl⟩
 have hNm:N<4294967296^m:=by rw [hN,hm]; exact Nv.valL_lt hL
 rw [← hm] at hl ⊢
 rw [← hN]
 simp (implicitDefEqProofs:=false) (disch:=omega) [gz,ir1174,b1174,wrap64,← hm]
 refine ⟨by omega,?_⟩
 refine loopE (fun k st=>∃ i,i≤m∧k=m-i ∧
   st=⟨ofL [(0,.v (.c (.d (.sl (l.map limR))))),(1,.int .i64 b),(5,.v (.c (.os H.length 1 0 m))),(12,.int .i64 m),(13,.int .i64 i)],H ++ [.row 1 ((dnF m i (N / 2^b)).map limR)]⟩)
  (fun st=>AtS [(5,.v (.c (.os H.length 1 0 m)))] (H ++ [.row 1 ((limF m (N / 2^b)).map limR)]) st) ?_ ?_ ?_
 ·refine wk_pre [0] [0,1,5,12,13] hw rfl ⟨_,0,by omega,rfl,?_⟩
  rw [dnF_none,← rep_limR]
  simp [phiP,phi,O.ren]
 ·rintro J L hJ hJL k st ⟨i,hi,rfl,rfl⟩
  by_cases hlt:i<m
  ·obtain ⟨x,hx⟩:∃ x,nth l i=x:=⟨_,rfl⟩
   have hil:i<l.length:=by omega
   have hxl:digN N i=x:=by rw [hN,dig_of hL hil,← nth_eq,hx]
   have hxb:x<4294967296:=by rw [← hxl]; exact digN_lt _ _
   obtain ⟨R,hR⟩:∃ R,R=dnF m i (N / 2^b):=⟨_,rfl⟩
   have hRl:R.length=m:=by rw [hR,dnF_len]
   have hnext:R.set i (digN (N / 2^b) i)=dnF m (i+1) (N / 2^b):=by rw [hR,dnF_set]
   have hu:=unshift_dig (V:=N) (i:=i) hb
   rw [hxl] at hu
   by_cases hlt1:i+1<m
   ·obtain ⟨y,hy⟩:∃ y,nth l (i+1)=y:=⟨_,rfl⟩
    have hyl:digN N (i+1)=y:=by rw [hN,dig_of hL (by omega),← nth_eq,hy]
    have hyb:y<4294967296:=by rw [← hyl]; exact digN_lt _ _
    rw [hyl] at hu
    have hor:=u64or' hyb hxb
    obtain ⟨z,hz⟩:∃ z,z=x+4294967296*y:=⟨_,rfl⟩
    rw [← hz] at hor hu
    have hshr:=u64shr (y:=z) hb
    obtain ⟨w,hw'⟩:∃ w,w=z / 2^b:=⟨_,rfl⟩
    rw [← hw'] at hshr hu
    have hcv:IntKind.u32.wrap (w:Int)=((digN (N / 2^b) i:Nat):Int):=by rw [u32n,hu]
    obtain ⟨v,hv⟩:∃ v,v=digN (N / 2^b) i:=⟨_,rfl⟩
    rw [← hv] at hcv hnext
    have hlt1':(i:Int)+1<(m:Int):=by omega
    have hlt1'':i+1<l.length:=by omega
    rw [← hR]
    simp (implicitDefEqProofs:=false) (disch:=omega) [gz,hlt,hlt1,hlt1',wrap64,nth_map,hx,hy,limR,hRl,u64w,hor,hshr,hcv,splice,← hm,-BitVec.toNat_or,-BitVec.toNat_ofInt,-BitVec.ofInt_natCast,-BitVec.toNat_ofNat]
    repeat' (with_reducible apply And.intro)
    all_goals first | omega | kernel_rfl | skip
    subst hJ
    refine wk_pre [0] [0,1,5,12,13] hw rfl ⟨m-(i+1),by omega,i+1,by omega,rfl,?_⟩
    rw [← hnext]
    simp [phiP,phi,O.ren,List.map_set,limR]
   ·have hy0:digN N (i+1)=0:=by
     unfold digN
     rw [show i+1=m by omega,Nat.div_eq_of_lt hNm]
    rw [hy0,Nat.mul_zero,Nat.add_zero] at hu
    have hshr:=u64shr (y:=x) hb
    obtain ⟨w,hw'⟩:∃ w,w=x / 2^b:=⟨_,rfl⟩
    rw [← hw'] at hshr hu
    have hcv:IntKind.u32.wrap (w:Int)=((digN (N / 2^b) i:Nat):Int):=by rw [u32n,hu]
    obtain ⟨v,hv⟩:∃ v,v=digN (N / 2^b) i:=⟨_,rfl⟩
    rw [← hv] at hcv hnext
    have hlt1':¬ (i:Int)+1<(m:Int):=by omega
    rw [← hR]
    simp (implicitDefEqProofs:=false) (disch:=omega) [gz,hlt,hlt1',wrap64,nth_map,hx,limR,hRl,u64w,hshr,hcv,splice,← hm]
    repeat' (with_reducible apply And.intro)
    all_goals first | omega | kernel_rfl | skip
    subst hJ
    refine wk_pre [0] [0,1,5,12,13] hw rfl ⟨m-(i+1),by omega,i+1,by omega,rfl,?_⟩
    rw [← hnext]
    simp [phiP,phi,O.ren,List.map_set,limR]
  ·have:i=m:=by omega
   subst this
   simp (implicitDefEqProofs:=false) (disch:=omega) [gz,hlt]
   subst hJL
   rw [dnF_all]
   exact at_mk (by simp) rfl
 ·rintro _ ⟨sl,rfl⟩
  simp (implicitDefEqProofs:=false) (disch:=omega) [gz,wrap64]
  exact fin_own (k:=0) hw rfl (by rw [List.length_map,limF_len])
theorem injLb (a b:List Nat×Nat) (h:[PVo.c (D.sl (a.1.map limR)),PVo.c (D.v (.int .i64 (a.2:Int)))]=[PVo.c (D.sl (b.1.map limR)),PVo.c (D.v (.int .i64 (b.2:Int)))]):a=b:=by
 simp only [List.cons.injEq,PVo.c.injEq,D.sl.injEq,D.v.injEq,Value.int.injEq,true_and,and_true] at h
 exact Prod.ext (limR_inj h.1) (by omega)
noncomputable def x1174:XE:=mkX false (fun (p:List Nat×Nat)=>[.c (.sl (p.1.map limR)),.c (.v (.int .i64 (p.2:Int)))]) (fun p=>p.1.length<1073741824∧Nv.Lim p.1∧p.2<32) (fun p=>.v (.c (.d (.sl ((limF p.1.length (Nv.valL p.1 / 2^p.2)).map limR)))))
theorem kx1174:Contract Tryz.prog G0 174 x1174:=mkX_data fun p h H=>own_data (k1174 p.1 p.2 h.1 h.2.1 h.2.2 H)
theorem xg1174 (l:List Nat) (b:Nat) (hl:l.length<1073741824) (hL:Nv.Lim l) (hb:b<32):x1174.g [.c (.sl (l.map limR)),.c (.v (.int .i64 (b:Int)))]=some (True,.v (.c (.d (.sl ((limF l.length (Nv.valL l / 2^b)).map limR))))):=mkX_g injLb (l,b) ⟨hl,hL,hb⟩
theorem mid_nth {pre w post:List Nat} {i:Nat} (h:i<w.length):nth (pre ++ w ++ post) (pre.length+i)=nth w i:=by
 rw [List.append_assoc,nth_app_r (by omega),Nat.add_sub_cancel_left,nth_app_l h]
theorem mid_set {pre w post:List Nat} {i v:Nat} (h:i<w.length):(pre ++ w ++ post).set (pre.length+i) v=pre ++ w.set i v ++ post:=by
 rw [List.append_assoc,List.set_append_right _ _ (by omega),Nat.add_sub_cancel_left,List.set_append_left _ _ h,← List.append_assoc]
theorem lim_set {w:List Nat} (h:Nv.Lim w) {i v:Nat} (hv:v<4294967296):Nv.Lim (w.set i v):=fun x hx=>by
 rcases List.mem_or_eq_of_mem_set hx with q | rfl
 ·exact h x q
 ·exact hv
theorem set_take {w:List Nat} {i v:Nat} (h:i<w.length):(w.set i v).take (i+1)=w.take i ++ [v]:=by
 rw [List.take_succ_eq_append_getElem (by rw [List.length_set]; exact h),List.take_set_of_le (Nat.le_refl _),List.getElem_set_self]
theorem val_snoc (a:List Nat) (v:Nat):Nv.valL (a ++ [v])=Nv.valL a+4294967296^a.length*v:=by
 rw [Nv.valL_app,BLe]; simp [Nv.valL]
theorem set_drop {w:List Nat} {i v:Nat}:(w.set i v).drop (i+1)=w.drop (i+1):=List.drop_set_of_lt (by omega)
structure TakeI (w0 d:List Nat) (q i:Nat) (w:List Nat) (c b:Nat):Prop where
 lim:Nv.Lim w
 len:w.length=d.length+1
 val:Nv.valL (w0.take i)+4294967296^i*(c+b)=Nv.valL (w.take i)+q*Nv.valL (d.take i)
 rest:w.drop i=w0.drop i
 c:c<4294967296
 b:b≤1
theorem TakeI.step {w0 d:List Nat} {q i:Nat} {w:List Nat} {c b:Nat} (h:TakeI w0 d q i w c b) (hd:Nv.Lim d) (hw0:w0.length=d.length+1) (hq:q<4294967296) (hi:i<d.length) {x u:Nat} (hx:nth d i=x) (hu:nth w i=u) :
  TakeI w0 d q (i+1) (w.set i ((u+8589934592-(x*q+c) % 4294967296-b) % 4294967296)) ((x*q+c) / 4294967296) (if u<(x*q+c) % 4294967296+b then 1 else 0)∧x*q+c<18446744073709551616∧x<4294967296∧u<4294967296:=by
 have hiw:i<w.length:=by rw [h.len]; omega
 have hxd:d[i]=x:=by rw [← nth_eq,hx]
 have huw:w[i]=u:=by rw [← nth_eq,hu]
 have hxb:x<4294967296:=by rw [← hxd]; exact hd _ (List.getElem_mem hi)
 have hub:u<4294967296:=by rw [← huw]; exact h.lim _ (List.getElem_mem hiw)
 have hc:=h.c
 have hb:=h.b
 have hu0:w0[i]'(by omega)=u:=by
  have h1:=h.rest
  rw [List.drop_eq_getElem_cons hiw,List.drop_eq_getElem_cons (l:=w0) (by omega)] at h1
  injection h1 with h1 _
  rw [← h1,huw]
 have hm:x*q≤4294967295*4294967295:=Nat.mul_le_mul (by omega) (by omega)
 obtain ⟨n,hn⟩:∃ n,n=x*q+c:=⟨_,rfl⟩
 have hn64:n<18446744073709551616:=by omega
 rw [← hn]
 obtain ⟨lo,hlo⟩:∃ lo,lo=n % 4294967296:=⟨_,rfl⟩
 obtain ⟨c',hc'⟩:∃ c',c'=n / 4294967296:=⟨_,rfl⟩
 rw [← hlo,← hc']
 obtain ⟨s,hs⟩:∃ s,s=(u+8589934592-lo-b) % 4294967296:=⟨_,rfl⟩
 obtain ⟨b',hb'⟩:∃ b',b'=(if u<lo+b then 1 else 0:Nat):=⟨_,rfl⟩
 rw [← hs,← hb']
 have hsb:s<4294967296:=by rw [hs]; exact Nat.mod_lt _ (by decide)
 have e1:q*x+c=lo+Nv.BL*c':=by rw [BLe,Nat.mul_comm q,← hn]; omega
 have e2:u+Nv.BL*b'=s+lo+b:=by
  rw [BLe,hb',hs]
  split <;> omega
 refine ⟨⟨lim_set h.lim hsb,by rw [List.length_set,h.len],?_,?_,by omega,by rw [hb']; split <;> omega⟩,hn64,hxb,hub⟩
 ·have hstep:=Nv.mulsub_step (P:=4294967296^i) (q:=q) (x:=x) (u:=u) (lo:=lo) (c':=c') (s:=s) (b':=b') h.val e1 e2
  rw [BLe] at hstep
  rw [set_take hiw,val_snoc,List.length_take,Nat.min_eq_left (Nat.le_of_lt hiw),Nv.valL_take (l:=w0) (i:=i) (by omega),hu0,Nv.valL_take hi,hxd,BLe,Nat.pow_succ,Nat.mul_assoc]
  exact hstep
 ·rw [set_drop]
  have:=congrArg (List.drop 1) h.rest
  rw [List.drop_drop,List.drop_drop] at this
  exact this
theorem TakeI.top {w0 d:List Nat} {q:Nat} {w:List Nat} {c b:Nat} (h:TakeI w0 d q d.length w c b) (hw0:w0.length=d.length+1) {u:Nat} (hu:nth w d.length=u) :
  Nv.Lim (w.set d.length ((u+8589934592-c-b) % 4294967296))∧(w.set d.length ((u+8589934592-c-b) % 4294967296)).length=d.length+1 ∧
   Nv.valL w0+4294967296^(d.length+1)*(if u<c+b then 1 else 0)=Nv.valL (w.set d.length ((u+8589934592-c-b) % 4294967296))+q*Nv.valL d∧u<4294967296:=by
 have hiw:d.length<w.length:=by rw [h.len]; omega
 have huw:w[d.length]=u:=by rw [← nth_eq,hu]
 have hub:u<4294967296:=by rw [← huw]; exact h.lim _ (List.getElem_mem hiw)
 have hc:=h.c
 have hb:=h.b
 have hu0:w0[d.length]'(by omega)=u:=by
  have h1:=h.rest
  rw [List.drop_eq_getElem_cons hiw,List.drop_eq_getElem_cons (l:=w0) (by omega)] at h1
  injection h1 with h1 _
  rw [← h1,huw]
 obtain ⟨s,hs⟩:∃ s,s=(u+8589934592-c-b) % 4294967296:=⟨_,rfl⟩
 obtain ⟨b',hb'⟩:∃ b',b'=(if u<c+b then 1 else 0:Nat):=⟨_,rfl⟩
 rw [← hs,← hb']
 have hsb:s<4294967296:=by rw [hs]; exact Nat.mod_lt _ (by decide)
 have e2:u+4294967296*b'=s+c+b:=by rw [hb',hs]; split <;> omega
 have hv:=h.val
 have t1:d.take d.length=d:=List.take_of_length_le (Nat.le_refl _)
 rw [t1] at hv
 have t2:Nv.valL w0=Nv.valL (w0.take d.length)+4294967296^d.length*u:=by
  conv=>lhs; rw [← List.take_of_length_le (l:=w0) (i:=d.length+1) (by omega),Nv.valL_take (by omega),hu0,BLe]
 have t3:Nv.valL (w.set d.length s)=Nv.valL (w.take d.length)+4294967296^d.length*s:=by
  conv=>lhs; rw [← List.take_of_length_le (l:=w.set d.length s) (i:=d.length+1) (by rw [List.length_set,h.len]; exact Nat.le_refl _),set_take hiw,val_snoc,List.length_take,Nat.min_eq_left (Nat.le_of_lt hiw)]
 refine ⟨lim_set h.lim hsb,by rw [List.length_set,h.len],?_,hub⟩
 rw [t2,t3,Nat.pow_succ,Nat.mul_assoc]
 have e3:4294967296^d.length*(u+4294967296*b')=4294967296^d.length*(s+c+b):=by rw [e2]
 simp only [Nat.mul_add] at e3 hv
 omega
structure AddI (w0 d:List Nat) (i:Nat) (w:List Nat) (c:Nat):Prop where
 lim:Nv.Lim w
 len:w.length=d.length+1
 val:Nv.valL (w0.take i)+Nv.valL (d.take i)=Nv.valL (w.take i)+4294967296^i*c
 rest:w.drop i=w0.drop i
 c:c≤1
theorem AddI.step {w0 d:List Nat} {i:Nat} {w:List Nat} {c:Nat} (h:AddI w0 d i w c) (hd:Nv.Lim d) (hw0:w0.length=d.length+1) (hi:i<d.length) {x u:Nat} (hx:nth d i=x) (hu:nth w i=u) :
  AddI w0 d (i+1) (w.set i ((u+x+c) % 4294967296)) ((u+x+c) / 4294967296)∧x<4294967296∧u<4294967296:=by
 have hiw:i<w.length:=by rw [h.len]; omega
 have hxd:d[i]=x:=by rw [← nth_eq,hx]
 have huw:w[i]=u:=by rw [← nth_eq,hu]
 have hxb:x<4294967296:=by rw [← hxd]; exact hd _ (List.getElem_mem hi)
 have hub:u<4294967296:=by rw [← huw]; exact h.lim _ (List.getElem_mem hiw)
 have hc:=h.c
 have hu0:w0[i]'(by omega)=u:=by
  have h1:=h.rest
  rw [List.drop_eq_getElem_cons hiw,List.drop_eq_getElem_cons (l:=w0) (by omega)] at h1
  injection h1 with h1 _
  rw [← h1,huw]
 have e1:u+x+c=(u+x+c) % 4294967296+Nv.BL*((u+x+c) / 4294967296):=by rw [BLe]; omega
 refine ⟨⟨lim_set h.lim (Nat.mod_lt _ (by decide)),by rw [List.length_set,h.len],?_,?_,by omega⟩,hxb,hub⟩
 ·have hstep:=Nv.add_step (P:=4294967296^i) (x:=u) (y:=x) h.val e1
  rw [BLe] at hstep
  rw [set_take hiw,val_snoc,List.length_take,Nat.min_eq_left (Nat.le_of_lt hiw),Nv.valL_take (l:=w0) (i:=i) (by omega),hu0,Nv.valL_take hi,hxd,BLe,Nat.pow_succ,Nat.mul_assoc]
  exact hstep
 ·rw [set_drop]
  have:=congrArg (List.drop 1) h.rest
  rw [List.drop_drop,List.drop_drop] at this
  exact this
theorem AddI.top {w0 d:List Nat} {w:List Nat} {c:Nat} (h:AddI w0 d d.length w c) (hw0:w0.length=d.length+1) (hl0:Nv.Lim w0) {u:Nat} (hu:nth w d.length=u) :
  Nv.Lim (w.set d.length ((u+c) % 4294967296))∧(w.set d.length ((u+c) % 4294967296)).length=d.length+1 ∧
   Nv.valL (w.set d.length ((u+c) % 4294967296))=(Nv.valL w0+Nv.valL d) % 4294967296^(d.length+1)∧u<4294967296:=by
 have hiw:d.length<w.length:=by rw [h.len]; omega
 have huw:w[d.length]=u:=by rw [← nth_eq,hu]
 have hub:u<4294967296:=by rw [← huw]; exact h.lim _ (List.getElem_mem hiw)
 have hu0:w0[d.length]'(by omega)=u:=by
  have h1:=h.rest
  rw [List.drop_eq_getElem_cons hiw,List.drop_eq_getElem_cons (l:=w0) (by omega)] at h1
  injection h1 with h1 _
  rw [← h1,huw]
 have hv:=h.val
 have t1:d.take d.length=d:=List.take_of_length_le (Nat.le_refl _)
 rw [t1] at hv
 have t2:Nv.valL w0=Nv.valL (w0.take d.length)+4294967296^d.length*u:=by
  conv=>lhs; rw [← List.take_of_length_le (l:=w0) (i:=d.length+1) (by omega),Nv.valL_take (by omega),hu0,BLe]
 have t3:∀ s,Nv.valL (w.set d.length s)=Nv.valL (w.take d.length)+4294967296^d.length*s:=fun s=>by
  conv=>lhs; rw [← List.take_of_length_le (l:=w.set d.length s) (i:=d.length+1) (by rw [List.length_set,h.len]; exact Nat.le_refl _),set_take hiw,val_snoc,List.length_take,Nat.min_eq_left (Nat.le_of_lt hiw)]
 have hL:=lim_set (i:=d.length) h.lim (Nat.mod_lt (u+c) (show 0<4294967296 by decide))
 have hlen:(w.set d.length ((u+c) % 4294967296)).length=d.length+1:=by rw [List.length_set,h.len]
 refine ⟨hL,hlen,?_,hub⟩
 have hlt:=Nv.valL_lt hL
 rw [hlen,BLe] at hlt
 have e:Nv.valL w0+Nv.valL d=Nv.valL (w.set d.length ((u+c) % 4294967296))+4294967296^(d.length+1)*((u+c) / 4294967296):=by
  rw [t2,t3,Nat.pow_succ,Nat.mul_assoc]
  have e3:4294967296^d.length*(u+c)=4294967296^d.length*((u+c) % 4294967296+4294967296*((u+c) / 4294967296)):=by rw [Nat.mod_add_div]
  simp only [Nat.mul_add] at e3
  omega
 rw [e,Nat.add_mul_mod_self_left,Nat.mod_eq_of_lt hlt]
def midL (pre w post:List Nat):List Nat:=pre ++ w ++ post
theorem midL_len (pre w post:List Nat):(midL pre w post).length=pre.length+w.length+post.length:=by simp [midL]; omega
theorem midL_nth {pre w post:List Nat} {i:Nat} (h:i<w.length):nth (midL pre w post) (pre.length+i)=nth w i:=mid_nth h
theorem midL_set {pre w post:List Nat} {i v:Nat} (h:i<w.length):(midL pre w post).set (pre.length+i) v=midL pre (w.set i v) post:=mid_set h
abbrev winV (W D q:Nat):Nat:=W-(if W<q*D then q-1 else q)*D
theorem k1173 (pre w0 post d:List Nat) (q:Nat) (r:Nat) (H:List O) (hr:r<H.length) (hd:Nv.Lim d) (hw0:Nv.Lim w0) (hwl:w0.length=d.length+1) (hlen:(midL pre w0 post).length<1073741824) (hq:q<4294967296)
  (hok:(q-1)*Nv.valL d≤Nv.valL w0) :
  ACalls Tryz.prog G0 173 [.c (.os r 1 pre.length (d.length+1)),.c (.d (.sl (d.map limR))),U4 q] (H.set r (.row 1 ((midL pre w0 post).map limR))) fun t H' =>
   t = .bool (decide (Nv.valL w0<q*Nv.valL d))∧H'=H.set r (.row 1 ((midL pre (limF (d.length+1) (winV (Nv.valL w0) (Nv.valL d) q)) post).map limR)):=by
 have s1:x1178.sc=true:=rfl
 have s2:x1179.sc=true:=rfl
 refine acallsX (X:=[(178,x1178),(179,x1179)]) ⟨kx1178,kx1179,trivial⟩ tab hmix Tryz.func173 c1173 (by rfl) fun hw=>?_
 obtain ⟨n,hn⟩:∃ n,n=d.length:=⟨_,rfl⟩
 obtain ⟨p,hp⟩:∃ p,p=pre.length:=⟨_,rfl⟩
 have hlen':p+(n+1)≤(midL pre w0 post).length:=by rw [midL_len,hwl,hn,hp]; omega
 rw [← hn,← hp]
 simp (implicitDefEqProofs:=false) (disch:=omega) [gz,ir1173,b1173,b1173_0,b1173_1,b1173_2,wrap64,← hn]
 refine loopE (fun k st=>∃ i w c b,i≤n∧k=n-i∧TakeI w0 d q i w c b ∧
   st=⟨ofL [(0,.v (.c (.os r 1 p (n+1)))),(1,.v (.c (.d (.sl (d.map limR))))),(2,.v (U4 q)),(7,.v (U8 c)),(8,.v (U4 b)),(15,.v (.c (.d (.sl (d.map limR))))),(16,.int .i64 n),(17,.int .i64 i)],H.set r (.row 1 ((midL pre w post).map limR))⟩)
  (fun st=>∃ w c b,TakeI w0 d q n w c b∧AtS [(0,.v (.c (.os r 1 p (n+1)))),(1,.v (.c (.d (.sl (d.map limR))))),(7,.v (U8 c)),(8,.v (U4 b))] (H.set r (.row 1 ((midL pre w post).map limR))) st) ?_ ?_ ?_
 ·refine wk_keep [0,1,2,7,8,15,16,17] ⟨_,0,w0,0,0,by omega,rfl,⟨hw0,hwl,by simp [Nv.valL],rfl,by decide,by decide⟩,?_⟩
  simp; rfl
 ·rintro J L hJ hJL k st ⟨i,w,c,b,hi,rfl,hT,rfl⟩
  by_cases hlt:i<n
  ·obtain ⟨x,hx⟩:∃ x,nth d i=x:=⟨_,rfl⟩
   obtain ⟨u,hu⟩:∃ u,nth w i=u:=⟨_,rfl⟩
   obtain ⟨hT2,hnb,hxb,hub⟩:=hT.step hd hwl hq (by omega) hx hu
   have hwlen:w.length=n+1:=by rw [hT.len,hn]
   have hid:i<d.length:=by omega
   obtain ⟨X,hX⟩:∃ X,X=midL pre w post:=⟨_,rfl⟩
   have hXl:X.length=(midL pre w0 post).length:=by rw [hX,midL_len,midL_len,hwlen,hwl,hn]
   have hXi:nth X (p+i)=u:=by rw [hX,hp,midL_nth (by omega),hu]
   have hXb:p+i<X.length:=by omega
   have hXs:∀ v,X.set (p+i) v=midL pre (w.set i v) post:=fun v=>by rw [hX,hp,midL_set (by omega)]
   have hc:=hT.c
   have hb:=hT.b
   obtain ⟨m,hm⟩:∃ m,m=x*q+c:=⟨_,rfl⟩
   rw [← hm] at hT2 hnb
   obtain ⟨lo,hlo⟩:∃ lo,lo=m % 4294967296:=⟨_,rfl⟩
   obtain ⟨c',hc'⟩:∃ c',c'=m / 4294967296:=⟨_,rfl⟩
   rw [← hlo,← hc'] at hT2
   have hlob:lo<4294967296:=by rw [hlo]; exact Nat.mod_lt _ (by decide)
   have w1:IntKind.u64.wrap (IntKind.u64.wrap ((x:Int)*(q:Int))+(c:Int))=(m:Int):=by
    have e:(x:Int)*(q:Int)=((x*q:Nat):Int):=by simp
    rw [e,u64w (by omega),hm]
    have e2:((x*q:Nat):Int)+(c:Int)=((x*q+c:Nat):Int):=by omega
    rw [e2,u64w (by omega)]
   have w2:(m:Int).fdiv (2^min 32 IntKind.u64.bits)=(c':Int):=by rw [p32,fdv _ (by omega),hc']; omega
   have w3:IntKind.u32.wrap (m:Int)=(lo:Int):=by rw [u32n,hlo]
   have w4:=u64w (n:=x) (by omega)
   have w5:=u64w (n:=q) (by omega)
   have g1:=xg1178 u lo b hub hlob hb
   obtain ⟨s,hs⟩:∃ s,s=(u+8589934592-lo-b) % 4294967296:=⟨_,rfl⟩
   obtain ⟨b',hb'⟩:∃ b',b'=(if u<lo+b then 1 else 0:Nat):=⟨_,rfl⟩
   rw [← hs,← hb'] at g1 hT2
   rw [← hX]
   simp (implicitDefEqProofs:=false) (disch:=omega) [gz,hlt,hid,wrap64,nth_map,hx,limR,hr,hXi,hXb,w1,w2,w3,w4,w5,s1,g1,splice,← hn]
   repeat' (with_reducible apply And.intro)
   all_goals first | omega | kernel_rfl | skip
   subst hJ
   refine wk_keep [0,1,2,7,8,15,16,17] ⟨n-(i+1),by omega,i+1,w.set i s,c',b',by omega,rfl,hT2,?_⟩
   rw [← hXs]
   simp [List.map_set,limR]
  ·have:i=n:=by omega
   subst this
   simp (implicitDefEqProofs:=false) (disch:=omega) [gz,hlt]
   subst hJL
   exact ⟨w,c,b,hT,at_mk (by simp) rfl⟩
 ·rintro _ ⟨w,c,b,hT,sl,rfl⟩
  rw [hn] at hT
  obtain ⟨u,hu⟩:∃ u,nth w d.length=u:=⟨_,rfl⟩
  obtain ⟨hL1,hl1,hv1,hub⟩:=hT.top hwl hu
  have hc:=hT.c
  have hb:=hT.b
  have hwlen:w.length=n+1:=by rw [hT.len,hn]
  rw [← hn] at hu hL1 hl1 hv1
  obtain ⟨X,hX⟩:∃ X,X=midL pre w post:=⟨_,rfl⟩
  have hXl:X.length=(midL pre w0 post).length:=by rw [hX,midL_len,midL_len,hwlen,hwl,hn]
  have hXi:nth X (p+n)=u:=by rw [hX,hp,midL_nth (by omega),hu]
  have hXb:p+n<X.length:=by omega
  have hXs:∀ v,X.set (p+n) v=midL pre (w.set n v) post:=fun v=>by rw [hX,hp,midL_set (by omega)]
  have w1:IntKind.u32.wrap (c:Int)=(c:Int):=u32w hc
  have g1:=xg1178 u c b hub hc hb
  obtain ⟨s,hs⟩:∃ s,s=(u+8589934592-c-b) % 4294967296:=⟨_,rfl⟩
  rw [← hs] at g1 hL1 hl1 hv1
  obtain ⟨W,hW⟩:∃ W,W=Nv.valL w0:=⟨_,rfl⟩
  obtain ⟨D',hD⟩:∃ D',D'=Nv.valL d:=⟨_,rfl⟩
  rw [← hW,← hD] at hv1 hok
  rw [← hW,← hD]
  obtain ⟨w2,hw2⟩:∃ w2,w2=w.set n s:=⟨_,rfl⟩
  rw [← hw2] at hL1 hl1 hv1
  have hv2:=Nv.valL_lt hL1
  rw [hl1,BLe] at hv2
  by_cases hbor:u<c+b
  ·rw [if_pos hbor] at g1 hv1
   have hWq:W<q*D':=by omega
   rw [decide_eq_true hWq]
   have hq1:1≤q:=by
    apply Classical.byContradiction
    intro h0
    have:q=0:=by omega
    rw [this,Nat.zero_mul] at hWq; omega
   have hqD:q*D'=(q-1)*D'+D':=by
    obtain ⟨k,rfl⟩:∃ k,q=k+1:=⟨q-1,by omega⟩
    rw [Nat.add_sub_cancel,Nat.add_mul,Nat.one_mul]
   have hWB:W<4294967296^(n+1):=by
    have:=Nv.valL_lt hw0
    rw [hwl,BLe,← hn,← hW] at this; exact this
   have hwin:winV W D' q=(Nv.valL w2+D') % 4294967296^(n+1):=by
    unfold winV
    rw [if_pos hWq]
    have:Nv.valL w2+D'=(W-(q-1)*D')+4294967296^(n+1):=by omega
    rw [this,Nat.add_mod_right,Nat.mod_eq_of_lt (by omega)]
   rw [hwin]
   simp (implicitDefEqProofs:=false) (disch:=omega) [gz,b1173_3,b1173_4,b1173_5,b1173_6,wrap64,hr,nth_map,hXi,hXb,hXl,limR,w1,s1,g1,splice,← hn,← hX]
   refine ⟨by omega,by omega,by omega,by omega,?_⟩
   have hrow:(X.map limR).set (p+n) [D.v (.int .u32 (s:Int))]=(midL pre w2 post).map limR:=by
    rw [hw2,← hXs,List.map_set]; rfl
   rw [hrow]
   refine loopE (fun k st=>∃ i w' c,i≤n∧k=n-i∧AddI w2 d i w' c ∧
     st=⟨ofL [(0,.v (.c (.os r 1 p (n+1)))),(1,.v (.c (.d (.sl (d.map limR))))),(12,.v (U4 c)),(64,.v (.c (.d (.sl (d.map limR))))),(65,.int .i64 n),(66,.int .i64 i)],H.set r (.row 1 ((midL pre w' post).map limR))⟩)
    (fun st=>∃ w' c,AddI w2 d n w' c∧AtS [(0,.v (.c (.os r 1 p (n+1)))),(1,.v (.c (.d (.sl (d.map limR))))),(12,.v (U4 c))] (H.set r (.row 1 ((midL pre w' post).map limR))) st) ?_ ?_ ?_
   ·refine wk_keep [0,1,12,64,65,66] ⟨_,0,w2,0,by omega,rfl,⟨hL1,by rw [hl1,hn],by simp [Nv.valL],rfl,by decide⟩,?_⟩
    simp; rfl
   ·rintro J L hJ hJL k st ⟨i,w',a,hi,rfl,hA,rfl⟩
    by_cases hlt:i<n
    ·obtain ⟨x,hx⟩:∃ x,nth d i=x:=⟨_,rfl⟩
     obtain ⟨v,hv⟩:∃ v,nth w' i=v:=⟨_,rfl⟩
     obtain ⟨hA2,hxb,hvb⟩:=hA.step hd (by rw [hl1,hn]) (by omega) hx hv
     have hwlen':w'.length=n+1:=by rw [hA.len,hn]
     have hid:i<d.length:=by omega
     obtain ⟨Y,hY⟩:∃ Y,Y=midL pre w' post:=⟨_,rfl⟩
     have hYl:Y.length=(midL pre w0 post).length:=by rw [hY,midL_len,midL_len,hwlen',hwl,hn]
     have hYi:nth Y (p+i)=v:=by rw [hY,hp,midL_nth (by omega),hv]
     have hYb:p+i<Y.length:=by omega
     have hYs:∀ z,Y.set (p+i) z=midL pre (w'.set i z) post:=fun z=>by rw [hY,hp,midL_set (by omega)]
     have ha:=hA.c
     have g2:=xg1179 v x a hvb hxb ha
     obtain ⟨lo,hlo⟩:∃ lo,lo=(v+x+a) % 4294967296:=⟨_,rfl⟩
     obtain ⟨hi',hhi⟩:∃ hi',hi'=(v+x+a) / 4294967296:=⟨_,rfl⟩
     rw [← hlo,← hhi] at g2 hA2
     rw [← hY]
     simp (implicitDefEqProofs:=false) (disch:=omega) [gz,hlt,hid,wrap64,nth_map,hx,limR,hr,hYi,hYb,s2,g2,splice,← hn]
     repeat' (with_reducible apply And.intro)
     all_goals first | omega | kernel_rfl | skip
     subst hJ
     refine wk_keep [0,1,12,64,65,66] ⟨n-(i+1),by omega,i+1,w'.set i lo,hi',by omega,rfl,hA2,?_⟩
     rw [← hYs]
     simp [List.map_set,limR]
    ·have:i=n:=by omega
     subst this
     simp (implicitDefEqProofs:=false) (disch:=omega) [gz,hlt]
     subst hJL
     exact ⟨w',a,hA,at_mk (by simp) rfl⟩
   ·rintro _ ⟨w',a,hA,sl',rfl⟩
    rw [hn] at hA
    obtain ⟨v,hv⟩:∃ v,nth w' d.length=v:=⟨_,rfl⟩
    obtain ⟨hL3,hl3,hv3,hvb⟩:=hA.top (by rw [hl1,hn]) hL1 hv
    have ha:=hA.c
    have hwlen':w'.length=n+1:=by rw [hA.len,hn]
    rw [← hn] at hv hL3 hl3 hv3
    rw [← hD] at hv3
    obtain ⟨Y,hY⟩:∃ Y,Y=midL pre w' post:=⟨_,rfl⟩
    have hYl:Y.length=(midL pre w0 post).length:=by rw [hY,midL_len,midL_len,hwlen',hwl,hn]
    have hYi:nth Y (p+n)=v:=by rw [hY,hp,midL_nth (by omega),hv]
    have hYb:p+n<Y.length:=by omega
    have hYs:∀ z,Y.set (p+n) z=midL pre (w'.set n z) post:=fun z=>by rw [hY,hp,midL_set (by omega)]
    have w3:IntKind.u32.wrap ((v:Int)+(a:Int))=(((v+a) % 4294967296:Nat):Int):=by rw [u32i]; omega
    obtain ⟨z,hz⟩:∃ z,z=(v+a) % 4294967296:=⟨_,rfl⟩
    rw [← hz] at hL3 hl3 hv3 w3
    simp (implicitDefEqProofs:=false) (disch:=omega) [gz,b1173_7,b1173_8,b1173_9,wrap64,hr,nth_map,hYi,hYb,hYl,limR,w3,splice,← hn,← hY]
    refine ⟨by omega,by omega,by omega,by omega,?_⟩
    refine fin_here (by simp) ⟨rfl,?_⟩
    have hF:=limF_uniq hL3 hl3 hv3
    rw [← hF,← hYs,List.map_set]; rfl
  ·rw [if_neg hbor] at g1 hv1
   have hWq:¬ W<q*D':=by omega
   rw [decide_eq_false hWq]
   simp (implicitDefEqProofs:=false) (disch:=omega) [gz,b1173_3,b1173_4,wrap64,hr,nth_map,hXi,hXb,hXl,limR,w1,s1,g1,splice,← hn,← hX]
   refine ⟨by omega,by omega,by omega,by omega,?_⟩
   refine fin_here (by simp) ⟨rfl,?_⟩
   have hF:w2=limF (n+1) (winV W D' q):=limF_uniq hL1 hl1 (by unfold winV; rw [if_neg hWq]; omega)
   rw [← hF,hw2,← hXs,List.map_set]; rfl
theorem bitLen_spec:∀ (x:Nat),0<x→x<2^64→1≤Lib.bitLen x∧2^(Lib.bitLen x-1)≤x∧x<2^Lib.bitLen x:=by
 intro x
 induction x using Nat.strongRecOn with
 | _ x ih =>
  intro h0 h1
  rw [Lib.bitLen_half x (by omega) h1]
  by_cases h:x / 2=0
  ·have:x=1:=by omega
   subst this
   decide
  ·obtain ⟨a,b,c⟩:=ih (x / 2) (by omega) (by omega) (by omega)
   obtain ⟨k,hk⟩:∃ k,Lib.bitLen (x / 2)=k+1:=⟨Lib.bitLen (x / 2)-1,by omega⟩
   rw [hk] at b c ⊢
   rw [Nat.add_sub_cancel] at b
   refine ⟨by omega,?_,?_⟩
   ·rw [Nat.add_sub_cancel_left,Nat.pow_succ]; omega
   ·rw [Nat.add_comm 1,Nat.pow_succ]; omega
theorem lead_spec {x:Nat} (h0:0<x) (h1:x<4294967296):Lib.bitLen x≤32∧1≤Lib.bitLen x∧2147483648≤x*2^(32-Lib.bitLen x)∧(x+1)*2^(32-Lib.bitLen x)≤4294967296:=by
 obtain ⟨a,b,c⟩:=bitLen_spec x h0 (by omega)
 have hle:Lib.bitLen x≤32:=Lib.bitLen_le x 32 (by decide) h1
 refine ⟨hle,a,?_,?_⟩
 ·have h2:2^(Lib.bitLen x-1)*2^(32-Lib.bitLen x)≤x*2^(32-Lib.bitLen x):=Nat.mul_le_mul_right _ b
  rw [← Nat.pow_add,show Lib.bitLen x-1+(32-Lib.bitLen x)=31 by omega] at h2
  exact h2
 ·have h2:(x+1)*2^(32-Lib.bitLen x)≤2^Lib.bitLen x*2^(32-Lib.bitLen x):=Nat.mul_le_mul_right _ c
  rw [← Nat.pow_add,show Lib.bitLen x+(32-Lib.bitLen x)=32 by omega] at h2
  exact h2
theorem limF_drop {M k n:Nat}:(limF M n).drop k=limF (M-k) (n / 4294967296^k):=by
 apply List.ext_getElem
 ·rw [List.length_drop,limF_len,limF_len]
 ·intro j h1 h2
  rw [List.getElem_drop,limF_get,limF_get]
  unfold digN
  rw [Nat.pow_add,Nat.div_div_eq_div_mul]
theorem limF_app {a b n:Nat}:limF (a+b) n=limF a n ++ limF b (n / 4294967296^a):=by
 have:=List.take_append_drop a (limF (a+b) n)
 rw [limF_take (by omega),limF_drop,Nat.add_sub_cancel_left] at this
 exact this.symm
theorem split3 {k n t v:Nat}:limF (k+(n+1)+t) v=midL (limF k v) (limF (n+1) (v / 4294967296^k)) (limF t (v / 4294967296^k / 4294967296^(n+1))):=by
 unfold midL
 rw [limF_app,limF_app,Nat.pow_add,Nat.div_div_eq_div_mul]
theorem long_dig {N D k n:Nat} (hD:0<D) (hDn:D<4294967296^n) :
  N % (D*4294967296^(k+1)) / 4294967296^k<D*4294967296 ∧
   N % (D*4294967296^(k+1)) / 4294967296^k / D=digN (N / D) k ∧
   ∀ t,midL (limF k (N % (D*4294967296^(k+1)))) (limF (n+1) (N % (D*4294967296^(k+1)) / 4294967296^k % D)) (limF t (N % (D*4294967296^(k+1)) / 4294967296^k / 4294967296^(n+1)))=limF (k+(n+1)+t) (N % (D*4294967296^k)):=by
 obtain ⟨P,hP⟩:∃ P,P=4294967296^k:=⟨_,rfl⟩
 have hP0:0<P:=by rw [hP]; exact Bpow_pos k
 have hPs:4294967296^(k+1)=P*4294967296:=by rw [hP,Nat.pow_succ]
 rw [hPs,← hP]
 obtain ⟨v,hv⟩:∃ v,v=N % (D*(P*4294967296)):=⟨_,rfl⟩
 obtain ⟨t0,ht0⟩:∃ t0,t0=N / (D*(P*4294967296)):=⟨_,rfl⟩
 have hN:N=D*(P*4294967296)*t0+v:=by rw [hv,ht0]; exact (Nat.div_add_mod _ _).symm
 have hvl:v<D*(P*4294967296):=by rw [hv]; exact Nat.mod_lt _ (Nat.mul_pos hD (Nat.mul_pos hP0 (by decide)))
 rw [← hv]
 obtain ⟨W,hW⟩:∃ W,W=v / P:=⟨_,rfl⟩
 obtain ⟨v0,hv0⟩:∃ v0,v0=v % P:=⟨_,rfl⟩
 have hvW:v=P*W+v0:=by rw [hW,hv0]; exact (Nat.div_add_mod _ _).symm
 have hv0l:v0<P:=by rw [hv0]; exact Nat.mod_lt _ hP0
 have hWl:W<D*4294967296:=by
  rw [hW]
  apply Nat.div_lt_of_lt_mul
  have:P*(D*4294967296)=D*(P*4294967296):=by rw [Nat.mul_left_comm]
  rw [this]; exact hvl
 rw [← hW]
 obtain ⟨q,hq⟩:∃ q,q=W / D:=⟨_,rfl⟩
 obtain ⟨w,hw⟩:∃ w,w=W % D:=⟨_,rfl⟩
 have hWq:W=D*q+w:=by rw [hq,hw]; exact (Nat.div_add_mod _ _).symm
 have hwl:w<D:=by rw [hw]; exact Nat.mod_lt _ hD
 have hql:q<4294967296:=by rw [hq]; exact Nat.div_lt_of_lt_mul hWl
 rw [← hq,← hw]
 have hN2:N=D*P*(4294967296*t0+q)+(P*w+v0):=by
  rw [hN,hvW,hWq]
  have e1:D*(P*4294967296)*t0=D*P*(4294967296*t0):=by rw [← Nat.mul_assoc D P,Nat.mul_assoc (D*P)]
  have e2:P*(D*q+w)=D*P*q+P*w:=by rw [Nat.mul_add,← Nat.mul_assoc,Nat.mul_comm P D]
  rw [e1,e2,Nat.mul_add]; omega
 have hrem:P*w+v0<D*P:=by
  have:P*(w+1)≤P*D:=Nat.mul_le_mul_left _ hwl
  rw [Nat.mul_add,Nat.mul_one,Nat.mul_comm P D] at this; omega
 have hDP:0<D*P:=Nat.mul_pos hD hP0
 have hmod:N % (D*P)=P*w+v0:=by
  rw [hN2,Nat.mul_add_mod,Nat.mod_eq_of_lt hrem]
 have hdiv:N / (D*P)=4294967296*t0+q:=by
  rw [hN2,Nat.mul_add_div hDP,Nat.div_eq_of_lt hrem,Nat.add_zero]
 refine ⟨hWl,?_,fun t=>?_⟩
 ·unfold digN
  rw [← hP,Nat.div_div_eq_div_mul,hdiv,Nat.mul_add_mod,Nat.mod_eq_of_lt hql]
 ·rw [hmod]
  have hz:W / 4294967296^(n+1)=0:=by
   apply Nat.div_eq_of_lt
   have:D*4294967296≤4294967296^n*4294967296:=Nat.mul_le_mul (Nat.le_of_lt hDn) (Nat.le_refl 4294967296)
   rw [Nat.pow_succ]
   exact Nat.lt_of_lt_of_le hWl this
  have hz2:w / 4294967296^(n+1)=0:=by
   apply Nat.div_eq_of_lt
   have:4294967296^n≤4294967296^(n+1):=Nat.pow_le_pow_right (by decide) (by omega)
   exact Nat.lt_of_lt_of_le hwl (Nat.le_trans (Nat.le_of_lt hDn) this)
  have e1:limF k v=limF k (P*w+v0):=by
   rw [limF_mod (n:=v),limF_mod (n:=P*w+v0),← hP,hvW,Nat.mul_add_mod,Nat.mul_add_mod]
  have e2:(P*w+v0) / 4294967296^k=w:=by
   rw [← hP,Nat.mul_add_div hP0,Nat.div_eq_of_lt hv0l,Nat.add_zero]
  rw [split3,e2,hz,hz2,e1]
def leadZ (x:Nat):Nat:=32-Lib.bitLen x
theorem k1171 (x:Nat) (h:x<4294967296):ACalls Tryz.prog G0 171 [U4 x] [] fun t H=>t = .int .i64 (leadZ x:Nat)∧H=[]:=by
 refine (kLead (x:Int) (by omega) (by omega) []).mono ?_
 rintro t H ⟨rfl,rfl⟩
 refine ⟨?_,rfl⟩
 have:Lib.bitLen x≤32:=Lib.bitLen_le x 32 (by decide) h
 rw [Int.toNat_natCast]
 unfold leadZ
 congr 4; omega
noncomputable def x1171:XE:=mkX true (fun (x:Nat)=>[.c (.v (.int .u32 (x:Int)))]) (fun x=>x<4294967296) (fun x=>.int .i64 (leadZ x:Nat))
theorem kx1171:Contract Tryz.prog G0 171 x1171:=mkX_scal (fun _=>rfl) fun x h=>k1171 x h
theorem xg1171 (x:Nat) (h:x<4294967296):x1171.g [.c (.v (.int .u32 (x:Int)))]=some (True,.int .i64 (leadZ x:Nat)):=mkX_g (fun a b h=>by simp at h; omega) x h
abbrev longT (l d:List Nat):T:=.tup [.c (.d (.sl ((limF (l.length+1-d.length) (Nv.valL l / Nv.valL d)).map limR))),.c (.d (.sl ((limF d.length (Nv.valL l % Nv.valL d)).map limR)))]
theorem k1161 (l d:List Nat) (hl:l.length<1073741823) (hL:Nv.Lim l) (hd:Nv.Lim d) (hn2:2≤d.length) (hdl:d.length≤l.length) (htop:0<nth d (d.length-1)) (H:List O) :
  ACalls Tryz.prog G0 161 [.c (.d (.sl (l.map limR))),.c (.d (.sl (d.map limR)))] H fun t H'=>t=longT l d∧H'=H:=by
 have s1:x1171.sc=true:=rfl
 have s2:x1174.sc=false:=rfl
 refine acallsX (X:=[(171,x1171),(174,x1174)]) ⟨kx1171,kx1174,trivial⟩ tab hmix Tryz.func161 c1161 (by rfl) fun hw=>?_
 obtain ⟨n,hn⟩:∃ n,n=d.length:=⟨_,rfl⟩
 obtain ⟨m,hm⟩:∃ m,m=l.length:=⟨_,rfl⟩
 obtain ⟨top0,htop0⟩:∃ t,nth d (n-1)=t:=⟨_,rfl⟩
 rw [← hn,htop0] at htop
 rw [← hn] at hn2
 have hn1:n-1<d.length:=by omega
 have htb:top0<4294967296:=by rw [← htop0,nth_eq hn1]; exact hd _ (List.getElem_mem hn1)
 have g1:=xg1171 top0 htb
 obtain ⟨hb1,hb2,hb3,hb4⟩:=lead_spec htop htb
 obtain ⟨s,hs⟩:∃ s,s=leadZ top0:=⟨_,rfl⟩
 have hse:s=32-Lib.bitLen top0:=by rw [hs]; rfl
 rw [← hse] at hb3 hb4
 rw [← hs] at g1
 have hs32:s<32:=by omega
 unfold longT
 rw [← hn,← hm]
 rw [← hm] at hl
 rw [← hn,← hm] at hdl
 have hni:(n:Int)-1=((n-1:Nat):Int):=by omega
 simp (implicitDefEqProofs:=false) (disch:=omega) [gz,ir1161,b1161,b1161_0,b1161_1,b1161_2,wrap64,← hn,hni,nth_map,htop0,hn1,limR,s1,g1]
 refine ⟨by omega,(k1172 d s (by omega) hd hs32 H).mono ?_⟩
 rintro t H' ⟨rfl,rfl⟩
 rw [← hn]
 obtain ⟨D',hD'⟩:∃ D',D'=Nv.valL d*2^s:=⟨_,rfl⟩
 obtain ⟨N,hN⟩:∃ N,N=Nv.valL l*2^s:=⟨_,rfl⟩
 have h2s:0<2^s:=Nat.pow_pos (by decide)
 have hsp:Nv.valL d=Nv.valL (d.take (n-1))+4294967296^(n-1)*top0:=by
  conv=>lhs; rw [← List.take_of_length_le (l:=d) (i:=n-1+1) (by omega),Nv.valL_take hn1,← nth_eq hn1,htop0,BLe]
 have hlo:=Nv.valL_lt (l:=d.take (n-1)) fun x hx=>hd x (List.mem_of_mem_take hx)
 rw [List.length_take,Nat.min_eq_left (by omega),BLe] at hlo
 have hDn:D'<4294967296^n:=by
  rw [hD',hsp]
  have h1:Nv.valL (d.take (n-1))+4294967296^(n-1)*top0<4294967296^(n-1)*(top0+1):=by rw [Nat.mul_add,Nat.mul_one]; omega
  have h2:=Nat.mul_lt_mul_of_pos_right h1 h2s
  have h3:4294967296^(n-1)*(top0+1)*2^s≤4294967296^(n-1)*4294967296:=by rw [Nat.mul_assoc]; exact Nat.mul_le_mul_left _ hb4
  rw [← Nat.pow_succ,show (n-1).succ=n by omega] at h3
  exact Nat.lt_of_lt_of_le h2 h3
 have hDtop:2147483648*4294967296^(n-1)≤D':=by
  rw [hD',hsp,Nat.add_mul]
  have h3:4294967296^(n-1)*2147483648≤4294967296^(n-1)*(top0*2^s):=Nat.mul_le_mul_left _ hb3
  rw [← Nat.mul_assoc] at h3
  rw [Nat.mul_comm 2147483648]
  exact Nat.le_trans h3 (Nat.le_add_left _ _)
 have hD0:0<D':=Nat.lt_of_lt_of_le (Nat.mul_pos (by decide) (Bpow_pos _)) hDtop
 obtain ⟨top,htp⟩:∃ top,top=digN D' (n-1):=⟨_,rfl⟩
 have htph:2147483648≤top:=by
  rw [htp]
  unfold digN
  have h1:D' / 4294967296^(n-1)<4294967296:=by
   apply Nat.div_lt_of_lt_mul
   rw [← Nat.pow_succ,show (n-1).succ=n by omega]; exact hDn
  rw [Nat.mod_eq_of_lt h1,Nat.le_div_iff_mul_le (Bpow_pos _)]
  exact hDtop
 have htpb:top<4294967296:=by rw [htp]; exact digN_lt _ _
 have hnt:nth (limF (n+1) D') (n-1)=top:=by rw [nth_limF (by omega),htp]
 have hNm:N<4294967296^(m+1):=by
  have h1:=Nv.valL_lt hL
  rw [← hm,BLe] at h1
  have h2:=pow_le32 hs32
  rw [hN,Nat.pow_succ]
  have h3:Nv.valL l*2^s<4294967296^m*2^s:=Nat.mul_lt_mul_of_pos_right h1 h2s
  have h4:4294967296^m*2^s≤4294967296^m*4294967296:=Nat.mul_le_mul_left _ (by omega)
  exact Nat.lt_of_lt_of_le h3 h4
 have hquo:N / D'=Nv.valL l / Nv.valL d:=by rw [hN,hD',Nat.mul_div_mul_right _ _ h2s]
 have hremd:N % D' / 2^s=Nv.valL l % Nv.valL d:=by
  rw [hN,hD',Nat.mul_mod_mul_right,Nat.mul_div_cancel _ h2s]
 rw [← hquo,← hremd,← hD']
 simp (implicitDefEqProofs:=false) (disch:=omega) [gz,callK,b1161_3,wrap64,limF_len,Nat.add_assoc,← hn]
 refine ⟨by omega,?_⟩
 refine (k1172 l s (by omega) hL hs32 _).mono ?_
 rintro t H' ⟨rfl,rfl⟩
 rw [← hm,← hN]
 obtain ⟨Lq,hLq⟩:∃ Lq,Lq=m+1-n:=⟨_,rfl⟩
 have hLi:(if (m:Int)+1-(n:Int)<0 then (0:Int) else (m:Int)+1-(n:Int))=(Lq:Int):=by rw [if_neg (by omega)]; omega
 rw [← hLq]
 have hF:nth ((limF (n+1) D').map limR) (n-1)=[D.v (.int .u32 (top:Int))]:=by rw [nth_map limR (by rw [limF_len]; omega),hnt]; rfl
 simp (implicitDefEqProofs:=false) (disch:=omega) [gz,callK,b1161_4,b1161_5,b1161_6,b1161_7,wrap64,limF_len,Nat.add_assoc,hni,hF,hLi,← hn]
 refine ⟨by omega,by omega,by omega,?_⟩
 have hN0:N % (D'*4294967296^Lq)=N:=by
  apply Nat.mod_eq_of_lt
  have h1:=Nv.valL_lt hL
  rw [← hm,BLe] at h1
  have h2:=pow_le32 hs32
  have h3:N<4294967296^m*2^s:=by rw [hN]; exact Nat.mul_lt_mul_of_pos_right h1 h2s
  have h4:4294967296^m*2^s≤4294967296^m*2147483648:=Nat.mul_le_mul_left _ h2
  have h5:2147483648*4294967296^(n-1)*4294967296^Lq≤D'*4294967296^Lq:=Nat.mul_le_mul_right _ hDtop
  rw [Nat.mul_assoc,← Nat.pow_add,show n-1+Lq=m by omega,Nat.mul_comm] at h5
  exact Nat.lt_of_lt_of_le h3 (Nat.le_trans h4 h5)
 refine loopE (fun k st=>∃ i,i≤Lq∧k=Lq-i ∧
   st=⟨ofL [(0,.v (.c (.os H.length 1 0 (m+1)))),(1,.v (.c (.d (.sl ((limF n D').map limR))))),(6,.int .i64 s),(7,.int .i64 n),(8,.v (U4 top)),(9,.v (.c (.os (H.length+1) 1 0 Lq))),(45,.int .i64 Lq),(46,.int .i64 i)],
    H ++ [.row 1 ((limF (m+1) (N % (D'*4294967296^(Lq-i)))).map limR),.row 1 ((upF Lq (Lq-i) (N / D')).map limR)]⟩)
  (fun st=>AtS [(0,.v (.c (.os H.length 1 0 (m+1)))),(6,.int .i64 s),(7,.int .i64 n),(9,.v (.c (.os (H.length+1) 1 0 Lq)))] (H ++ [.row 1 ((limF (m+1) (N % D')).map limR),.row 1 ((limF Lq (N / D')).map limR)]) st) ?_ ?_ ?_
 ·refine wk_tell 1 (u:=.c (.os H.length 1 0 n)) (p:=.c (.sl ((limF n D').map limR))) (by simp) (by simp [toPV,limF_len,← List.map_take,limF_take]) ?_
  rw [show frz (H ++ [O.row 1 ((limF (n+1) D').map limR),.row 1 ((limF (m+1) N).map limR),.row 1 (List.replicate Lq [D.v (.int .u32 0)])]) (V.cells (.c (.os H.length 1 0 n)))=H ++ [O.frow 1 ((limF (n+1) D').map limR),.row 1 ((limF (m+1) N).map limR),.row 1 (List.replicate Lq [D.v (.int .u32 0)])] from by simp [frz,frz1,V.cells]]
  refine wk_pre [1,2] [0,1,6,7,8,9,45,46] hw rfl ⟨_,0,by omega,rfl,?_⟩
  rw [Nat.sub_zero,hN0,upF_none,← rep_limR]
  simp [phiP,phi,O.ren,show ¬ (H.length+1<H.length) from by omega,show ¬ (H.length+2<H.length) from by omega]
  try rfl
 ·rintro J L hJ hJL k st ⟨i,hi,rfl,rfl⟩
  by_cases hlt:i<Lq
  ·obtain ⟨q,hq⟩:∃ q,q=Lq-(i+1):=⟨_,rfl⟩
   have hq1:Lq-i=q+1:=by omega
   have hqL:q<Lq:=by omega
   have hqi:((Lq:Int)-1-(i:Int))=(q:Int):=by omega
   rw [hq1]
   obtain ⟨v,hv⟩:∃ v,v=N % (D'*4294967296^(q+1)):=⟨_,rfl⟩
   obtain ⟨e1,e2,e3⟩:=long_dig (N:=N) (k:=q) hD0 hDn
   rw [← hv] at e1 e2 e3
   obtain ⟨W,hW⟩:∃ W,W=v / 4294967296^q:=⟨_,rfl⟩
   rw [← hW] at e1 e2 e3
   obtain ⟨R,hR⟩:∃ R,R=limF (m+1) v:=⟨_,rfl⟩
   have hRl:R.length=m+1:=by rw [hR,limF_len]
   obtain ⟨tl,htl⟩:∃ tl,tl=m+1-(q+(n+1)):=⟨_,rfl⟩
   have hm1:m+1=q+(n+1)+tl:=by omega
   have hRs:R=midL (limF q v) (limF (n+1) W) (limF tl (W / 4294967296^(n+1))):=by rw [hR,hm1,split3,← hW]
   obtain ⟨w,hw0⟩:∃ w,w=limF (n+1) W:=⟨_,rfl⟩
   have hwl:w.length=n+1:=by rw [hw0,limF_len]
   have hwL:Nv.Lim w:=by rw [hw0]; exact limF_lim _ _
   have hWB:W<4294967296^(n+1):=by
    rw [Nat.pow_succ]
    exact Nat.lt_trans e1 (Nat.mul_lt_mul_of_pos_right hDn (by decide))
   have hwv:Nv.valL w=W:=by rw [hw0,limF_small hWB]
   have hRw:∀ j,j<n+1→nth R (q+j)=nth w j:=fun j hj=>by
    rw [hRs,← hw0]
    have:=midL_nth (pre:=limF q v) (w:=w) (post:=limF tl (W / 4294967296^(n+1))) (i:=j) (by omega)
    rw [limF_len] at this
    exact this
   obtain ⟨wn,hwn⟩:∃ x,nth w n=x:=⟨_,rfl⟩
   obtain ⟨w1,hw1⟩:∃ x,nth w (n-1)=x:=⟨_,rfl⟩
   obtain ⟨w2,hw2⟩:∃ x,nth w (n-2)=x:=⟨_,rfl⟩
   have hnb:∀ j,j<n+1→nth w j<4294967296:=fun j hj=>by rw [nth_eq (by omega)]; exact hwL _ (List.getElem_mem (by omega))
   have bwn:wn<4294967296:=by rw [← hwn]; exact hnb _ (by omega)
   have bw1:w1<4294967296:=by rw [← hw1]; exact hnb _ (by omega)
   have bw2:w2<4294967296:=by rw [← hw2]; exact hnb _ (by omega)
   obtain ⟨nxt,hnx⟩:∃ x,nth (limF n D') (n-2)=x:=⟨_,rfl⟩
   have bnx:nxt<4294967296:=by rw [← hnx,nth_limF (by omega)]; exact digN_lt _ _
   have a0:nth R (q+n)=wn:=by rw [hRw n (by omega),hwn]
   have a1:nth R (q+(n-1))=w1:=by rw [hRw _ (by omega),hw1]
   have a2:nth R (q+(n-2))=w2:=by rw [hRw _ (by omega),hw2]
   have hlt0:q+n<R.length:=by omega
   have hi1:((q:Int)+(n:Int)-1)=((q+(n-1):Nat):Int):=by omega
   have hor:=u64or (a:=wn) (b:=w1) bwn bw1
   obtain ⟨front,hfr⟩:∃ f,f=wn*4294967296+w1:=⟨_,rfl⟩
   rw [← hfr] at hor
   have hfb:front<18446744073709551616:=by omega
   have wtop:=u64w (n:=top) (by omega)
   have w1w:=u64w (n:=w1) (by omega)
   have wnw:=u64w (n:=wn) (by omega)
   have hdv:IntKind.u64.wrap ((front:Int).tdiv (top:Int))=((front / top:Nat):Int):=by
    rw [← Int.ofNat_tdiv,u64w]
    exact Nat.lt_of_le_of_lt (Nat.div_le_self _ _) hfb
   have hdv':IntKind.u64.wrap ((front:Int) / (top:Int))=((front / top:Nat):Int):=by
    rw [← Int.natCast_ediv,u64w]
    exact Nat.lt_of_le_of_lt (Nat.div_le_self _ _) hfb
   have hmd:(front:Int).tmod (top:Int)=((front % top:Nat):Int):=(Int.ofNat_tmod _ _).symm
   obtain ⟨q0,hq0⟩:∃ x,x=front / top:=⟨_,rfl⟩
   obtain ⟨r0,hr0⟩:∃ x,x=front % top:=⟨_,rfl⟩
   rw [← hq0] at hdv hdv'
   rw [← hr0] at hmd
   have htop0':¬ (top:Int)=0:=by omega
   have htop0'':¬ top=0:=by omega
   have hqnT:((q:Int)+(n:Int)).toNat=q+n:=by omega
   have hqn1T:((q:Int)+((n-1:Nat):Int)).toNat=q+(n-1):=by omega
   have hlt1:q+(n-1)<R.length:=by omega
   have hWin:Nv.Win W D' (Nv.BL^(n-2)) top nxt front w2:=by
    have h:=Nv.Win.of_lists (u:=w) (d:=limF n D') hn2 hwL (limF_lim _ _) hwl (limF_len _ _) (by rw [limF_get,← htp,BLe]; omega) (by rw [hwv,limF_small hDn,BLe]; exact e1)
    rw [hwv,limF_small hDn,limF_get,limF_get,← htp,← nth_limF (k:=n) (by omega),hnx,← nth_eq (l:=w),← nth_eq (l:=w),← nth_eq (l:=w),hwn,hw1,hw2,BLe,← hfr] at h
    exact h
   rw [← hv,← hR]
   simp (implicitDefEqProofs:=false) (disch:=omega) [gz,hqnT,hqn1T,hlt1,hlt,wrap64,hqi,hlt0,nth_map,a0,a1,hi1,limR,wtop,w1w,wnw,hor,hdv,hdv',hmd,htop0',htop0'',hRl,Nat.add_assoc,-BitVec.toNat_or,-BitVec.toNat_ofInt,-BitVec.ofInt_natCast,-BitVec.toNat_ofNat]
   repeat' (with_reducible apply And.intro)
   all_goals first | omega | kernel_rfl | skip
   refine loopE (fun k st=>∃ qh rh,k=qh∧qh*top+rh=front∧W / D'≤qh∧rh<4294967296∧qh≤q0 ∧
     st=⟨ofL [(0,.v (.c (.os H.length 1 0 (m+1)))),(1,.v (.c (.d (.sl ((limF n D').map limR))))),(6,.int .i64 s),(7,.int .i64 n),(8,.v (U4 top)),(9,.v (.c (.os (H.length+1) 1 0 Lq))),(11,.int .i64 q),(13,.v (U8 qh)),(14,.v (U8 rh)),(45,.int .i64 Lq),(46,.int .i64 i)],
      H ++ [.row 1 (R.map limR),.row 1 ((upF Lq (q+1) (N / D')).map limR)]⟩)
    (fun st=>∃ qh,qh<4294967296∧(qh=W / D'∨qh=W / D'+1)∧AtS [(0,.v (.c (.os H.length 1 0 (m+1)))),(1,.v (.c (.d (.sl ((limF n D').map limR))))),(6,.int .i64 s),(7,.int .i64 n),(8,.v (U4 top)),(9,.v (.c (.os (H.length+1) 1 0 Lq))),(11,.int .i64 q),(13,.v (U8 qh)),(45,.int .i64 Lq),(46,.int .i64 i)] (H ++ [.row 1 (R.map limR),.row 1 ((upF Lq (q+1) (N / D')).map limR)]) st) ?_ ?_ ?_
   ·refine wk_keep [0,1,6,7,8,9,11,13,14,45,46] ⟨_,q0,r0,rfl,by rw [hq0,hr0,Nat.mul_comm]; exact Nat.div_add_mod _ _,by rw [hq0]; exact hWin.le0 (Nat.div_mul_le_self _ _),?_,Nat.le_refl _,?_⟩
    ·rw [hr0]; exact Nat.lt_trans (Nat.mod_lt _ (by omega)) htpb
    ·simp
   ·rintro J' L' hJ' hL' k' st ⟨qh,rh,rfl,hqr,hk,hrb,hq0b,rfl⟩
    have hq33:q0<8589934593:=by
     rw [hq0]
     exact Nat.lt_of_le_of_lt (Nat.div_le_div_left htph (by decide)) (by omega)
    have fin2:(4294967295<k'∨rh*4294967296+w2<k'*nxt)→1≤k'∧(k'-1)*top+(rh+top)=front∧W / D'≤k'-1:=fun hc=>by
     have h1:1≤k':=by
      apply Classical.byContradiction
      intro h0
      have:k'=0:=by omega
      subst this
      rcases hc with hc | hc
      ·omega
      ·rw [Nat.zero_mul] at hc; omega
     have h2:(k'-1)*top+top=k'*top:=by
      obtain ⟨z,rfl⟩:∃ z,k'=z+1:=⟨k'-1,by omega⟩
      rw [Nat.add_sub_cancel,Nat.add_mul,Nat.one_mul]
     refine ⟨h1,by omega,?_⟩
     exact hWin.le hqr (Nat.div_mul_le_self _ _) hk (by
      rcases hc with hc | hc
      ·left; rw [BLe]; omega
      ·right; rw [BLe]; exact hc)
    have wqm:∀ h:1≤k',IntKind.u64.wrap ((k':Int)-1)=((k'-1:Nat):Int):=fun h=>by
     have:(k':Int)-1=((k'-1:Nat):Int):=by omega
     rw [this,u64w (by omega)]
    have wrt:IntKind.u64.wrap ((rh:Int)+(top:Int))=((rh+top:Nat):Int):=by
     have:(rh:Int)+(top:Int)=((rh+top:Nat):Int):=by omega
     rw [this,u64w (by omega)]
    obtain ⟨rt,hrt⟩:∃ rt,rt=rh+top:=⟨_,rfl⟩
    rw [← hrt] at wrt fin2
    by_cases c1:4294967295<k'
    ·have c1':(4294967295:Int)<(k':Int):=by omega
     obtain ⟨h1,h2,h3⟩:=fin2 (.inl c1)
     have wqm:=wqm h1
     obtain ⟨qm,hqm⟩:∃ qm,qm=k'-1:=⟨_,rfl⟩
     rw [← hqm] at wqm h2 h3
     by_cases c3:4294967295<rt
     ·have c3':(4294967295:Int)<(rt:Int):=by omega
      obtain ⟨h4,h5⟩:=hWin.digit hD0 h2 h3 (.inr (by rw [BLe]; omega))
      simp (implicitDefEqProofs:=false) (disch:=omega) [gz,c1',c3',wqm,wrt,wtop,wrap64]
      repeat' (with_reducible apply And.intro)
      all_goals first | omega | kernel_rfl | skip
      subst hL'
      exact ⟨qm,by rw [BLe] at h4; exact h4,h5,at_mk (by simp) rfl⟩
     ·have c3':¬ (4294967295:Int)<(rt:Int):=by omega
      simp (implicitDefEqProofs:=false) (disch:=omega) [gz,c1',c3',wqm,wrt,wtop,wrap64]
      repeat' (with_reducible apply And.intro)
      all_goals first | omega | kernel_rfl | skip
      subst hJ'
      refine wk_keep [0,1,6,7,8,9,11,13,14,45,46] ⟨qm,by omega,qm,rt,rfl,h2,h3,by omega,by omega,?_⟩
      simp
    ·have c1':¬ (4294967295:Int)<(k':Int):=by omega
     have hpl:k'*nxt≤4294967295*4294967295:=Nat.mul_le_mul (by omega) (by omega)
     obtain ⟨p1,hp1⟩:∃ p1,p1=k'*nxt:=⟨_,rfl⟩
     have w7:IntKind.u64.wrap ((k':Int)*(nxt:Int))=(p1:Int):=by
      have e:(k':Int)*(nxt:Int)=((k'*nxt:Nat):Int):=by simp
      rw [e,u64w (by omega),hp1]
     have hor2:=u64or (a:=rh) (b:=w2) hrb bw2
     obtain ⟨p2,hp2⟩:∃ p2,p2=rh*4294967296+w2:=⟨_,rfl⟩
     rw [← hp2] at hor2 fin2
     rw [← hp1] at fin2
     have hn2i:(n:Int)-2=((n-2:Nat):Int):=by omega
     have hG:nth ((limF n D').map limR) (n-2)=[D.v (.int .u32 (nxt:Int))]:=by rw [nth_map limR (by rw [limF_len]; omega),hnx]; rfl
     have hi2:((q:Int)+(n:Int)-2)=(q:Int)+((n-2:Nat):Int):=by omega
     have hqn2T:((q:Int)+((n-2:Nat):Int)).toNat=q+(n-2):=by omega
     have hlt2:q+(n-2)<R.length:=by omega
     have wnx:=u64w (n:=nxt) (by omega)
     have ww2:=u64w (n:=w2) (by omega)
     by_cases c2:p2<p1
     ·have c2':(p2:Int)<(p1:Int):=by omega
      obtain ⟨h1,h2,h3⟩:=fin2 (.inr c2)
      have wqm:=wqm h1
      obtain ⟨qm,hqm⟩:∃ qm,qm=k'-1:=⟨_,rfl⟩
      rw [← hqm] at wqm h2 h3
      by_cases c3:4294967295<rt
      ·have c3':(4294967295:Int)<(rt:Int):=by omega
       obtain ⟨h4,h5⟩:=hWin.digit hD0 h2 h3 (.inr (by rw [BLe]; omega))
       simp (implicitDefEqProofs:=false) (disch:=omega) [gz,c1',c3',c2',wqm,wrt,wtop,wrap64,w7,hor2,hn2i,hG,hi2,hqn2T,hlt2,wnx,ww2,nth_map,a2,limR,limF_len,hRl,-BitVec.toNat_or,-BitVec.toNat_ofInt,-BitVec.ofInt_natCast,-BitVec.toNat_ofNat]
       repeat' (with_reducible apply And.intro)
       all_goals first | omega | kernel_rfl | skip
       subst hL'
       exact ⟨qm,by rw [BLe] at h4; exact h4,h5,at_mk (by simp) rfl⟩
      ·have c3':¬ (4294967295:Int)<(rt:Int):=by omega
       simp (implicitDefEqProofs:=false) (disch:=omega) [gz,c1',c3',c2',wqm,wrt,wtop,wrap64,w7,hor2,hn2i,hG,hi2,hqn2T,hlt2,wnx,ww2,nth_map,a2,limR,limF_len,hRl,-BitVec.toNat_or,-BitVec.toNat_ofInt,-BitVec.ofInt_natCast,-BitVec.toNat_ofNat]
       repeat' (with_reducible apply And.intro)
       all_goals first | omega | kernel_rfl | skip
       subst hJ'
       refine wk_keep [0,1,6,7,8,9,11,13,14,45,46] ⟨qm,by omega,qm,rt,rfl,h2,h3,by omega,by omega,?_⟩
       simp
     ·have c2':¬ (p2:Int)<(p1:Int):=by omega
      obtain ⟨h4,h5⟩:=hWin.digit hD0 hqr hk (.inl ⟨by rw [BLe]; omega,by rw [BLe]; omega⟩)
      simp (implicitDefEqProofs:=false) (disch:=omega) [gz,c1',c2',wrap64,w7,hor2,hn2i,hG,hi2,hqn2T,hlt2,wnx,ww2,nth_map,a2,limR,limF_len,hRl,-BitVec.toNat_or,-BitVec.toNat_ofInt,-BitVec.ofInt_natCast,-BitVec.toNat_ofNat]
      repeat' (with_reducible apply And.intro)
      all_goals first | omega | kernel_rfl | skip
      subst hL'
      exact ⟨k',by rw [BLe] at h4; exact h4,h5,at_mk (by simp) rfl⟩
   ·rintro _ ⟨qh,hqb,hqc,sl,rfl⟩
    have wqh:=u32w hqb
    have hT1:((q:Int)+(n:Int)+1).toNat-q=n+1:=by omega
    have hq3:W / D'*D'+W % D'=W:=by rw [Nat.mul_comm]; exact Nat.div_add_mod _ _
    have hq4:(W / D'+1)*D'=W / D'*D'+D':=by rw [Nat.add_mul,Nat.one_mul]
    have hq5:W % D'<D':=Nat.mod_lt _ hD0
    obtain ⟨z,hz⟩:∃ z,z=W / D':=⟨_,rfl⟩
    rw [← hz] at hqc hq3 hq4 e2
    have hok:(qh-1)*D'≤W:=by
     have:(qh-1)*D'≤z*D':=Nat.mul_le_mul_right _ (by omega)
     omega
    have hwin:winV W D' qh=W % D'∧(W<qh*D'→qh-1=z)∧(¬ W<qh*D'→qh=z):=by
     unfold winV
     rcases hqc with e | e
     ·subst e
      rw [if_neg (by omega)]
      exact ⟨by omega,fun q=>absurd q (by omega),fun _=>rfl⟩
     ·subst e
      rw [if_pos (by omega),Nat.add_sub_cancel]
      exact ⟨by omega,fun _=>rfl,fun q=>absurd (by omega) q⟩
    obtain ⟨hwin1,hwin2,hwin3⟩:=hwin
    obtain ⟨out,hout⟩:∃ o,o=upF Lq (q+1) (N / D'):=⟨_,rfl⟩
    have houtl:out.length=Lq:=by rw [hout,upF_len]
    have hnext:out.set q z=upF Lq q (N / D'):=by rw [hout,e2,upF_set]
    have hzb:z<4294967296:=by omega
    rw [← hout]
    have hcall:=k1173 (limF q v) w (limF tl (W / 4294967296^(n+1))) (limF n D') qh H.length (H ++ [O.row 1 (R.map limR),.row 1 (out.map limR)]) (by simp) (limF_lim _ _) hwL (by rw [limF_len,hwl]) (by rw [midL_len,limF_len,limF_len,hwl]; omega) hqb (by rw [limF_small hDn,hwv]; exact hok)
    rw [limF_len,limF_len,limF_small hDn,hwv,hwin1,e3 tl,← hm1] at hcall
    have hH0:(H ++ [O.row 1 (R.map limR),.row 1 (out.map limR)]).set H.length (O.row 1 ((midL (limF q v) w (limF tl (W / 4294967296^(n+1)))).map limR))=H ++ [O.row 1 (R.map limR),.row 1 (out.map limR)]:=by
     rw [hw0,← hRs,app_set0]; rfl
    have hH1:(H ++ [O.row 1 (R.map limR),.row 1 (out.map limR)]).set H.length (O.row 1 ((limF (m+1) (N % (D'*4294967296^q))).map limR))=H ++ [O.row 1 ((limF (m+1) (N % (D'*4294967296^q))).map limR),.row 1 (out.map limR)]:=by
     rw [app_set0]; rfl
    rw [hH0,hH1] at hcall
    simp (implicitDefEqProofs:=false) (disch:=omega) [gz,wrap64,wqh,hT1]
    refine ⟨by omega,hcall.mono ?_⟩
    rintro t H' ⟨rfl,rfl⟩
    by_cases hc:W<qh*D'
    ·have hqz:=hwin2 hc
     have hqm1:(qh:Int)-1=(z:Int):=by
      have:qh≠0:=by
       intro h0
       rw [h0,Nat.zero_mul] at hc; omega
      omega
     have wz:=u64w (n:=z) (by omega)
     have wz2:=u32w hzb
     rw [decide_eq_true hc]
     simp (implicitDefEqProofs:=false) (disch:=omega) [gz,callK,wrap64,hqm1,wz,wz2,hqL,houtl,limR,splice,nth_map,Nat.add_assoc]
     subst hJ
     refine wk_pre [0,1] [0,1,6,7,8,9,45,46] hw rfl ⟨q,by omega,i+1,by omega,hq,?_⟩
     rw [← hq,← hnext]
     simp [phiP,phi,O.ren,List.map_set,limR,show ¬ (H.length+1<H.length) from by omega]
    ·have hqz:=hwin3 hc
     rw [hqz] at wqh
     rw [decide_eq_false hc,hqz]
     simp (implicitDefEqProofs:=false) (disch:=omega) [gz,callK,wrap64,wqh,hqL,houtl,limR,splice,nth_map,Nat.add_assoc]
     subst hJ
     refine wk_pre [0,1] [0,1,6,7,8,9,45,46] hw rfl ⟨q,by omega,i+1,by omega,hq,?_⟩
     rw [← hq,← hnext]
     simp [phiP,phi,O.ren,List.map_set,limR,show ¬ (H.length+1<H.length) from by omega]
  ·have:i=Lq:=by omega
   subst this
   simp (implicitDefEqProofs:=false) (disch:=omega) [gz,hlt]
   subst hJL
   rw [upF_all]
   exact at_mk (by simp) (by simp)
 ·rintro _ ⟨sl,rfl⟩
  have hrb:N % D'<4294967296^n:=Nat.lt_trans (Nat.mod_lt _ hD0) hDn
  have g2:=xg1174 (limF n (N % D')) s (by rw [limF_len]; omega) (limF_lim _ _) hs32
  rw [limF_len,limF_small hrb] at g2
  have ht:((limF (m+1) (N % D')).map limR).take n=(limF n (N % D')).map limR:=by rw [← List.map_take,limF_take (by omega)]
  have hnm:n≤m+1:=by omega
  simp (implicitDefEqProofs:=false) (disch:=omega) [gz,b1161_8,b1161_9,wrap64,s2,g2,ht,hnm,limF_len,toPVs,frzVs,osVs,toPV,Nat.add_assoc]
  refine ⟨by omega,?_⟩
  refine fin_pre_pvs (ps:=[.c (.sl ((limF Lq (N / D')).map limR)),.c (.sl ((limF n (N % D' / 2^s)).map limR))]) (L':=[.frow 1 ((limF (m+1) (N % D')).map limR),.frow 1 ((limF Lq (N / D')).map limR)]) hw ?_ ?_ ⟨rfl,rfl⟩
  ·simp [toPVs,toPV,toD,take_of_len,limF_len]
  ·simp [frzVs,frz,frz1,V.cells]
noncomputable def x1157:XE:=mkX false (fun (s:ByteArray)=>[.c (.v (.string s))]) (fun s=>s.size<4611686018) (fun s=>.v (.c (.d (.sl ((limN (nV s)).map limR)))))
theorem kx1157:Contract Tryz.prog G0 157 x1157:=mkX_data fun s h H=>own_data (k1157 s h H)
theorem xg1157 (s:ByteArray) (h:s.size<4611686018):x1157.g [.c (.v (.string s))]=some (True,.v (.c (.d (.sl ((limN (nV s)).map limR))))):=mkX_g inj1s s h
def okLong (p:List Nat×List Nat):Prop:=p.1.length<1073741823∧Nv.Lim p.1∧Nv.Lim p.2∧2≤p.2.length∧p.2.length≤p.1.length∧0<nth p.2 (p.2.length-1)
theorem injL2 (a b:List Nat×List Nat) (h:[PVo.c (D.sl (a.1.map limR)),PVo.c (D.sl (a.2.map limR))]=[PVo.c (D.sl (b.1.map limR)),PVo.c (D.sl (b.2.map limR))]):a=b:=by
 simp only [List.cons.injEq,PVo.c.injEq,D.sl.injEq,and_true] at h
 exact Prod.ext (limR_inj h.1) (limR_inj h.2)
noncomputable def x1161:XE:=mkX false (fun (p:List Nat×List Nat)=>[.c (.sl (p.1.map limR)),.c (.sl (p.2.map limR))]) okLong (fun p=>longT p.1 p.2)
theorem kx1161:Contract Tryz.prog G0 161 x1161:=mkX_data fun p h H=>k1161 p.1 p.2 h.1 h.2.1 h.2.2.1 h.2.2.2.1 h.2.2.2.2.1 h.2.2.2.2.2 H
theorem xg1161 (l d:List Nat) (h:okLong (l,d)):x1161.g [.c (.sl (l.map limR)),.c (.sl (d.map limR))]=some (True,longT l d):=mkX_g injL2 (l,d) h
noncomputable def divT (a b:Nat):T:=if b=0 then .tup [.c (.d (.v (.string ⟨#[]⟩))),.c (.d (.v (.string ⟨#[]⟩))),.c (.d (.v (.bool false)))] else .tup [.c (.d (.v (.string (nB (a / b))))),.c (.d (.v (.string (nB (a % b))))),.c (.d (.v (.bool true)))]
theorem divT_sc (a b:Nat):scT (divT a b)=true:=by unfold divT; split <;> rfl
theorem limN_mono {a b:Nat} (h:b≤a):(limN b).length≤(limN a).length:=by
 rw [limN_len,limN_len]
 have:(Nv.digs b).length≤(Nv.digs a).length:=by
  apply Classical.byContradiction
  intro q
  have:=digs_short (a:=a) (b:=b) (by omega)
  omega
 omega
theorem limN_lt (a:Nat):a<4294967296^(limN a).length:=by
 have:=Nv.valL_lt (limN_lim a)
 rw [limN_val,BLe] at this; exact this
theorem limN_size {a:ByteArray} (h:a.size<4000000000):(limN (nV a)).length<1000000001:=by
 rw [limN_len]
 have:=nB_le (s:=a)
 rw [nB_size] at this
 omega
theorem k1139 (a b:ByteArray) (ha:a.size<4000000000) (hb:b.size<4000000000):ACalls Tryz.prog G0 139 [Sx a,Sx b] [] fun t H=>t=divT (nV a) (nV b)∧H=[]:=by
 have s1:x1157.sc=false:=rfl
 have s2:x1158.sc=true:=rfl
 have s3:x1119.sc=true:=rfl
 have s4:x1159.sc=false:=rfl
 have s5:x1160.sc=true:=rfl
 have s6:x1142.sc=true:=rfl
 have s7:x1161.sc=false:=rfl
 have g1a:=xg1157 a (by omega)
 have g1b:=xg1157 b (by omega)
 have g2:=xg1158 a b (by omega) (by omega)
 have g3:=xg1119 a (by omega)
 have hla:=limN_size ha
 have hlb:=limN_size hb
 obtain ⟨U,hU⟩:∃ U,U=nV a:=⟨_,rfl⟩
 obtain ⟨D',hD⟩:∃ D',D'=nV b:=⟨_,rfl⟩
 rw [← hU] at g1a g2 g3 hla ⊢
 rw [← hD] at g1b g2 hlb ⊢
 obtain ⟨l,hl⟩:∃ l,l=limN U:=⟨_,rfl⟩
 obtain ⟨d,hd⟩:∃ d,d=limN D':=⟨_,rfl⟩
 have hlv:Nv.valL l=U:=by rw [hl,limN_val]
 have hdv:Nv.valL d=D':=by rw [hd,limN_val]
 have hlL:Nv.Lim l:=by rw [hl]; exact limN_lim _
 have hdL:Nv.Lim d:=by rw [hd]; exact limN_lim _
 have hUl:U<4294967296^l.length:=by rw [hl]; exact limN_lt _
 have hDl:D'<4294967296^d.length:=by rw [hd]; exact limN_lt _
 have hz:d.length=0↔D'=0:=by rw [hd]; exact limN_zero
 rw [← hl] at g1a hla
 rw [← hd] at g1b hlb
 refine acallsX (X:=[(157,x1157),(158,x1158),(119,x1119),(159,x1159),(160,x1160),(142,x1142),(161,x1161)]) ⟨kx1157,kx1158,kx1119,kx1159,kx1160,kx1142,kx1161,trivial⟩ tab hmix Tryz.func139 c1139 (by rfl) fun hw=>?_
 by_cases c0:D'=0
 ·have hd0:=hz.2 c0
  have hd0':(d.length:Int)=0:=by omega
  unfold divT
  rw [if_pos c0]
  simp (implicitDefEqProofs:=false) (disch:=omega) [gz,ir1139,b1139,wrap64,s1,g1b,hd0,hd0',toPVs,frzVs,osVs,toPV]
  exact fin_nil ⟨rfl,rfl⟩
 ·have hd0:¬ d.length=0:=fun q=>c0 (hz.1 q)
  have hd0':¬ (d.length:Int)=0:=by omega
  unfold divT
  rw [if_neg c0]
  by_cases c1:U<D'
  ·rw [Nat.div_eq_of_lt c1,Nat.mod_eq_of_lt c1,show nB 0=⟨#[]⟩ from Nv.natB_0]
   rw [show cmpN U D' = -1 from by unfold cmpN; rw [if_pos c1]] at g2
   simp (implicitDefEqProofs:=false) (disch:=omega) [gz,ir1139,b1139,wrap64,s1,s2,s3,g1b,g2,g3,hd0,hd0',toPVs,frzVs,osVs,toPV]
   exact fin_nil ⟨rfl,rfl⟩
  ·have hcm:¬ cmpN U D'<0:=by unfold cmpN; rw [if_neg c1]; split <;> decide
   obtain ⟨cm,hcmv⟩:∃ cm,cm=cmpN U D':=⟨_,rfl⟩
   rw [← hcmv] at g2 hcm
   by_cases c2:d.length=1
   ·have c2':(d.length:Int)=1:=by omega
    obtain ⟨x,hx⟩:∃ x,nth d 0=x:=⟨_,rfl⟩
    have hdx:d=[x]:=by
     match d,c2,hx with
     | [y],_,hx=>rw [show y=x from hx]
    have hxD:x=D':=by rw [← hdv,hdx]; simp [Nv.valL]
    have hxb:x<4294967296:=by have:=hdL x (by rw [hdx]; simp); rwa [BLe] at this
    have g4:=xg1159 l x (by omega) hlL (by omega) hxb
    unfold shortT at g4
    rw [hlv] at g4
    have hUx:U / x<4294967296^l.length:=Nat.lt_of_le_of_lt (Nat.div_le_self _ _) hUl
    have g5:=xg1160 (limF l.length (U / x)) (by rw [limF_len]; omega) (limF_lim _ _)
    rw [limF_small hUx] at g5
    have hrx:U % x<x:=Nat.mod_lt _ (by omega)
    have g6:=xg1142 (U % x) (by omega)
    have wr:=u64w (n:=U % x) (by omega)
    have hx0:nth (d.map limR) 0=[D.v (.int .u32 (x:Int))]:=by rw [hdx]; rfl
    have hxl:[D.v (.int .u32 (x:Int))]=limR x:=rfl
    rw [← hxD]
    obtain ⟨rm,hrm⟩:∃ rm,rm=U % x:=⟨_,rfl⟩
    obtain ⟨qu,hqu⟩:∃ qu,qu=U / x:=⟨_,rfl⟩
    rw [← hrm] at g4 g6 wr ⊢
    rw [← hqu] at g4 g5 ⊢
    simp (implicitDefEqProofs:=false) (disch:=omega) [gz,ir1139,b1139,wrap64,s1,s2,s4,s5,s6,g1a,g1b,g2,g4,g5,g6,hd0,hd0',hcm,c2,c2',hx0,wr,toPVs,frzVs,osVs,toPV]
    exact ⟨by kernel_rfl,fin_nil ⟨rfl,rfl⟩⟩
   ·have c2':¬ (d.length:Int)=1:=by omega
    have hdl:d.length≤l.length:=by rw [hl,hd]; exact limN_mono (by omega)
    have htop:0<nth d (d.length-1):=by rw [hd]; exact limN_last c0
    have g4:=xg1161 l d ⟨by show l.length<_; omega,hlL,hdL,by show 2≤d.length; omega,hdl,htop⟩
    unfold longT at g4
    rw [hlv,hdv] at g4
    have hDt:4294967296^(d.length-1)≤D':=by
     have:=limN_top c0
     rw [← hd,BLe] at this; exact this
    have hq:U / D'<4294967296^(l.length+1-d.length):=by
     apply Nat.div_lt_of_lt_mul
     have h1:4294967296^(d.length-1)*4294967296^(l.length+1-d.length)≤D'*4294967296^(l.length+1-d.length):=Nat.mul_le_mul_right _ hDt
     rw [← Nat.pow_add,show d.length-1+(l.length+1-d.length)=l.length by omega] at h1
     exact Nat.lt_of_lt_of_le hUl h1
    have hr:U % D'<4294967296^d.length:=Nat.lt_trans (Nat.mod_lt _ (by omega)) hDl
    have g5:=xg1160 (limF (l.length+1-d.length) (U / D')) (by rw [limF_len]; omega) (limF_lim _ _)
    rw [limF_small hq] at g5
    have g6:=xg1160 (limF d.length (U % D')) (by rw [limF_len]; omega) (limF_lim _ _)
    rw [limF_small hr] at g6
    simp (implicitDefEqProofs:=false) (disch:=omega) [gz,ir1139,b1139,wrap64,s1,s2,s5,s7,g1a,g1b,g2,g4,g5,g6,hd0,hd0',hcm,c2,c2',toPVs,frzVs,osVs,toPV]
    exact fin_nil ⟨rfl,rfl⟩
noncomputable def x1139:XE:=mkX true (fun (p:ByteArray×ByteArray)=>[.c (.v (.string p.1)),.c (.v (.string p.2))]) (fun p=>p.1.size<4000000000∧p.2.size<4000000000) (fun p=>divT (nV p.1) (nV p.2))
theorem kx1139:Contract Tryz.prog G0 139 x1139:=mkX_scal (fun _=>divT_sc _ _) fun p h=>k1139 p.1 p.2 h.1 h.2
theorem xg1139 (a b:ByteArray) (ha:a.size<4000000000) (hb:b.size<4000000000):x1139.g [.c (.v (.string a)),.c (.v (.string b))]=some (True,divT (nV a) (nV b)):=mkX_g inj2s (a,b) ⟨ha,hb⟩
theorem nB_nil {n:Nat}:nB n=⟨#[]⟩↔n=0:=by
 constructor
 ·intro h
  have:=congrArg nV h
  rw [show nV (nB n)=n from Nv.natV_natB n] at this
  exact this
 ·rintro rfl; exact Nv.natB_0
theorem nB_mono {a b:Nat} (h:a≤b):(nB a).size≤(nB b).size:=by
 rw [nB_size,nB_size]
 apply Classical.byContradiction
 intro q
 have:=digs_short (a:=b) (b:=a) (by omega)
 omega
theorem k1137 (a b:ByteArray) (ha:a.size<4000000000) (hb:b.size<4000000000):ACalls Tryz.prog G0 137 [Sx a,Sx b] [] fun t H=>t = .str (nB (Nat.gcd (nV a) (nV b)))∧H=[]:=by
 have s1:x1119.sc=true:=rfl
 have s2:x1156.sc=true:=rfl
 have s3:x1142.sc=true:=rfl
 have s4:x1139.sc=true:=rfl
 refine acallsX (X:=[(119,x1119),(156,x1156),(142,x1142),(139,x1139)]) ⟨kx1119,kx1156,kx1142,kx1139,trivial⟩ tab hmix Tryz.func137 c1137 (by rfl) fun hw=>?_
 obtain ⟨g,hg⟩:∃ g,g=Nat.gcd (nV a) (nV b):=⟨_,rfl⟩
 rw [← hg]
 simp (implicitDefEqProofs:=false) (disch:=omega) [gz,ir1137,b1137,wrap64]
 refine loopE (fun k st=>∃ a' b',k=nV b'∧a'.size<4000000000∧b'.size<4000000000∧Nat.gcd (nV a') (nV b')=g ∧
   st=⟨ofL [(0,.v (.c (.d (.v (.string a'))))),(1,.v (.c (.d (.v (.string b')))))],[]⟩)
  (fun st=>∃ a',a'.size<4000000000∧nV a'=g∧AtS [(0,.v (.c (.d (.v (.string a')))))] [] st) ?_ ?_ ?_
 ·refine wk_keep [0,1] ⟨_,a,b,rfl,ha,hb,hg.symm,?_⟩
  simp
 ·rintro J L hJ hL k st ⟨a',b',rfl,ha',hb',hgg,rfl⟩
  have g1:=xg1119 b' (by omega)
  have g2:=xg1156 a' (by omega)
  have g3:=xg1156 b' (by omega)
  have g4:=xg1139 a' b' ha' hb'
  by_cases c0:nV b'=0
  ·have hn:nB (nV b')=⟨#[]⟩:=nB_nil.2 c0
   rw [hn] at g1
   simp (implicitDefEqProofs:=false) (disch:=omega) [gz,s1,g1,binSF]
   subst hL
   refine ⟨a',ha',?_,at_mk (by simp) rfl⟩
   rw [c0,Nat.gcd_zero_right] at hgg; exact hgg
  ·have hn:¬ nB (nV b')=⟨#[]⟩:=fun q=>c0 (nB_nil.1 q)
   obtain ⟨U,hU⟩:∃ U,U=nV a':=⟨_,rfl⟩
   obtain ⟨D',hD⟩:∃ D',D'=nV b':=⟨_,rfl⟩
   have hbs:=nB_le (s:=b')
   rw [← hD] at g1 g3 g4 c0 hn hgg hbs ⊢
   rw [← hU] at g2 g4 hgg
   unfold divT at g4
   rw [if_neg c0] at g4
   obtain ⟨bs,hbse⟩:∃ bs,bs=nB D':=⟨_,rfl⟩
   rw [← hbse] at g1 hn
   have hlast:∃ k',k'<D'∧J k' ⟨ofL [(0,.v (.c (.d (.v (.string b'))))),(1,.v (.c (.d (.v (.string (nB (U % D')))))))],[]⟩:=by
    subst hJ
    refine ⟨nV (nB (U % D')),?_,b',nB (U % D'),rfl,hb',?_,?_,rfl⟩
    ·rw [show nV (nB (U % D'))=U % D' from Nv.natV_natB _]; exact Nat.mod_lt _ (by omega)
    ·have h1:U % D'≤D':=Nat.le_of_lt (Nat.mod_lt _ (by omega))
     have:=nB_mono h1
     omega
    ·rw [show nV (nB (U % D'))=U % D' from Nv.natV_natB _,← hD,Nat.gcd_comm,← Nat.gcd_rec,Nat.gcd_comm]; exact hgg
   by_cases c1:U<18446744073709551616
   ·rw [show u64T U = .tup [U8 U,.c (.d (.v (.bool true)))] from if_pos c1] at g2
    by_cases c2:D'<18446744073709551616
    ·rw [show u64T D' = .tup [U8 D',.c (.d (.v (.bool true)))] from if_pos c2] at g3
     simp (implicitDefEqProofs:=false) (disch:=omega) [gz,s1,s2,g1,g2,g3,hn,binSF]
     refine loopE (fun k st=>∃ x y,k=y∧x<18446744073709551616∧y<18446744073709551616∧Nat.gcd x y=g ∧
       st=⟨ofL [(5,.v (U8 x)),(7,.v (U8 y))],[]⟩)
      (fun st=>∃ x,x<18446744073709551616∧x=g∧AtS [(5,.v (U8 x))] [] st) ?_ ?_ ?_
     ·refine wk_keep [5,7] ⟨_,U,D',rfl,c1,c2,hgg,by simp⟩
     ·rintro J' L' hJ' hL' k' st ⟨x,y,rfl,hx,hy,hxy,rfl⟩
      by_cases c3:k'=0
      ·subst c3
       simp (implicitDefEqProofs:=false) (disch:=omega) [gz,wrap64]
       subst hL'
       rw [Nat.gcd_zero_right] at hxy
       exact ⟨x,hx,hxy,at_mk (by simp) rfl⟩
      ·have c3':¬ (k':Int)=0:=by omega
       have hm:(x:Int).tmod (k':Int)=((x % k':Nat):Int):=(Int.ofNat_tmod _ _).symm
       obtain ⟨z,hz⟩:∃ z,z=x % k':=⟨_,rfl⟩
       have hzl:z<k':=by rw [hz]; exact Nat.mod_lt _ (by omega)
       rw [← hz] at hm
       simp (implicitDefEqProofs:=false) (disch:=omega) [gz,c3,c3',hm]
       refine ⟨by kernel_rfl,?_⟩
       subst hJ'
       refine wk_keep [5,7] ⟨z,hzl,k',z,rfl,hy,by omega,?_,by simp⟩
       rw [hz,Nat.gcd_comm,← Nat.gcd_rec,Nat.gcd_comm]; exact hxy
     ·rintro _ ⟨x,hx,hxg,sl,rfl⟩
      have g5:=xg1142 x hx
      simp (implicitDefEqProofs:=false) (disch:=omega) [gz,s3,g5]
      rw [← hxg]
      exact fin_nil ⟨rfl,rfl⟩
    ·rw [show u64T D' = .tup [U8 0,.c (.d (.v (.bool false)))] from if_neg c2] at g3
     simp (implicitDefEqProofs:=false) (disch:=omega) [gz,s1,s2,s4,g1,g2,g3,g4,hn,binSF]
     refine wk_keep [0,1] ?_
     simpa using hlast
   ·rw [show u64T U = .tup [U8 0,.c (.d (.v (.bool false)))] from if_neg c1] at g2
    by_cases c2:D'<18446744073709551616
    ·rw [show u64T D' = .tup [U8 D',.c (.d (.v (.bool true)))] from if_pos c2] at g3
     simp (implicitDefEqProofs:=false) (disch:=omega) [gz,s1,s2,s4,g1,g2,g3,g4,hn,binSF]
     refine wk_keep [0,1] ?_
     simpa using hlast
    ·rw [show u64T D' = .tup [U8 0,.c (.d (.v (.bool false)))] from if_neg c2] at g3
     simp (implicitDefEqProofs:=false) (disch:=omega) [gz,s1,s2,s4,g1,g2,g3,g4,hn,binSF]
     refine wk_keep [0,1] ?_
     simpa using hlast
 ·rintro _ ⟨a',ha',hga,sl,rfl⟩
  have g1:=xg1119 a' (by omega)
  rw [hga] at g1
  simp (implicitDefEqProofs:=false) (disch:=omega) [gz,s1,g1]
  exact fin_nil ⟨rfl,rfl⟩
noncomputable def x1137:XE:=mkX true (fun (p:ByteArray×ByteArray)=>[.c (.v (.string p.1)),.c (.v (.string p.2))]) (fun p=>p.1.size<4000000000∧p.2.size<4000000000) (fun p=>.str (nB (Nat.gcd (nV p.1) (nV p.2))))
theorem kx1137:Contract Tryz.prog G0 137 x1137:=mkX_scal (fun _=>rfl) fun p h=>k1137 p.1 p.2 h.1 h.2
theorem xg1137 (a b:ByteArray) (ha:a.size<4000000000) (hb:b.size<4000000000):x1137.g [.c (.v (.string a)),.c (.v (.string b))]=some (True,.str (nB (Nat.gcd (nV a) (nV b)))):=mkX_g inj2s (a,b) ⟨ha,hb⟩
abbrev intV (neg:Bool) (mag:ByteArray):V:=.agg [.d (.v (.bool neg)),.d (.v (.string mag))]
abbrev intP (neg:Bool) (mag:ByteArray):PV:=.agg [.v (.bool neg),.v (.string mag)]
abbrev iV (neg:Bool) (n:Nat):V:=intV (neg && !decide (n=0)) (nB n)
theorem k1141 (neg:Bool) (mag:ByteArray):ACalls Tryz.prog G0 141 [.c (.d (.v (.bool neg))),Sx mag] [] fun t H=>t = .v (intV (neg && !decide (mag=⟨#[]⟩)) mag)∧H=[]:=by
 refine acallsX (X:=[]) trivial tab hmix Tryz.func141 c1141 (by rfl) fun hw=>?_
 cases neg
 ·simp (implicitDefEqProofs:=false) (disch:=omega) [gz,ir1141,b1141,fillC,splice,binSF]
  exact fin_nil ⟨rfl,rfl⟩
 ·simp (implicitDefEqProofs:=false) (disch:=omega) [gz,ir1141,b1141,fillC,splice,binSF]
  refine fin_nil ⟨by simp,rfl⟩
theorem injBS (a b:Bool×ByteArray) (h:[PVo.c (D.v (Value.bool a.1)),PVo.c (D.v (Value.string a.2))]=[PVo.c (D.v (Value.bool b.1)),PVo.c (D.v (Value.string b.2))]):a=b:=by
 simp at h; exact Prod.ext h.1 h.2
theorem injIA (a b:Bool×ByteArray) (h:[intP a.1 a.2]=[intP b.1 b.2]):a=b:=by
 simp at h; exact Prod.ext h.1 h.2
noncomputable def x1141:XE:=mkX true (fun (p:Bool×ByteArray)=>[.c (.v (.bool p.1)),.c (.v (.string p.2))]) (fun _=>True) (fun p=>.v (intV (p.1 && !decide (p.2=⟨#[]⟩)) p.2))
theorem kx1141:Contract Tryz.prog G0 141 x1141:=mkX_scal (fun _=>rfl) fun p _=>k1141 p.1 p.2
theorem xg1141 (neg:Bool) (mag:ByteArray):x1141.g [.c (.v (.bool neg)),.c (.v (.string mag))]=some (True,.v (intV (neg && !decide (mag=⟨#[]⟩)) mag)):=mkX_g injBS (neg,mag) trivial
theorem xg1141n (neg:Bool) (n:Nat):x1141.g [.c (.v (.bool neg)),.c (.v (.string (nB n)))]=some (True,.v (iV neg n)):=by
 rw [xg1141]
 congr 4
 by_cases h:n=0
 ·rw [decide_eq_true h,decide_eq_true (nB_nil.2 h)]
 ·rw [decide_eq_false h,decide_eq_false (fun q=>h (nB_nil.1 q))]
theorem k1121 (neg:Bool) (mag:ByteArray) (h:mag.size<4000000000):ACalls Tryz.prog G0 121 [intV neg mag] [] fun t H=>t = .v (iV neg (nV mag))∧H=[]:=by
 have s1:x1119.sc=true:=rfl
 have s2:x1141.sc=true:=rfl
 have g1:=xg1119 mag (by omega)
 have g2:=xg1141n neg (nV mag)
 refine acallsX (X:=[(119,x1119),(141,x1141)]) ⟨kx1119,kx1141,trivial⟩ tab hmix Tryz.func121 c1121 (by rfl) fun hw=>?_
 obtain ⟨n,hn⟩:∃ n,n=nV mag:=⟨_,rfl⟩
 rw [← hn] at g1 g2 ⊢
 obtain ⟨b,hb⟩:∃ b,b=(neg && !decide (n=0)):=⟨_,rfl⟩
 unfold iV at g2 ⊢
 rw [← hb] at g2 ⊢
 simp (implicitDefEqProofs:=false) (disch:=omega) [gz,ir1121,b1121,s1,s2,g1,g2,fillC,splice]
 exact ⟨by kernel_rfl,fin_nil ⟨rfl,rfl⟩⟩
noncomputable def x1121:XE:=mkX true (fun (p:Bool×ByteArray)=>[intP p.1 p.2]) (fun p=>p.2.size<4000000000) (fun p=>.v (iV p.1 (nV p.2)))
theorem kx1121:Contract Tryz.prog G0 121 x1121:=mkX_scal (fun _=>rfl) fun p h=>k1121 p.1 p.2 h
theorem xg1121 (neg:Bool) (mag:ByteArray) (h:mag.size<4000000000):x1121.g [intP neg mag]=some (True,.v (iV neg (nV mag))):=mkX_g injIA (neg,mag) h
theorem k1120 (n:Nat) (h:n<9223372036854775808):ACalls Tryz.prog G0 120 [I n] [] fun t H=>t = .v (iV false n)∧H=[]:=by
 have s1:x1142.sc=true:=rfl
 have s2:x1141.sc=true:=rfl
 have g1:=xg1142 n (by omega)
 have g2:=xg1141n false n
 have w1:=u64w (n:=n) (by omega)
 have hn:¬ (n:Int)<0:=by omega
 refine acallsX (X:=[(142,x1142),(141,x1141)]) ⟨kx1142,kx1141,trivial⟩ tab hmix Tryz.func120 c1120 (by rfl) fun hw=>?_
 unfold iV at g2 ⊢
 simp (implicitDefEqProofs:=false) (disch:=omega) [gz,ir1120,b1120,s1,s2,g1,g2,w1,hn,fillC,splice]
 exact fin_nil ⟨rfl,rfl⟩
noncomputable def x1120:XE:=mkX true (fun (n:Nat)=>[.c (.v (.int .i64 (n:Int)))]) (fun n=>n<9223372036854775808) (fun n=>.v (iV false n))
theorem kx1120:Contract Tryz.prog G0 120 x1120:=mkX_scal (fun _=>rfl) fun n h=>k1120 n h
theorem xg1120 (n:Nat) (h:n<9223372036854775808):x1120.g [.c (.v (.int .i64 (n:Int)))]=some (True,.v (iV false n)):=mkX_g (fun a b h=>by simp at h; omega) n h
def sgnI (neg:Bool) (n:Nat):Int:=if n=0 then 0 else if neg then -1 else 1
theorem k1136 (neg:Bool) (mag:ByteArray) (h:mag.size<4000000000):ACalls Tryz.prog G0 136 [intV neg mag] [] fun t H=>t = .int .i64 (sgnI neg (nV mag))∧H=[]:=by
 have s1:x1121.sc=true:=rfl
 have g1:=xg1121 neg mag h
 refine acallsX (X:=[(121,x1121)]) ⟨kx1121,trivial⟩ tab hmix Tryz.func136 c1136 (by rfl) fun hw=>?_
 obtain ⟨n,hn⟩:∃ n,n=nV mag:=⟨_,rfl⟩
 rw [← hn] at g1 ⊢
 unfold sgnI
 by_cases c:n=0
 ·rw [if_pos c]
  have hb:(neg && !decide (n=0))=false:=by rw [decide_eq_true c]; simp
  have hE:nB n=⟨#[]⟩:=nB_nil.2 c
  unfold iV at g1
  rw [hb,hE] at g1
  simp (implicitDefEqProofs:=false) (disch:=omega) [gz,ir1136,b1136,s1,g1,fillC,splice,binSF]
  exact fin_nil ⟨rfl,rfl⟩
 ·rw [if_neg c]
  have hb:(neg && !decide (n=0))=neg:=by rw [decide_eq_false c]; simp
  have hE:¬ nB n=⟨#[]⟩:=fun q=>c (nB_nil.1 q)
  obtain ⟨m,hm⟩:∃ m,m=nB n:=⟨_,rfl⟩
  unfold iV at g1
  rw [hb,← hm] at g1
  rw [← hm] at hE
  cases neg
  ·simp (implicitDefEqProofs:=false) (disch:=omega) [gz,ir1136,b1136,s1,g1,hE,fillC,splice,binSF]
   exact fin_nil ⟨rfl,rfl⟩
  ·simp (implicitDefEqProofs:=false) (disch:=omega) [gz,ir1136,b1136,s1,g1,hE,fillC,splice,binSF]
   exact fin_nil ⟨rfl,rfl⟩
noncomputable def x1136:XE:=mkX true (fun (p:Bool×ByteArray)=>[intP p.1 p.2]) (fun p=>p.2.size<4000000000) (fun p=>.int .i64 (sgnI p.1 (nV p.2)))
theorem kx1136:Contract Tryz.prog G0 136 x1136:=mkX_scal (fun _=>rfl) fun p h=>k1136 p.1 p.2 h
theorem xg1136 (neg:Bool) (mag:ByteArray) (h:mag.size<4000000000):x1136.g [intP neg mag]=some (True,.int .i64 (sgnI neg (nV mag))):=mkX_g injIA (neg,mag) h
abbrev ratV (x:Nv.Rt):V:=.agg [.d (.v (.bool x.neg)),.d (.v (.string x.num)),.d (.v (.string x.den))]
abbrev ratP (x:Nv.Rt):PV:=.agg [.v (.bool x.neg),.v (.string x.num),.v (.string x.den)]
abbrev partsT (x:Nv.Rt):T:=.tup [iV x.neg (nV x.num),iV false (Nv.denV x.den)]
theorem k1104 (x:Nv.Rt) (h1:x.num.size<4000000000) (h2:x.den.size<4000000000):ACalls Tryz.prog G0 104 [ratV x] [] fun t H=>t=partsT x∧H=[]:=by
 have s1:x1119.sc=true:=rfl
 have s2:x1120.sc=true:=rfl
 have s3:x1121.sc=true:=rfl
 have g1:=xg1119 x.den (by omega)
 have g2:=xg1120 1 (by decide)
 have g3:=xg1121 x.neg x.num h1
 refine acallsX (X:=[(119,x1119),(120,x1120),(121,x1121)]) ⟨kx1119,kx1120,kx1121,trivial⟩ tab hmix Tryz.func104 c1104 (by rfl) fun hw=>?_
 unfold partsT
 obtain ⟨n,hn⟩:∃ n,n=nV x.num:=⟨_,rfl⟩
 obtain ⟨d,hd⟩:∃ d,d=nV x.den:=⟨_,rfl⟩
 have hdv:Nv.denV x.den=if d=0 then 1 else d:=by rw [hd]; rfl
 rw [hdv,← hn]
 rw [← hn] at g3
 rw [← hd] at g1
 obtain ⟨b,hb⟩:∃ b,b=(x.neg && !decide (n=0)):=⟨_,rfl⟩
 obtain ⟨m,hm⟩:∃ m,m=nB n:=⟨_,rfl⟩
 unfold iV at g2 g3 ⊢
 rw [← hb,← hm] at g3 ⊢
 obtain ⟨xn,xa,xb⟩:=x
 by_cases c:d=0
 ·rw [if_pos c]
  rw [nB_nil.2 c] at g1
  obtain ⟨o,ho⟩:∃ o,o=nB 1:=⟨_,rfl⟩
  simp only [Bool.false_and,Int.natCast_one] at g2
  rw [← ho] at g2 ⊢
  simp (implicitDefEqProofs:=false) (disch:=omega) [gz,ir1104,b1104,s1,s2,s3,g1,g2,g3,fillC,splice,binSF]
  exact ⟨by kernel_rfl,fin_nil ⟨rfl,rfl⟩⟩
 ·rw [if_neg c]
  have hE:¬ nB d=⟨#[]⟩:=fun q=>c (nB_nil.1 q)
  obtain ⟨o,ho⟩:∃ o,o=nB d:=⟨_,rfl⟩
  rw [← ho] at g1 hE ⊢
  simp (implicitDefEqProofs:=false) (disch:=omega) [gz,ir1104,b1104,s1,s2,s3,g1,g3,hE,fillC,splice,binSF]
  exact ⟨by kernel_rfl,fin_nil ⟨rfl,rfl⟩⟩
theorem injRat (a b:Nv.Rt) (h:[ratP a]=[ratP b]):a=b:=by
 simp at h
 cases a; cases b
 simp only at h
 rw [h.1,h.2.1,h.2.2]
noncomputable def x1104:XE:=mkX true (fun (x:Nv.Rt)=>[ratP x]) (fun x=>x.num.size<4000000000∧x.den.size<4000000000) partsT
theorem kx1104:Contract Tryz.prog G0 104 x1104:=mkX_scal (fun _=>rfl) fun x h=>k1104 x h.1 h.2
theorem xg1104 (x:Nv.Rt) (h1:x.num.size<4000000000) (h2:x.den.size<4000000000):x1104.g [ratP x]=some (True,partsT x):=mkX_g injRat x ⟨h1,h2⟩
theorem k1138 (m g:ByteArray) (h1:m.size<4000000000) (h2:g.size<4000000000) (h0:nV g≠0):ACalls Tryz.prog G0 138 [Sx m,.c (.d (.ip [.v (.string g)]))] [] fun t H=>t = .str (nB (nV m / nV g))∧H=[]:=by
 have s1:x1139.sc=true:=rfl
 have g1:=xg1139 m g h1 h2
 refine acallsX (X:=[(139,x1139)]) ⟨kx1139,trivial⟩ tab hmix Tryz.func138 c1138 (by rfl) fun hw=>?_
 unfold divT at g1
 rw [if_neg h0] at g1
 simp (implicitDefEqProofs:=false) (disch:=omega) [gz,ir1138,b1138,s1,g1]
 exact fin_nil ⟨rfl,rfl⟩
noncomputable def x1138:XE:=mkX true (fun (p:ByteArray×ByteArray)=>[.c (.v (.string p.1)),.c (.ip [.v (.string p.2)])]) (fun p=>p.1.size<4000000000∧p.2.size<4000000000∧nV p.2≠0) (fun p=>.str (nB (nV p.1 / nV p.2)))
theorem kx1138:Contract Tryz.prog G0 138 x1138:=mkX_scal (fun _=>rfl) fun p h=>k1138 p.1 p.2 h.1 h.2.1 h.2.2
theorem xg1138 (m g:ByteArray) (h1:m.size<4000000000) (h2:g.size<4000000000) (h0:nV g≠0):x1138.g [.c (.v (.string m)),.c (.ip [.v (.string g)])]=some (True,.str (nB (nV m / nV g))):=mkX_g (fun a b h=>by simp at h; exact Prod.ext h.1 h.2) (m,g) ⟨h1,h2,h0⟩
def zR:Nv.Rt:=⟨false,⟨#[]⟩,⟨#[]⟩⟩
def makeT (s1 s2:Bool) (a b:Nat):T:=if b=0 then .tup [ratV zR,.c (.d (.v (.bool false)))] else .tup [ratV (Nv.mkR (!decide (s1=s2)) a b),.c (.d (.v (.bool true)))]
theorem nB_one:nB 1=⟨#[1]⟩:=by
 show (⟨(Nv.digs 1).toArray⟩:ByteArray)=_
 rw [Nv.digs_pos (by decide),show (1:Nat) / 256=0 from rfl,Nv.digs_zero]; rfl
theorem nB_is1 {n:Nat}:nB n=⟨#[1]⟩↔n=1:=by
 constructor
 ·intro h
  rw [← nB_one] at h
  exact Nv.natB_inj h
 ·rintro rfl; exact nB_one
theorem gcd_size {a b:ByteArray} (h:nV b≠0):(nB (Nat.gcd (nV a) (nV b))).size≤b.size:=Nat.le_trans (nB_mono (Nat.gcd_le_right _ (Nat.pos_of_ne_zero h))) nB_le
theorem k1118 (n1 n2:Bool) (a b:ByteArray) (h1:a.size<4000000000) (h2:b.size<4000000000):ACalls Tryz.prog G0 118 [intV n1 a,intV n2 b] [] fun t H=>t=makeT n1 n2 (nV a) (nV b)∧H=[]:=by
 have s1:x1136.sc=true:=rfl
 have s2:x1137.sc=true:=rfl
 have s3:x1138.sc=true:=rfl
 have g1:=xg1136 n1 a h1
 have g2:=xg1136 n2 b h2
 have g3:=xg1137 a b h1 h2
 refine acallsX (X:=[(136,x1136),(137,x1137),(138,x1138)]) ⟨kx1136,kx1137,kx1138,trivial⟩ tab hmix Tryz.func118 c1118 (by rfl) fun hw=>?_
 obtain ⟨A,hA⟩:∃ A,A=nV a:=⟨_,rfl⟩
 obtain ⟨B,hB⟩:∃ B,B=nV b:=⟨_,rfl⟩
 unfold makeT
 by_cases c0:B=0
 ·rw [← hB,if_pos c0]
  rw [← hB,show sgnI n2 B=0 from by unfold sgnI; rw [if_pos c0]] at g2
  simp (implicitDefEqProofs:=false) (disch:=omega) [gz,ir1118,b1118,s1,g2,fillC,splice]
  exact fin_nil ⟨rfl,rfl⟩
 ·have hs2:¬ sgnI n2 B=0:=by unfold sgnI; rw [if_neg c0]; split <;> decide
  rw [← hB,if_neg c0,← hA]
  by_cases c1:A=0
  ·rw [c1,Nv.mkR_zero]
   rw [← hA,show sgnI n1 A=0 from by unfold sgnI; rw [if_pos c1]] at g1
   rw [← hB] at g2
   obtain ⟨z2,hz2⟩:∃ z,z=sgnI n2 B:=⟨_,rfl⟩
   rw [← hz2] at g2 hs2
   simp (implicitDefEqProofs:=false) (disch:=omega) [gz,ir1118,b1118,s1,g1,g2,hs2,fillC,splice]
   exact fin_nil ⟨rfl,rfl⟩
  ·have hs1:¬ sgnI n1 A=0:=by unfold sgnI; rw [if_neg c1]; split <;> decide
   have hgs:=gcd_size (a:=a) (b:=b) (by rw [← hB]; exact c0)
   rw [← hA,← hB] at g3 hgs
   rw [← hA] at g1
   rw [← hB] at g2
   have hg0:0<Nat.gcd A B:=Nat.gcd_pos_of_pos_right _ (Nat.pos_of_ne_zero c0)
   obtain ⟨g,hg⟩:∃ g,g=Nat.gcd A B:=⟨_,rfl⟩
   have hgv:nV (nB g)=g:=Nv.natV_natB g
   rw [← hg] at g3 hg0 hgs
   have g4:=xg1138 a (nB g) h1 (by omega) (by rw [hgv]; omega)
   have g5:=xg1138 b (nB g) h2 (by omega) (by rw [hgv]; omega)
   rw [← hA,hgv] at g4
   rw [← hB,hgv] at g5
   unfold Nv.mkR
   rw [if_neg c1,← hg]
   obtain ⟨gs,hgse⟩:∃ gs,gs=nB g:=⟨_,rfl⟩
   rw [← hgse] at g3 g4 g5
   obtain ⟨z1,hz1⟩:∃ z,z=sgnI n1 A:=⟨_,rfl⟩
   rw [← hz1] at g1 hs1
   obtain ⟨z2,hz2⟩:∃ z,z=sgnI n2 B:=⟨_,rfl⟩
   rw [← hz2] at g2 hs2
   by_cases c2:B / g=1
   ·rw [if_pos c2]
    rw [c2,nB_one] at g5
    simp (implicitDefEqProofs:=false) (disch:=omega) [gz,ir1118,b1118,s1,s2,s3,g1,g2,g3,g4,g5,hs1,hs2,fillC,splice,binSF]
    exact ⟨by kernel_rfl,by kernel_rfl,fin_nil ⟨rfl,rfl⟩⟩
   ·rw [if_neg c2]
    have hE:¬ nB (B / g)=⟨#[1]⟩:=fun q=>c2 (nB_is1.1 q)
    obtain ⟨o,ho⟩:∃ o,o=nB (B / g):=⟨_,rfl⟩
    rw [show Nv.natB (B / g)=o from ho.symm]
    rw [← ho] at g5 hE
    simp (implicitDefEqProofs:=false) (disch:=omega) [gz,ir1118,b1118,s1,s2,s3,g1,g2,g3,g4,g5,hs1,hs2,hE,fillC,splice,binSF]
    exact ⟨by kernel_rfl,by kernel_rfl,fin_nil ⟨rfl,rfl⟩⟩
theorem makeT_sc (s1 s2:Bool) (a b:Nat):scT (makeT s1 s2 a b)=true:=by unfold makeT; split <;> rfl
theorem injII (a b:(Bool×ByteArray)×(Bool×ByteArray)) (h:[intP a.1.1 a.1.2,intP a.2.1 a.2.2]=[intP b.1.1 b.1.2,intP b.2.1 b.2.2]):a=b:=by
 simp at h
 obtain ⟨⟨h1,h2⟩,h3,h4⟩:=h
 exact Prod.ext (Prod.ext h1 h2) (Prod.ext h3 h4)
noncomputable def x1118:XE:=mkX true (fun (p:(Bool×ByteArray)×(Bool×ByteArray))=>[intP p.1.1 p.1.2,intP p.2.1 p.2.2]) (fun p=>p.1.2.size<4000000000∧p.2.2.size<4000000000) (fun p=>makeT p.1.1 p.2.1 (nV p.1.2) (nV p.2.2))
theorem kx1118:Contract Tryz.prog G0 118 x1118:=mkX_scal (fun _=>makeT_sc _ _ _ _) fun p h=>k1118 p.1.1 p.2.1 p.1.2 p.2.2 h.1 h.2
theorem xg1118 (n1 n2:Bool) (a b:ByteArray) (h1:a.size<4000000000) (h2:b.size<4000000000):x1118.g [intP n1 a,intP n2 b]=some (True,makeT n1 n2 (nV a) (nV b)):=mkX_g injII ((n1,a),(n2,b)) ⟨h1,h2⟩
theorem k1103 (n1 n2:Bool) (a b:ByteArray) (h1:a.size<4000000000) (h2:b.size<4000000000) (hb:nV b≠0):ACalls Tryz.prog G0 103 [intV n1 a,intV n2 b] [] fun t H=>t = .v (ratV (Nv.mkR (!decide (n1=n2)) (nV a) (nV b)))∧H=[]:=by
 have s1:x1118.sc=true:=rfl
 have g1:=xg1118 n1 n2 a b h1 h2
 refine acallsX (X:=[(118,x1118)]) ⟨kx1118,trivial⟩ tab hmix Tryz.func103 c1103 (by rfl) fun hw=>?_
 unfold makeT at g1
 rw [if_neg hb] at g1
 obtain ⟨z,hz⟩:∃ z,z=Nv.mkR (!decide (n1=n2)) (nV a) (nV b):=⟨_,rfl⟩
 rw [← hz] at g1 ⊢
 simp (implicitDefEqProofs:=false) (disch:=omega) [gz,ir1103,b1103,s1,g1,fillC,splice]
 exact fin_nil ⟨rfl,rfl⟩
noncomputable def x1103:XE:=mkX true (fun (p:(Bool×ByteArray)×(Bool×ByteArray))=>[intP p.1.1 p.1.2,intP p.2.1 p.2.2]) (fun p=>p.1.2.size<4000000000∧p.2.2.size<4000000000∧nV p.2.2≠0) (fun p=>.v (ratV (Nv.mkR (!decide (p.1.1=p.2.1)) (nV p.1.2) (nV p.2.2))))
theorem kx1103:Contract Tryz.prog G0 103 x1103:=mkX_scal (fun _=>rfl) fun p h=>k1103 p.1.1 p.2.1 p.1.2 p.2.2 h.1 h.2.1 h.2.2
theorem xg1103 (n1 n2:Bool) (a b:ByteArray) (h1:a.size<4000000000) (h2:b.size<4000000000) (hb:nV b≠0):x1103.g [intP n1 a,intP n2 b]=some (True,.v (ratV (Nv.mkR (!decide (n1=n2)) (nV a) (nV b)))):=mkX_g injII ((n1,a),(n2,b)) ⟨h1,h2,hb⟩
theorem den_size {d:ByteArray} (h:d.size<4000000000):(nB (Nv.denV d)).size<4000000000:=by
 unfold Nv.denV
 split
 ·rw [nB_one]; decide
 ·have:=nB_le (s:=d)
  exact Nat.lt_of_le_of_lt this h
theorem k1093 (x:Nv.Rt) (h1:x.num.size<4000000000) (h2:x.den.size<4000000000):ACalls Tryz.prog G0 93 [ratV x] [] fun t H=>t = .v (ratV (Nv.normR x))∧H=[]:=by
 have s1:x1104.sc=true:=rfl
 have s2:x1103.sc=true:=rfl
 have g1:=xg1104 x h1 h2
 have hn:=nB_le (s:=x.num)
 have hd0:=Nv.denV_pos x.den
 have g2:=xg1103 (x.neg && !decide (nV x.num=0)) (false && !decide (Nv.denV x.den=0)) (nB (nV x.num)) (nB (Nv.denV x.den)) (by omega) (den_size h2) (by rw [show nV (nB (Nv.denV x.den))=_ from Nv.natV_natB _]; omega)
 rw [show nV (nB (Nv.denV x.den))=Nv.denV x.den from Nv.natV_natB _,show nV (nB (nV x.num))=nV x.num from Nv.natV_natB _] at g2
 have hnorm:Nv.mkR (!decide ((x.neg && !decide (nV x.num=0))=(false && !decide (Nv.denV x.den=0)))) (nV x.num) (Nv.denV x.den)=Nv.normR x:=by
  unfold Nv.normR
  by_cases c:nV x.num=0
  ·show Nv.mkR _ (nV x.num) _=Nv.mkR _ (nV x.num) _
   rw [c,Nv.mkR_zero,Nv.mkR_zero]
  ·rw [decide_eq_false c]
   cases x.neg <;> rfl
 rw [hnorm] at g2
 unfold partsT iV at g1
 refine acallsX (X:=[(104,x1104),(103,x1103)]) ⟨kx1104,kx1103,trivial⟩ tab hmix Tryz.func93 c1093 (by rfl) fun hw=>?_
 obtain ⟨b1,hb1⟩:∃ b1,b1=(x.neg && !decide (nV x.num=0)):=⟨_,rfl⟩
 obtain ⟨b2,hb2⟩:∃ b2,b2=(false && !decide (Nv.denV x.den=0)):=⟨_,rfl⟩
 rw [← hb1,← hb2] at g1 g2
 obtain ⟨m1,hm1⟩:∃ m,m=nB (nV x.num):=⟨_,rfl⟩
 obtain ⟨m2,hm2⟩:∃ m,m=nB (Nv.denV x.den):=⟨_,rfl⟩
 rw [← hm1,← hm2] at g1 g2
 obtain ⟨y,hy⟩:∃ y,y=Nv.normR x:=⟨_,rfl⟩
 rw [← hy] at g2 ⊢
 obtain ⟨xn,xa,xb⟩:=x
 simp (implicitDefEqProofs:=false) (disch:=omega) [gz,ir1093,b1093,s1,s2,g1,g2,fillC,splice]
 exact fin_nil ⟨rfl,rfl⟩
noncomputable def x1093:XE:=mkX true (fun (x:Nv.Rt)=>[ratP x]) (fun x=>x.num.size<4000000000∧x.den.size<4000000000) (fun x=>.v (ratV (Nv.normR x)))
theorem kx1093:Contract Tryz.prog G0 93 x1093:=mkX_scal (fun _=>rfl) fun x h=>k1093 x h.1 h.2
theorem xg1093 (x:Nv.Rt) (h1:x.num.size<4000000000) (h2:x.den.size<4000000000):x1093.g [ratP x]=some (True,.v (ratV (Nv.normR x))):=mkX_g injRat x ⟨h1,h2⟩
def fitsR (x:Nv.Rt) (n:Nat):Bool:=decide ((Nv.normR x).num.size≤n) && decide ((Nv.normR x).den.size≤n)
theorem k1094 (x:Nv.Rt) (n:Nat) (h1:x.num.size<4000000000) (h2:x.den.size<4000000000):ACalls Tryz.prog G0 94 [ratV x,I n] [] fun t H=>t = .bool (fitsR x n)∧H=[]:=by
 have s1:x1093.sc=true:=rfl
 have g1:=xg1093 x h1 h2
 refine acallsX (X:=[(93,x1093)]) ⟨kx1093,trivial⟩ tab hmix Tryz.func94 c1094 (by rfl) fun hw=>?_
 unfold fitsR
 obtain ⟨⟨yn,ya,yb⟩,hy⟩:∃ y,y=Nv.normR x:=⟨_,rfl⟩
 rw [← hy] at g1 ⊢
 obtain ⟨xn,xa,xb⟩:=x
 by_cases c1:ya.size≤n
 ·have c1':(ya.size:Int)≤(n:Int):=by omega
  by_cases c2:yb.size≤n
  ·have c2':(yb.size:Int)≤(n:Int):=by omega
   simp (implicitDefEqProofs:=false) (disch:=omega) [gz,ir1094,b1094,s1,g1,fillC,splice,c1',c2',c1,c2]
   exact fin_nil ⟨rfl,rfl⟩
  ·have c2':¬ (yb.size:Int)≤(n:Int):=by omega
   simp (implicitDefEqProofs:=false) (disch:=omega) [gz,ir1094,b1094,s1,g1,fillC,splice,c1',c2',c1,c2]
   exact fin_nil ⟨rfl,rfl⟩
 ·have c1':¬ (ya.size:Int)≤(n:Int):=by omega
  simp (implicitDefEqProofs:=false) (disch:=omega) [gz,ir1094,b1094,s1,g1,fillC,splice,c1',c1]
  exact fin_nil ⟨rfl,rfl⟩
noncomputable def x1094:XE:=mkX true (fun (p:Nv.Rt×Nat)=>[ratP p.1,.c (.v (.int .i64 (p.2:Int)))]) (fun p=>p.1.num.size<4000000000∧p.1.den.size<4000000000) (fun p=>.bool (fitsR p.1 p.2))
theorem kx1094:Contract Tryz.prog G0 94 x1094:=mkX_scal (fun _=>rfl) fun p h=>k1094 p.1 p.2 h.1 h.2
theorem injRN (a b:Nv.Rt×Nat) (h:[ratP a.1,PVo.c (D.v (.int .i64 (a.2:Int)))]=[ratP b.1,PVo.c (D.v (.int .i64 (b.2:Int)))]):a=b:=by
 have h1:[ratP a.1]=[ratP b.1]:=by injection h with h _; rw [h]
 have h2:a.2=b.2:=by simp at h; omega
 exact Prod.ext (injRat _ _ h1) h2
theorem xg1094 (x:Nv.Rt) (n:Nat) (h1:x.num.size<4000000000) (h2:x.den.size<4000000000):x1094.g [ratP x,.c (.v (.int .i64 (n:Int)))]=some (True,.bool (fitsR x n)):=mkX_g injRN (x,n) ⟨h1,h2⟩
theorem k1057 (s:ByteArray) (hs:s.size<4611686018427387904):ACalls Tryz.prog G0 57 [Sx s] [] fun t H=>t = .bool (authB s)∧H=[]:=by
 refine acallsX (X:=[]) trivial tab hmix Tryz.func57 c1057 (by rfl) fun hw=>?_
 simp (implicitDefEqProofs:=false) (disch:=omega) [gz,ir1057,b1057,wrap64]
 refine loopE (fun k st=>∃ i,i≤s.size∧k=s.size-i∧(∀ j,j<i→badA s j=false) ∧
   st=⟨ofL [(0,.v (.c (.d (.v (.string s))))),(6,.int .i64 s.size),(7,.int .i64 i)],[]⟩)
  (fun st=>(∀ j,j<s.size→badA s j=false)∧AtS [(0,.v (.c (.d (.v (.string s)))))] [] st) ?_ ?_ ?_
 ·refine wk_keep [0,6,7] ⟨_,0,by omega,rfl,fun j hj=>by omega,?_⟩
  simp
 ·rintro J L hJ hL k st ⟨i,hi,rfl,hb,rfl⟩
  by_cases hlt:i<s.size
  ·have hby:((s.data[i]?.getD 0).toNat:Int)=byt s i:=rfl
   obtain ⟨b,hbb⟩:∃ b,b=byt s i:=⟨_,rfl⟩
   have hbad:badA s i=(!(decide (97≤b) && decide (b≤122)) && (decide (i=0) || (decide (b<48) || decide (57<b)))):=by rw [hbb]; rfl
   rw [← hbb] at hby
   have good:badA s i=false→wk Tryz.prog G0 0 ⟨ofL [(0,.v (.c (.d (.v (.string s))))),(6,.int .i64 s.size),(7,.int .i64 (i+1:Nat))],[]⟩ (fun s''=>∃ k',k'<s.size-i∧J k' s''):=fun hg=>by
    subst hJ
    refine wk_keep [0,6,7] ⟨s.size-(i+1),by omega,i+1,by omega,rfl,fun j hj=>?_,by simp⟩
    by_cases e1:j=i
    ·subst e1; exact hg
    ·exact hb j (by omega)
   have nogood:badA s i=true→authB s=false:=fun hg=>by
    unfold authB
    rw [decide_eq_false (fun h=>by have:=h i hlt; rw [hg] at this; cases this),Bool.false_and]
   have hi0:(i:Int)=0↔i=0:=by omega
   by_cases c1:b<97
   ·by_cases c3:i=0
    ·subst c3
     rw [nogood (by rw [hbad]; simp; omega)]
     simp (implicitDefEqProofs:=false) (disch:=omega) [gz,hlt,wrap64,hby,c1]
     exact fin_nil ⟨rfl,rfl⟩
    ·have c3':¬ (i:Int)=0:=by omega
     by_cases c4:b<48
     ·rw [nogood (by rw [hbad]; simp [c3,c4]; omega)]
      simp (implicitDefEqProofs:=false) (disch:=omega) [gz,hlt,wrap64,hby,c1,c3,c3',c4]
      exact fin_nil ⟨rfl,rfl⟩
     ·by_cases c5:57<b
      ·rw [nogood (by rw [hbad]; simp [c3,c4,c5]; omega)]
       simp (implicitDefEqProofs:=false) (disch:=omega) [gz,hlt,wrap64,hby,c1,c3,c3',c4,c5]
       exact fin_nil ⟨rfl,rfl⟩
      ·have hg:=good (by rw [hbad]; simp [c3,c4,c5])
       simp (implicitDefEqProofs:=false) (disch:=omega) [gz,hlt,wrap64,hby,c1,c3,c3',c4,c5]
       refine wk_keep [0,6,7] ?_
       obtain ⟨s'',q1,q2⟩:=hg
       subst hJ
       refine ⟨s.size-(i+1),by omega,i+1,by omega,rfl,fun j hj=>?_,by simp⟩
       by_cases e1:j=i
       ·subst e1; rw [hbad]; simp [c3,c4,c5]
       ·exact hb j (by omega)
   ·by_cases c2:122<b
    ·by_cases c3:i=0
     ·subst c3
      rw [nogood (by rw [hbad]; simp; omega)]
      simp (implicitDefEqProofs:=false) (disch:=omega) [gz,hlt,wrap64,hby,c1,c2]
      exact fin_nil ⟨rfl,rfl⟩
     ·have c3':¬ (i:Int)=0:=by omega
      have c4:¬ b<48:=by omega
      have c5:57<b:=by omega
      rw [nogood (by rw [hbad]; simp [c3,c4,c5]; omega)]
      simp (implicitDefEqProofs:=false) (disch:=omega) [gz,hlt,wrap64,hby,c1,c2,c3,c3',c4,c5]
      exact fin_nil ⟨rfl,rfl⟩
    ·simp (implicitDefEqProofs:=false) (disch:=omega) [gz,hlt,wrap64,hby,c1,c2]
     subst hJ
     refine wk_keep [0,6,7] ⟨s.size-(i+1),by omega,i+1,by omega,rfl,fun j hj=>?_,by simp⟩
     by_cases e1:j=i
     ·subst e1; rw [hbad]; simp; omega
     ·exact hb j (by omega)
  ·have:i=s.size:=by omega
   subst this
   simp (implicitDefEqProofs:=false) (disch:=omega) [gz,hlt]
   subst hL
   exact ⟨hb,at_mk (by simp) rfl⟩
 ·rintro _ ⟨hb,sl,rfl⟩
  have ha:authB s=(decide (0<s.size) && decide (s.size≤24)):=by unfold authB; rw [decide_eq_true hb,Bool.true_and]
  rw [ha]
  by_cases c1:0<s.size
  ·have c1':(1:Int)≤s.size:=by omega
   by_cases c2:s.size≤24
   ·have c2':(s.size:Int)≤24:=by omega
    simp (implicitDefEqProofs:=false) (disch:=omega) [gz,wrap64,c1',c2',c1,c2]
    exact fin_nil ⟨rfl,rfl⟩
   ·have c2':¬ (s.size:Int)≤24:=by omega
    simp (implicitDefEqProofs:=false) (disch:=omega) [gz,wrap64,c1',c2',c1,c2]
    exact fin_nil ⟨rfl,rfl⟩
  ·have c1':¬ (1:Int)≤s.size:=by omega
   simp (implicitDefEqProofs:=false) (disch:=omega) [gz,wrap64,c1',c1]
   exact fin_nil ⟨rfl,rfl⟩
noncomputable def x1057:XE:=mkX true (fun (s:ByteArray)=>[.c (.v (.string s))]) (fun s=>s.size<4611686018427387904) (fun s=>.bool (authB s))
theorem kx1057:Contract Tryz.prog G0 57 x1057:=mkX_scal (fun _=>rfl) fun s h=>k1057 s h
theorem xg1057 (s:ByteArray) (h:s.size<4611686018427387904):x1057.g [.c (.v (.string s))]=some (True,.bool (authB s)):=mkX_g inj1s s h
def comma:ByteArray:=⟨#[44]⟩
theorem comma_size:1≤comma.size:=by decide
theorem parts_le (s:ByteArray):(parts s comma).length≤s.size+1:=by
 rw [parts_len s comma comma_size]
 have:=Lib.countB_le comma comma_size s.size s (Nat.le_refl _)
 omega
def tl (s:ByteArray):List UInt8:=s.data.toList
theorem tl_inj {a b:ByteArray} (h:tl a=tl b):a=b:=by
 obtain ⟨⟨x⟩⟩:=a
 obtain ⟨⟨y⟩⟩:=b
 have h:x=y:=h
 rw [h]
theorem tl_len (s:ByteArray):(tl s).length=s.size:=rfl
def splC:List UInt8→List UInt8→List (List UInt8)
 | cur,[]=>[cur]
 | cur,c :: r=>if c=44 then cur :: splC [] r else splC (cur ++ [c]) r
def preL (a:List UInt8):List (List UInt8)→List (List UInt8)
 | []=>[]
 | h :: t=>(a ++ h) :: t
theorem splC_pre (a:List UInt8):∀ (s cur:List UInt8),splC (a ++ cur) s=preL a (splC cur s)
 | [],cur=>rfl
 | c :: r,cur=>by
  unfold splC
  by_cases h:c=44
  ·rw [if_pos h,if_pos h]; rfl
  ·rw [if_neg h,if_neg h,List.append_assoc]; exact splC_pre a r (cur ++ [c])
theorem ix_ne {b:UInt8} {l:List UInt8} (h:b≠44):Lib.index (b :: l) [44]=if Lib.index l [44] == -1 then -1 else Lib.index l [44]+1:=by
 have hp:([44]:List UInt8).isPrefixOf (b :: l)=false:=by simp [List.isPrefixOf,Ne.symm h]
 rw [Lib.index,hp]; simp
theorem ix_eq (l:List UInt8):Lib.index (44 :: l) [44]=0:=by rw [Lib.index]; simp [List.isPrefixOf]
theorem splK_ne {c:UInt8} (h:c≠44) (r:List UInt8) (k:Nat):Lib.splitK [44] 0 k (c :: r)=preL [c] (Lib.splitK [44] 0 k r):=by
 cases k with
 | zero=>rfl
 | succ k =>
  simp only [Lib.splitK,ix_ne h]
  by_cases hm:Lib.index r [44] = -1
  ·rw [hm]; rfl
  ·have hge:=Lib.index_ge r [44]
   obtain ⟨j,hj⟩:∃ j:Nat,Lib.index r [44]=j:=⟨(Lib.index r [44]).toNat,by omega⟩
   rw [hj]
   have e1:((j:Int) == -1)=false:=by
    cases q:((j:Int) == -1)
    ·rfl
    ·have:=beq_iff_eq.1 q; omega
   rw [e1]
   have e2:((j:Int)+1 == -1)=false:=by
    cases q:((j:Int)+1 == -1)
    ·rfl
    ·have:=beq_iff_eq.1 q; omega
   simp only [Bool.false_eq_true,if_false,e2]
   have e3:((j:Int)+1).toNat=j+1:=by omega
   rw [e3]
   simp [preL]
theorem spl_eq:∀ s:List UInt8,Lib.splitK [44] 0 (Lib.count s [44]) s=splC [] s
 | []=>by rw [Lib.count_one]; rfl
 | c :: r=>by
  have ih:=spl_eq r
  by_cases h:c=44
  ·subst h
   rw [Lib.count_cons_eq,Nat.add_comm]
   simp only [Lib.splitK,ix_eq]
   simp [splC,ih]
  ·rw [Lib.count_cons_ne c 44 r h,splK_ne h,ih]
   have hs:splC [] (c :: r)=splC ([] ++ [c]) r:=by rw [splC,if_neg h]
   rw [hs]
   exact (splC_pre [c] r []).symm
theorem parts_spl (s:ByteArray):(parts s comma).map tl=splC [] (tl s):=by
 have h:=Lib.splitB_data comma 0 (Lib.countB s comma) s
 have e:Lib.countB s comma=Lib.count s.data.toList [44]:=rfl
 have e2:comma.data.toList=[44]:=rfl
 rw [e2] at h
 unfold parts
 rw [show tl=fun s=>s.data.toList from rfl,h,e]
 exact spl_eq _
def InvP (P:List ByteArray) (w:List UInt8) (i:Nat) (out:List ByteArray) (name:ByteArray):Prop :=
 (i≤w.length∧P.map tl=out.map tl ++ splC (tl name) (w.drop i)∧name.size≤i)∨(i=w.length+1∧P=out∧name.size=0)
theorem map_pre {P out:List ByteArray} {name:ByteArray} {X:List (List UInt8)} (h:P.map tl=out.map tl ++ (tl name :: X)):∃ Y,P=out ++ (name :: Y)∧Y.map tl=X:=by
 obtain ⟨l1,l2,rfl,h1,h2⟩:=List.map_eq_append_iff.1 h
 obtain ⟨n,Y,rfl,h3,h4⟩:=List.map_eq_cons_iff.1 h2
 have e1:l1=out:=map_inj (fun a b=>tl_inj) h1
 exact ⟨Y,by rw [e1,tl_inj h3],h4⟩
theorem splC_small:∀ (s cur:List UInt8),∀ x∈splC cur s,x.length≤cur.length+s.length
 | [],cur,x,hx=>by
  rw [splC,List.mem_singleton] at hx
  subst hx; simp
 | c :: r,cur,x,hx=>by
  rw [splC] at hx
  split at hx
  ·rcases List.mem_cons.1 hx with rfl | hx
   ·omega
   ·have:=splC_small r [] x hx
    simp only [List.length_nil,List.length_cons] at this ⊢; omega
  ·have:=splC_small r (cur ++ [c]) x hx
   simp only [List.length_append,List.length_cons,List.length_nil] at this ⊢; omega
theorem part_le {s p:ByteArray} (h:p∈parts s comma):p.size≤s.size:=by
 have h1:tl p∈splC [] (tl s):=by rw [← parts_spl]; exact List.mem_map_of_mem h
 have:=splC_small _ _ _ h1
 rw [tl_len,tl_len] at this; simpa using this
theorem part_small {s:ByteArray} (h:s.size<4294967281) (j:Nat):(nth (parts s comma) j).size<4294967281:=by
 by_cases hj:j<(parts s comma).length
 ·exact Nat.lt_of_le_of_lt (part_le (nth_mem hj)) h
 ·rw [nth,List.getD_eq_getElem?_getD,List.getElem?_eq_none (by omega)]
  show (default:ByteArray).size<_
  decide
theorem k1059 (v:List Id) (hl:v.length<4611686018427387904) (hs:∀ x∈v,x.a.size<4611686018427387904):ACalls Tryz.prog G0 59 [.c (.d (.sl (v.map Id.row)))] [] fun t H=>t = .int .i64 (chkV v 0 v.length)∧H=[]:=by
 have s1:x1057.sc=true:=rfl
 refine acallsX (X:=[(57,x1057)]) ⟨kx1057,trivial⟩ tab hmix Tryz.func59 c1059 (by rfl) fun hw=>?_
 simp (implicitDefEqProofs:=false) (disch:=omega) [gz,ir1059,b1059,b1059_0,b1059_1,b1059_2,b1059_3,wrap64]
 refine loopE (fun k st=>∃ i,i≤v.length∧k=v.length-i∧chkV v 0 v.length=chkV v i (v.length-i) ∧
   st=⟨ofL [(0,.v (.c (.d (.sl (v.map Id.row))))),(5,.v (.c (.d (.sl (v.map Id.row))))),(6,.int .i64 v.length),(7,.int .i64 i)],[]⟩)
  (fun st=>chkV v 0 v.length=0∧AtS [] [] st) ?_ ?_ ?_
 ·refine wk_keep [0,5,6,7] ⟨_,0,by omega,rfl,rfl,?_⟩
  simp
 ·rintro J L hJ hL k st ⟨i,hi,rfl,hb,rfl⟩
  by_cases hlt:i<v.length
  ·obtain ⟨x,hx⟩:∃ x,nth v i=x:=⟨_,rfl⟩
   obtain ⟨y,hy⟩:∃ y,nth v (i-1)=y:=⟨_,rfl⟩
   have hm:x∈v:=by rw [← hx]; exact nth_mem hlt
   have hxr:x.row=[.v (.string x.a),.v (.int .i64 x.n)]:=rfl
   have hyr:y.row=[.v (.string y.a),.v (.int .i64 y.n)]:=rfl
   have g1:=xg1057 x.a (hs x hm)
   have hk:v.length-i=(v.length-(i+1))+1:=by omega
   rw [hk] at hb
   have hcd:codeI v i=if authB x.a=false then 7 else if x.n<1 then 2 else if 0<i∧x.a=y.a then 8 else if 0<i∧strLt x.a y.a=true then 3 else 0:=by unfold codeI; rw [hx,hy]
   have hst:chkV v i (v.length-(i+1)+1)=if codeI v i≠0 then codeI v i else chkV v (i+1) (v.length-(i+1)):=rfl
   rw [hcd] at hst
   obtain ⟨q,hq⟩:∃ q,q=authB x.a:=⟨_,rfl⟩
   rw [← hq] at g1 hst
   cases q
   ·rw [hb,hst]
    simp (implicitDefEqProofs:=false) (disch:=omega) [gz,hlt,wrap64,nth_map,hx,hxr,s1,g1,fillC,splice]
    exact fin_nil ⟨rfl,rfl⟩
   ·by_cases c1:x.n<1
    ·rw [hb,hst]
     simp (implicitDefEqProofs:=false) (disch:=omega) [gz,hlt,wrap64,nth_map,hx,hxr,s1,g1,c1,fillC,splice]
     exact fin_nil ⟨rfl,rfl⟩
    ·by_cases c2:0<i
     ·have hi1:((i:Int)-1)=((i-1:Nat):Int):=by omega
      have hl1:i-1<v.length:=by omega
      have c2':(0:Int)<(i:Int):=by omega
      by_cases c3:x.a=y.a
      ·rw [c3] at g1
       rw [hb,hst]
       simp (implicitDefEqProofs:=false) (disch:=omega) [gz,hlt,wrap64,nth_map,hx,hxr,hy,hyr,s1,g1,c1,c2,c2',c3,hi1,hl1,binSF,fillC,splice]
       repeat' (with_reducible apply And.intro)
       all_goals first | omega | kernel_rfl | exact fun _ _=>rfl | skip
       exact fin_nil ⟨rfl,rfl⟩
      ·have c3':¬ y.a=x.a:=fun q=>c3 q.symm
       obtain ⟨p,hp⟩:∃ p,p=strLt x.a y.a:=⟨_,rfl⟩
       rw [← hp] at hst
       have hgt:strLt y.a x.a = !p:=by
        rw [hp,strLt_eq,strLt_eq]
        have h1:=cmpS_sgn y.a x.a
        have h2:cmpS x.a y.a≠0:=fun q=>c3 ((cmpS_eq _ _).1 q)
        by_cases h3:cmpS x.a y.a<0
        ·rw [decide_eq_true h3,decide_eq_false (by omega)]; rfl
        ·rw [decide_eq_false h3,decide_eq_true (by omega)]; rfl
       cases p
       ·simp only [Bool.not_false] at hgt
        simp (implicitDefEqProofs:=false) (disch:=omega) [gz,hlt,wrap64,nth_map,hx,hxr,hy,hyr,s1,g1,c1,c2,c2',c3,c3',hi1,hl1,binSF,← hp,hgt,fillC,splice]
        repeat' (with_reducible apply And.intro)
        all_goals first | omega | kernel_rfl | exact fun _ _=>rfl | skip
        subst hJ
        refine wk_nil [] [0,5,6,7] rfl ⟨v.length-(i+1),by omega,i+1,by omega,rfl,?_,?_⟩
        ·rw [hb,hst]; simp [c1,c2,c3]
        ·simp [phi,O.ren]
       ·simp only [Bool.not_true] at hgt
        rw [hb,hst]
        simp (implicitDefEqProofs:=false) (disch:=omega) [gz,hlt,wrap64,nth_map,hx,hxr,hy,hyr,s1,g1,c1,c2,c2',c3,c3',hi1,hl1,binSF,← hp,hgt,fillC,splice]
        repeat' (with_reducible apply And.intro)
        all_goals first | omega | kernel_rfl | exact fun _ _=>rfl | skip
        exact fin_nil ⟨rfl,rfl⟩
     ·have:i=0:=by omega
      subst this
      simp (implicitDefEqProofs:=false) (disch:=omega) [gz,hlt,wrap64,nth_map,hx,hxr,s1,g1,c1,fillC,splice]
      repeat' (with_reducible apply And.intro)
      all_goals first | omega | kernel_rfl | exact fun _ _=>rfl | skip
      subst hJ
      refine wk_nil [] [0,5,6,7] rfl ⟨v.length-(0+1),by omega,0+1,by omega,rfl,?_,?_⟩
      ·rw [hb,hst]; simp [c1]
      ·simp [phi,O.ren]
  ·have:i=v.length:=by omega
   subst this
   simp (implicitDefEqProofs:=false) (disch:=omega) [gz,hlt]
   subst hL
   refine ⟨by rw [hb,Nat.sub_self]; rfl,at_mk (by simp) rfl⟩
 ·rintro _ ⟨hb,sl,rfl⟩
  rw [hb]
  simp (implicitDefEqProofs:=false) (disch:=omega) [gz,wrap64]
  exact fin_nil ⟨rfl,rfl⟩
theorem injVs (a b:List Id) (h:[PVo.c (D.sl (a.map Id.row))]=[PVo.c (D.sl (b.map Id.row))]):a=b:=by
 simp only [List.cons.injEq,PVo.c.injEq,D.sl.injEq,and_true] at h
 exact ids_inj h
noncomputable def x1059:XE:=mkX true (fun (v:List Id)=>[.c (.sl (v.map Id.row))]) (fun v=>v.length<4611686018427387904∧∀ x∈v,x.a.size<4611686018427387904) (fun v=>.int .i64 (chkV v 0 v.length))
theorem kx1059:Contract Tryz.prog G0 59 x1059:=mkX_scal (fun _=>rfl) fun v h=>k1059 v h.1 h.2
theorem xg1059 (v:List Id) (h1:v.length<4611686018427387904) (h2:∀ x∈v,x.a.size<4611686018427387904):x1059.g [.c (.sl (v.map Id.row))]=some (True,.int .i64 (chkV v 0 v.length)):=mkX_g injVs v ⟨h1,h2⟩
def validI (x:Id):Bool:=authB x.a && (decide (1≤x.n) && decide (x.n≤1000000000))
theorem k1058 (x:Id) (hs:x.a.size<4611686018427387904):ACalls Tryz.prog G0 58 [.agg (x.row.map .d)] [] fun t H=>t = .bool (validI x)∧H=[]:=by
 have s1:x1057.sc=true:=rfl
 have g1:=xg1057 x.a hs
 have hxr:x.row=[.v (.string x.a),.v (.int .i64 x.n)]:=rfl
 refine acallsX (X:=[(57,x1057)]) ⟨kx1057,trivial⟩ tab hmix Tryz.func58 c1058 (by rfl) fun hw=>?_
 unfold validI
 obtain ⟨q,hq⟩:∃ q,q=authB x.a:=⟨_,rfl⟩
 rw [← hq] at g1 ⊢
 cases q
 ·simp (implicitDefEqProofs:=false) (disch:=omega) [gz,ir1058,b1058,hxr,s1,g1]
  exact fin_nil ⟨rfl,rfl⟩
 ·by_cases c1:1≤x.n
  ·by_cases c2:x.n≤1000000000
   ·simp (implicitDefEqProofs:=false) (disch:=omega) [gz,ir1058,b1058,hxr,s1,g1,c1,c2]
    exact fin_nil ⟨rfl,rfl⟩
   ·simp (implicitDefEqProofs:=false) (disch:=omega) [gz,ir1058,b1058,hxr,s1,g1,c1,c2]
    exact fin_nil ⟨rfl,rfl⟩
  ·simp (implicitDefEqProofs:=false) (disch:=omega) [gz,ir1058,b1058,hxr,s1,g1,c1]
   exact fin_nil ⟨rfl,rfl⟩
theorem injId1 (a b:Id) (h:[PVo.agg a.row]=[PVo.agg b.row]):a=b:=by
 cases a; cases b; simp [Id.row] at h; simp [h]
noncomputable def x1058:XE:=mkX true (fun (x:Id)=>[.agg x.row]) (fun x=>x.a.size<4611686018427387904) (fun x=>.bool (validI x))
theorem kx1058:Contract Tryz.prog G0 58 x1058:=mkX_scal (fun _=>rfl) fun x h=>k1058 x h
theorem xg1058 (x:Id) (h:x.a.size<4611686018427387904):x1058.g [.agg x.row]=some (True,.bool (validI x)):=mkX_g injId1 x h
def parI (x:Id):Bool:=(decide (x.a=⟨#[]⟩) && decide (x.n=0)) || validI x
theorem k1081 (x:Id) (hs:x.a.size<4611686018427387904):ACalls Tryz.prog G0 81 [.agg (x.row.map .d)] [] fun t H=>t = .bool (parI x)∧H=[]:=by
 have s1:x1058.sc=true:=rfl
 have g1:=xg1058 x hs
 have hxr:x.row=[.v (.string x.a),.v (.int .i64 x.n)]:=rfl
 refine acallsX (X:=[(58,x1058)]) ⟨kx1058,trivial⟩ tab hmix Tryz.func81 c1081 (by rfl) fun hw=>?_
 unfold parI
 rw [hxr] at g1
 obtain ⟨q,hq⟩:∃ q,q=validI x:=⟨_,rfl⟩
 rw [← hq] at g1 ⊢
 by_cases c1:x.a=⟨#[]⟩
 ·rw [c1] at g1
  by_cases c2:x.n=0
  ·simp (implicitDefEqProofs:=false) (disch:=omega) [gz,ir1081,b1081,hxr,c1,c2,fillC,splice,cellsEq,skEq]
   exact fin_nil ⟨rfl,rfl⟩
  ·simp (implicitDefEqProofs:=false) (disch:=omega) [gz,ir1081,b1081,hxr,c1,c2,s1,g1,fillC,splice,cellsEq,skEq]
   exact fin_nil ⟨rfl,rfl⟩
 ·simp (implicitDefEqProofs:=false) (disch:=omega) [gz,ir1081,b1081,hxr,c1,s1,g1,fillC,splice,cellsEq,skEq]
  exact fin_nil ⟨rfl,rfl⟩
noncomputable def x1081:XE:=mkX true (fun (x:Id)=>[.agg x.row]) (fun x=>x.a.size<4611686018427387904) (fun x=>.bool (parI x))
theorem kx1081:Contract Tryz.prog G0 81 x1081:=mkX_scal (fun _=>rfl) fun x h=>k1081 x h
theorem xg1081 (x:Id) (h:x.a.size<4611686018427387904):x1081.g [.agg x.row]=some (True,.bool (parI x)):=mkX_g injId1 x h
def plcB (x:Nv.Rt):Bool:=(decide ((Nv.normR x).neg=x.neg) && (decide ((Nv.normR x).num=x.num) && decide ((Nv.normR x).den=x.den))) && fitsR x 16
theorem k1082 (x:Nv.Rt) (h1:x.num.size<4000000000) (h2:x.den.size<4000000000):ACalls Tryz.prog G0 82 [ratV x] [] fun t H=>t = .bool (plcB x)∧H=[]:=by
 have s1:x1093.sc=true:=rfl
 have s2:x1094.sc=true:=rfl
 have g1:=xg1093 x h1 h2
 have g2:x1094.g [ratP x,.c (.v (.int .i64 16))]=some (True,.bool (fitsR x 16)):=xg1094 x 16 h1 h2
 refine acallsX (X:=[(93,x1093),(94,x1094)]) ⟨kx1093,kx1094,trivial⟩ tab hmix Tryz.func82 c1082 (by rfl) fun hw=>?_
 unfold plcB
 obtain ⟨q,hq⟩:∃ q,q=fitsR x 16:=⟨_,rfl⟩
 rw [← hq] at g2 ⊢
 obtain ⟨⟨yn,ya,yb⟩,hy⟩:∃ y,y=Nv.normR x:=⟨_,rfl⟩
 rw [← hy] at g1 ⊢
 obtain ⟨xn,xa,xb⟩:=x
 by_cases c1:yn=xn
 ·by_cases c2:ya=xa
  ·by_cases c3:yb=xb
   ·simp (implicitDefEqProofs:=false) (disch:=omega) [gz,ir1082,b1082,s1,s2,g1,g2,c1,c2,c3,cellsEq,skEq]
    exact ⟨by kernel_rfl,fin_nil ⟨rfl,rfl⟩⟩
   ·simp (implicitDefEqProofs:=false) (disch:=omega) [gz,ir1082,b1082,s1,s2,g1,c1,c2,c3,cellsEq,skEq]
    exact ⟨by kernel_rfl,fin_nil ⟨rfl,rfl⟩⟩
  ·simp (implicitDefEqProofs:=false) (disch:=omega) [gz,ir1082,b1082,s1,s2,g1,c1,c2,cellsEq,skEq]
   exact ⟨by kernel_rfl,fin_nil ⟨rfl,rfl⟩⟩
 ·simp (implicitDefEqProofs:=false) (disch:=omega) [gz,ir1082,b1082,s1,s2,g1,c1,cellsEq,skEq]
  exact ⟨by kernel_rfl,fin_nil ⟨rfl,rfl⟩⟩
noncomputable def x1082:XE:=mkX true (fun (x:Nv.Rt)=>[ratP x]) (fun x=>x.num.size<4000000000∧x.den.size<4000000000) (fun x=>.bool (plcB x))
theorem kx1082:Contract Tryz.prog G0 82 x1082:=mkX_scal (fun _=>rfl) fun x h=>k1082 x h.1 h.2
theorem xg1082 (x:Nv.Rt) (h1:x.num.size<4000000000) (h2:x.den.size<4000000000):x1082.g [ratP x]=some (True,.bool (plcB x)):=mkX_g injRat x ⟨h1,h2⟩
noncomputable def wordB (s:ByteArray):Bool:=(!decide (s=⟨#[]⟩) && decide (s.size≤24)) && decide (trimA s=⟨#[]⟩)
theorem kT95 (s:ByteArray) (h:s.size<4611686018427387904):ACalls Tryz.prog G0 95 [Sx s,Sx abc] [] fun t H=>t = .str (trimA s)∧H=[]:=kTrim s h []
noncomputable def x1095:XE:=mkX true (fun (s:ByteArray)=>[.c (.v (.string s)),.c (.v (.string abc))]) (fun s=>s.size<4611686018427387904) (fun s=>.str (trimA s))
theorem kx1095:Contract Tryz.prog G0 95 x1095:=mkX_scal (fun _=>rfl) fun s h=>kT95 s h
theorem xg1095 (s:ByteArray) (h:s.size<4611686018427387904):x1095.g [.c (.v (.string s)),.c (.v (.string ⟨#[97,98,99,100,101,102,103,104,105,106,107,108,109,110,111,112,113,114,115,116,117,118,119,120,121,122]⟩))]=some (True,.str (trimA s)):=mkX_g (fun a b h=>by simp at h; exact h) s h
theorem k1083 (s:ByteArray) (h:s.size<4611686018427387904):ACalls Tryz.prog G0 83 [Sx s] [] fun t H=>t = .bool (wordB s)∧H=[]:=by
 have s1:x1095.sc=true:=rfl
 have g1:=xg1095 s h
 refine acallsX (X:=[(95,x1095)]) ⟨kx1095,trivial⟩ tab hmix Tryz.func83 c1083 (by rfl) fun hw=>?_
 unfold wordB
 obtain ⟨q,hq⟩:∃ q,q=trimA s:=⟨_,rfl⟩
 rw [← hq] at g1 ⊢
 by_cases c1:s=⟨#[]⟩
 ·simp (implicitDefEqProofs:=false) (disch:=omega) [gz,ir1083,b1083,binSF,c1]
  exact fin_nil ⟨by simp,rfl⟩
 ·by_cases c2:s.size≤24
  ·have c2':(s.size:Int)≤24:=by omega
   by_cases c3:q=⟨#[]⟩
   ·rw [c3] at g1
    simp (implicitDefEqProofs:=false) (disch:=omega) [gz,ir1083,b1083,binSF,c1,c2',c2,c3,s1,g1]
    exact fin_nil ⟨rfl,rfl⟩
   ·simp (implicitDefEqProofs:=false) (disch:=omega) [gz,ir1083,b1083,binSF,c1,c2',c2,c3,s1,g1]
    exact fin_nil ⟨rfl,rfl⟩
  ·have c2':¬ (s.size:Int)≤24:=by omega
   simp (implicitDefEqProofs:=false) (disch:=omega) [gz,ir1083,b1083,binSF,c1,c2',c2]
   exact fin_nil ⟨rfl,rfl⟩
noncomputable def x1083:XE:=mkX true (fun (s:ByteArray)=>[.c (.v (.string s))]) (fun s=>s.size<4611686018427387904) (fun s=>.bool (wordB s))
theorem kx1083:Contract Tryz.prog G0 83 x1083:=mkX_scal (fun _=>rfl) fun s h=>k1083 s h
theorem xg1083 (s:ByteArray) (h:s.size<4611686018427387904):x1083.g [.c (.v (.string s))]=some (True,.bool (wordB s)):=mkX_g inj1s s h
theorem kSplit' (m:Int) (s:ByteArray) (hs:s.size<4294967281) (H:List O):ACalls Tryz.prog (GM m) 96 [Sx s,Sx ⟨#[44]⟩] H (Own H 1 ((parts s comma).map srow)):=kSplit m s comma hs (by decide) H
noncomputable def x1096 (m:Int):XE:=mkX false (fun (s:ByteArray)=>[.c (.v (.string s)),.c (.v (.string ⟨#[44]⟩))]) (fun s=>s.size<4294967281) (fun s=>.v (.c (.d (.sl ((parts s comma).map srow)))))
theorem kx1096 (m:Int):Contract Tryz.prog (GM m) 96 (x1096 m):=mkX_data fun s h H=>own_data (kSplit' m s h H)
theorem xg1096 (m:Int) (s:ByteArray) (h:s.size<4294967281):(x1096 m).g [.c (.v (.string s)),.c (.v (.string ⟨#[44]⟩))]=some (True,.v (.c (.d (.sl ((parts s comma).map srow))))):=mkX_g (fun a b h=>by simp at h; exact h) s h
def badO (author:ByteArray) (P:List ByteArray) (j:Nat):Bool:=(!authB (nth P j) || decide (nth P j=author)) || (decide (0<j) && !strLt (nth P (j-1)) (nth P j))
noncomputable def othB (author who:ByteArray):Bool:=decide (∀ j,j<(parts who comma).length→badO author (parts who comma) j=false)
theorem k1084 (m:Int) (author who:ByteArray) (h:who.size<4294967281):ACalls Tryz.prog (GM m) 84 [Sx author,Sx who] [] fun t H=>t = .bool (othB author who)∧H=[]:=by
 have s1:(x1096 m).sc=false:=rfl
 have s2:x1057.sc=true:=rfl
 have g1:=xg1096 m who h
 refine acallsX (X:=[(96,x1096 m),(57,x1057)]) ⟨kx1096 m,kx1057.gm,trivial⟩ tab hmix Tryz.func84 c1084 (by rfl) fun hw=>?_
 obtain ⟨P,hP⟩:∃ P,P=parts who comma:=⟨_,rfl⟩
 have hPl:=parts_le who
 have hsz:∀ j,(nth P j).size<4611686018427387904:=fun j=>by
  have:=part_small h j
  rw [← hP] at this; omega
 unfold othB
 rw [← hP] at g1 hPl ⊢
 simp (implicitDefEqProofs:=false) (disch:=omega) [gz,ir1084,b1084,wrap64,s1,g1,toPVs,frzVs,osVs,toPV]
 refine loopE (fun k st=>∃ i,i≤P.length∧k=P.length-i∧(∀ j,j<i→badO author P j=false) ∧
   st=⟨ofL [(0,.v (.c (.d (.v (.string author))))),(5,.v (.c (.d (.sl (P.map srow))))),(10,.v (.c (.d (.sl (P.map srow))))),(11,.int .i64 P.length),(12,.int .i64 i)],[]⟩)
  (fun st=>(∀ j,j<P.length→badO author P j=false)∧AtS [] [] st) ?_ ?_ ?_
 ·refine wk_keep [0,5,10,11,12] ⟨_,0,by omega,rfl,fun j hj=>by omega,?_⟩
  simp
 ·rintro J L hJ hL k st ⟨i,hi,rfl,hb,rfl⟩
  by_cases hlt:i<P.length
  ·obtain ⟨x,hx⟩:∃ x,nth P i=x:=⟨_,rfl⟩
   obtain ⟨y,hy⟩:∃ y,nth P (i-1)=y:=⟨_,rfl⟩
   have g2:=xg1057 x (by rw [← hx]; exact hsz i)
   have hbd:badO author P i=((!authB x || decide (x=author)) || (decide (0<i) && !strLt y x)):=by unfold badO; rw [hx,hy]
   obtain ⟨q,hq⟩:∃ q,q=authB x:=⟨_,rfl⟩
   rw [← hq] at g2 hbd
   have nogood:badO author P i=true→decide (∀ j,j<P.length→badO author P j=false)=false:=fun hg=>decide_eq_false fun h=>by have:=h i hlt; rw [hg] at this; cases this
   cases q
   ·rw [nogood (by rw [hbd]; rfl)]
    simp (implicitDefEqProofs:=false) (disch:=omega) [gz,hlt,wrap64,nth_map,hx,srow,s2,g2,binSF]
    exact fin_nil ⟨rfl,rfl⟩
   ·by_cases c1:x=author
    ·rw [nogood (by rw [hbd]; simp [c1])]
     rw [c1] at g2
     simp (implicitDefEqProofs:=false) (disch:=omega) [gz,hlt,wrap64,nth_map,hx,srow,s2,g2,c1,binSF]
     exact fin_nil ⟨rfl,rfl⟩
    ·by_cases c2:0<i
     ·have c2':(0:Int)<(i:Int):=by omega
      have hi1:((i:Int)-1)=((i-1:Nat):Int):=by omega
      have hl1:i-1<P.length:=by omega
      obtain ⟨p,hp⟩:∃ p,p=strLt y x:=⟨_,rfl⟩
      rw [← hp] at hbd
      cases p
      ·rw [nogood (by rw [hbd]; simp [c2])]
       simp (implicitDefEqProofs:=false) (disch:=omega) [gz,hlt,wrap64,nth_map,hx,hy,hi1,hl1,srow,s2,g2,c1,c2',c2,binSF,← hp]
       repeat' (with_reducible apply And.intro)
       all_goals first | omega | kernel_rfl | exact fun _ _=>rfl | skip
       exact fin_nil ⟨rfl,rfl⟩
      ·simp (implicitDefEqProofs:=false) (disch:=omega) [gz,hlt,wrap64,nth_map,hx,hy,hi1,hl1,srow,s2,g2,c1,c2',c2,binSF,← hp]
       repeat' (with_reducible apply And.intro)
       all_goals first | omega | kernel_rfl | exact fun _ _=>rfl | skip
       subst hJ
       refine wk_keep [0,5,10,11,12] ⟨P.length-(i+1),by omega,i+1,by omega,rfl,fun j hj=>?_,by simp⟩
       by_cases e1:j=i
       ·subst e1; rw [hbd]; simp [c1]
       ·exact hb j (by omega)
     ·have:i=0:=by omega
      subst this
      simp (implicitDefEqProofs:=false) (disch:=omega) [gz,hlt,wrap64,nth_map,hx,srow,s2,g2,c1,binSF]
      repeat' (with_reducible apply And.intro)
      all_goals first | omega | kernel_rfl | exact fun _ _=>rfl | skip
      subst hJ
      refine wk_keep [0,5,10,11,12] ⟨P.length-(0+1),by omega,0+1,by omega,rfl,fun j hj=>?_,by simp⟩
      have:j=0:=by omega
      subst this; rw [hbd]; simp [c1]
  ·have:i=P.length:=by omega
   subst this
   simp (implicitDefEqProofs:=false) (disch:=omega) [gz,hlt]
   subst hL
   exact ⟨hb,at_mk (by simp) rfl⟩
 ·rintro _ ⟨hb,sl,rfl⟩
  rw [decide_eq_true hb]
  simp (implicitDefEqProofs:=false) (disch:=omega) [gz,wrap64]
  exact fin_nil ⟨rfl,rfl⟩
def plc (e:Edit):Nv.Rt:=⟨e.neg,e.num,e.den⟩
abbrev conL (e:Edit):List D:=[.v (.string e.node.a),.v (.int .i64 e.node.n),.v (.string e.parent.a),.v (.int .i64 e.parent.n),.v (.string e.target.a),.v (.int .i64 e.target.n),.v (.bool e.neg),.v (.string e.num),.v (.string e.den),.v (.string e.field),.v (.string e.value),.v (.string e.who)]
theorem k1080 (e:Edit):ACalls Tryz.prog G0 80 [.agg (e.row.map .d)] [] fun t H=>t = .v (.agg ((conL e).map .d))∧H=[]:=by
 refine acallsX (X:=[]) trivial tab hmix Tryz.func80 c1080 (by rfl) fun hw=>?_
 have hee:=Edit.row_eq e
 simp (implicitDefEqProofs:=false) (disch:=omega) [gz,ir1080,b1080,hee,fillC,splice]
 exact fin_nil ⟨rfl,rfl⟩
theorem injE1 (a b:Edit) (h:[PVo.agg a.row]=[PVo.agg b.row]):a=b:=by
 injection h with h _; injection h with h; exact Edit.row_inj h
noncomputable def x1080:XE:=mkX true (fun (e:Edit)=>[.agg e.row]) (fun _=>True) (fun e=>.v (.agg ((conL e).map .d)))
theorem kx1080:Contract Tryz.prog G0 80 x1080:=mkX_scal (fun _=>rfl) fun e _=>k1080 e
theorem xg1080 (e:Edit):x1080.g [.agg e.row]=some (True,.v (.agg ((conL e).map .d))):=mkX_g injE1 e trivial
def zI (x:Id):Bool:=decide (x.a=⟨#[]⟩) && decide (x.n=0)
def zS (s:ByteArray):Bool:=decide (s=⟨#[]⟩)
def zP (x:Nv.Rt):Bool:=!x.neg && (zS x.num && zS x.den)
noncomputable def carB (e:Edit):Bool :=
 if e.kind=1 then (zI e.node && (zI e.target && (zS e.field && zS e.who))) && (parI e.parent && (plcB (plc e) && wordB e.value))
 else if e.kind=2 then (zI e.target && (zS e.field && (zS e.value && zS e.who))) && (validI e.node && ((parI e.parent || (decide (e.parent.a=⟨#[45]⟩) && decide (e.parent.n=0))) && plcB (plc e)))
 else if e.kind=3 then (zI e.parent && (zI e.target && (zP (plc e) && zS e.who))) && (validI e.node && wordB e.field)
 else if e.kind=4 then (zI e.node && (zI e.parent && (zP (plc e) && (zS e.field && (zS e.value && zS e.who))))) && (validI e.target && (decide (e.target.a=e.id.a) && decide (e.target.n<e.id.n)))
 else if e.kind=5 then (zI e.node && (zI e.parent && (zI e.target && (zP (plc e) && (zS e.field && zS e.value))))) && othB e.id.a e.who
 else zI e.node && (zI e.parent && (zI e.target && (zP (plc e) && (zS e.field && (zS e.value && zS e.who)))))
structure OkE (e:Edit):Prop where
 num:e.num.size<4000000000
 den:e.den.size<4000000000
 who:e.who.size<4294967281
 value:e.value.size<4611686018427387904
 field:e.field.size<4611686018427387904
 id:e.id.a.size<4611686018427387904
 node:e.node.a.size<4611686018427387904
 parent:e.parent.a.size<4611686018427387904
 target:e.target.a.size<4611686018427387904
 dl:e.deps.length<1073741824
 ds:∀ x∈e.deps,x.a.size<4611686018427387904
theorem tb {a b:Bool} (h:a=true↔b=true):T.bool a=T.bool b:=by rw [bool_ext h]
noncomputable def x1084 (m:Int):XE:=mkX true (fun (p:ByteArray×ByteArray)=>[.c (.v (.string p.1)),.c (.v (.string p.2))]) (fun p=>p.2.size<4294967281) (fun p=>.bool (othB p.1 p.2))
theorem kx1084 (m:Int):Contract Tryz.prog (GM m) 84 (x1084 m):=mkX_scal (fun _=>rfl) fun p h=>k1084 m p.1 p.2 h
theorem xg1084 (m:Int) (a w:ByteArray) (h:w.size<4294967281):(x1084 m).g [.c (.v (.string a)),.c (.v (.string w))]=some (True,.bool (othB a w)):=mkX_g inj2s (a,w) h
theorem k1060 (m:Int) (e:Edit) (h:OkE e):ACalls Tryz.prog (GM m) 60 [.agg (e.row.map .d)] [] fun t H=>t = .bool (carB e)∧H=[]:=by
 have s1:x1080.sc=true:=rfl
 have s2:x1081.sc=true:=rfl
 have s3:x1082.sc=true:=rfl
 have s4:x1083.sc=true:=rfl
 have s5:x1058.sc=true:=rfl
 have g1:=xg1080 e
 have g2:=xg1081 e.parent h.parent
 have g3:x1082.g [.agg [.v (.bool e.neg),.v (.string e.num),.v (.string e.den)]]=some (True,.bool (plcB (plc e))):=xg1082 (plc e) h.num h.den
 have g4:=xg1083 e.value h.value
 have g4f:=xg1083 e.field h.field
 have g5:=xg1058 e.node h.node
 have g5t:=xg1058 e.target h.target
 have hee:=Edit.row_eq e
 rw [hee] at g1
 rw [show e.parent.row=[.v (.string e.parent.a),.v (.int .i64 e.parent.n)] from rfl] at g2
 rw [show e.node.row=[.v (.string e.node.a),.v (.int .i64 e.node.n)] from rfl] at g5
 rw [show e.target.row=[.v (.string e.target.a),.v (.int .i64 e.target.n)] from rfl] at g5t
 have s6:(x1084 m).sc=true:=rfl
 have g6:=xg1084 m e.id.a e.who h.who
 unfold carB
 obtain ⟨p1,hp1⟩:∃ p,p=parI e.parent:=⟨_,rfl⟩
 obtain ⟨p2,hp2⟩:∃ p,p=plcB (plc e):=⟨_,rfl⟩
 obtain ⟨p3,hp3⟩:∃ p,p=wordB e.value:=⟨_,rfl⟩
 obtain ⟨p4,hp4⟩:∃ p,p=validI e.node:=⟨_,rfl⟩
 obtain ⟨p5,hp5⟩:∃ p,p=wordB e.field:=⟨_,rfl⟩
 obtain ⟨p6,hp6⟩:∃ p,p=validI e.target:=⟨_,rfl⟩
 obtain ⟨p7,hp7⟩:∃ p,p=othB e.id.a e.who:=⟨_,rfl⟩
 rw [← hp1] at g2 ⊢
 rw [← hp2] at g3 ⊢
 rw [← hp3] at g4 ⊢
 rw [← hp4] at g5 ⊢
 rw [← hp5] at g4f ⊢
 rw [← hp6] at g5t ⊢
 rw [← hp7] at g6 ⊢
 refine acallsX (X:=[(80,x1080),(81,x1081),(82,x1082),(83,x1083),(58,x1058),(84,x1084 m)]) ⟨kx1080.gm,kx1081.gm,kx1082.gm,kx1083.gm,kx1058.gm,kx1084 m,trivial⟩ tab hmix Tryz.func60 c1060 (by rfl) fun hw=>?_
 by_cases q1:e.kind=1
 ·rw [if_pos q1]
  have n1:e.kind=1:=q1
  rw [q1] at g1
  cases p1
  ·simp (implicitDefEqProofs:=false) (disch:=omega) [gz,ir1060,b1060,b1060_0,b1060_1,b1060_2,b1060_3,b1060_4,hee,q1,s1,s2,s3,s4,s5,s6,g1,g2,g3,g4,g4f,g5,g5t,g6,fillC,splice,cellsEq,skEq,binSF]
   repeat' (first | (with_reducible apply And.intro) | intro _)
   all_goals (refine fin_nil ⟨tb ?_,rfl⟩; simp [zI,zS,zP,plc]; try grind)
  ·cases p2
   ·simp (implicitDefEqProofs:=false) (disch:=omega) [gz,ir1060,b1060,b1060_0,b1060_1,b1060_2,b1060_3,b1060_4,hee,q1,s1,s2,s3,s4,s5,s6,g1,g2,g3,g4,g4f,g5,g5t,g6,fillC,splice,cellsEq,skEq,binSF]
    repeat' (first | (with_reducible apply And.intro) | intro _)
    all_goals (refine fin_nil ⟨tb ?_,rfl⟩; simp [zI,zS,zP,plc]; try grind)
   ·cases p3
    ·simp (implicitDefEqProofs:=false) (disch:=omega) [gz,ir1060,b1060,b1060_0,b1060_1,b1060_2,b1060_3,b1060_4,hee,q1,s1,s2,s3,s4,s5,s6,g1,g2,g3,g4,g4f,g5,g5t,g6,fillC,splice,cellsEq,skEq,binSF]
     repeat' (first | (with_reducible apply And.intro) | intro _)
     all_goals (refine fin_nil ⟨tb ?_,rfl⟩; simp [zI,zS,zP,plc]; try grind)
    ·simp (implicitDefEqProofs:=false) (disch:=omega) [gz,ir1060,b1060,b1060_0,b1060_1,b1060_2,b1060_3,b1060_4,hee,q1,s1,s2,s3,s4,s5,s6,g1,g2,g3,g4,g4f,g5,g5t,g6,fillC,splice,cellsEq,skEq,binSF]
     repeat' (first | (with_reducible apply And.intro) | intro _)
     all_goals (refine fin_nil ⟨tb ?_,rfl⟩; simp [zI,zS,zP,plc]; try grind)
 ·skip
  by_cases q2:e.kind=2
  ·rw [if_neg q1,if_pos q2]
   have n2:e.kind=2:=q2
   clear q1
   rw [q2] at g1
   cases p4
   ·simp (implicitDefEqProofs:=false) (disch:=omega) [gz,ir1060,b1060,b1060_0,b1060_1,b1060_2,b1060_3,b1060_4,hee,q2,s1,s2,s3,s4,s5,s6,g1,g2,g3,g4,g4f,g5,g5t,g6,fillC,splice,cellsEq,skEq,binSF]
    repeat' (first | (with_reducible apply And.intro) | intro _)
    all_goals (refine fin_nil ⟨tb ?_,rfl⟩; simp [zI,zS,zP,plc]; try grind)
   ·cases p1
    ·simp (implicitDefEqProofs:=false) (disch:=omega) [gz,ir1060,b1060,b1060_0,b1060_1,b1060_2,b1060_3,b1060_4,hee,q2,s1,s2,s3,s4,s5,s6,g1,g2,g3,g4,g4f,g5,g5t,g6,fillC,splice,cellsEq,skEq,binSF]
     repeat' (first | (with_reducible apply And.intro) | intro _)
     all_goals (refine fin_nil ⟨tb ?_,rfl⟩; simp [zI,zS,zP,plc]; try grind)
    ·cases p2
     ·simp (implicitDefEqProofs:=false) (disch:=omega) [gz,ir1060,b1060,b1060_0,b1060_1,b1060_2,b1060_3,b1060_4,hee,q2,s1,s2,s3,s4,s5,s6,g1,g2,g3,g4,g4f,g5,g5t,g6,fillC,splice,cellsEq,skEq,binSF]
      repeat' (first | (with_reducible apply And.intro) | intro _)
      all_goals (refine fin_nil ⟨tb ?_,rfl⟩; simp [zI,zS,zP,plc]; try grind)
     ·simp (implicitDefEqProofs:=false) (disch:=omega) [gz,ir1060,b1060,b1060_0,b1060_1,b1060_2,b1060_3,b1060_4,hee,q2,s1,s2,s3,s4,s5,s6,g1,g2,g3,g4,g4f,g5,g5t,g6,fillC,splice,cellsEq,skEq,binSF]
      repeat' (first | (with_reducible apply And.intro) | intro _)
      all_goals (refine fin_nil ⟨tb ?_,rfl⟩; simp [zI,zS,zP,plc]; try grind)
  ·skip
   by_cases q3:e.kind=3
   ·rw [if_neg q1,if_neg q2,if_pos q3]
    have n3:e.kind=3:=q3
    clear q1 q2
    rw [q3] at g1
    cases p4
    ·simp (implicitDefEqProofs:=false) (disch:=omega) [gz,ir1060,b1060,b1060_0,b1060_1,b1060_2,b1060_3,b1060_4,hee,q3,s1,s2,s3,s4,s5,s6,g1,g2,g3,g4,g4f,g5,g5t,g6,fillC,splice,cellsEq,skEq,binSF]
     repeat' (first | (with_reducible apply And.intro) | intro _)
     all_goals (refine fin_nil ⟨tb ?_,rfl⟩; simp [zI,zS,zP,plc]; try grind)
    ·cases p5
     ·simp (implicitDefEqProofs:=false) (disch:=omega) [gz,ir1060,b1060,b1060_0,b1060_1,b1060_2,b1060_3,b1060_4,hee,q3,s1,s2,s3,s4,s5,s6,g1,g2,g3,g4,g4f,g5,g5t,g6,fillC,splice,cellsEq,skEq,binSF]
      repeat' (first | (with_reducible apply And.intro) | intro _)
      all_goals (refine fin_nil ⟨tb ?_,rfl⟩; simp [zI,zS,zP,plc]; try grind)
     ·simp (implicitDefEqProofs:=false) (disch:=omega) [gz,ir1060,b1060,b1060_0,b1060_1,b1060_2,b1060_3,b1060_4,hee,q3,s1,s2,s3,s4,s5,s6,g1,g2,g3,g4,g4f,g5,g5t,g6,fillC,splice,cellsEq,skEq,binSF]
      repeat' (first | (with_reducible apply And.intro) | intro _)
      all_goals (refine fin_nil ⟨tb ?_,rfl⟩; simp [zI,zS,zP,plc]; try grind)
   ·skip
    by_cases q4:e.kind=4
    ·rw [if_neg q1,if_neg q2,if_neg q3,if_pos q4]
     have n4:e.kind=4:=q4
     clear q1 q2 q3
     rw [q4] at g1
     cases p6
     ·simp (implicitDefEqProofs:=false) (disch:=omega) [gz,ir1060,b1060,b1060_0,b1060_1,b1060_2,b1060_3,b1060_4,hee,q4,s1,s2,s3,s4,s5,s6,g1,g2,g3,g4,g4f,g5,g5t,g6,fillC,splice,cellsEq,skEq,binSF]
      repeat' (first | (with_reducible apply And.intro) | intro _)
      all_goals (refine fin_nil ⟨tb ?_,rfl⟩; simp [zI,zS,zP,plc]; try grind)
     ·simp (implicitDefEqProofs:=false) (disch:=omega) [gz,ir1060,b1060,b1060_0,b1060_1,b1060_2,b1060_3,b1060_4,hee,q4,s1,s2,s3,s4,s5,s6,g1,g2,g3,g4,g4f,g5,g5t,g6,fillC,splice,cellsEq,skEq,binSF]
      repeat' (first | (with_reducible apply And.intro) | intro _)
      all_goals (refine fin_nil ⟨tb ?_,rfl⟩; simp [zI,zS,zP,plc]; try grind)
    ·skip
     by_cases q5:e.kind=5
     ·rw [if_neg q1,if_neg q2,if_neg q3,if_neg q4,if_pos q5]
      have n5:e.kind=5:=q5
      clear q1 q2 q3 q4
      rw [q5] at g1
      cases p7
      ·simp (implicitDefEqProofs:=false) (disch:=omega) [gz,ir1060,b1060,b1060_0,b1060_1,b1060_2,b1060_3,b1060_4,hee,q5,s1,s2,s3,s4,s5,s6,g1,g2,g3,g4,g4f,g5,g5t,g6,fillC,splice,cellsEq,skEq,binSF]
       repeat' (first | (with_reducible apply And.intro) | intro _)
       all_goals (refine fin_nil ⟨tb ?_,rfl⟩; simp [zI,zS,zP,plc]; try grind)
      ·simp (implicitDefEqProofs:=false) (disch:=omega) [gz,ir1060,b1060,b1060_0,b1060_1,b1060_2,b1060_3,b1060_4,hee,q5,s1,s2,s3,s4,s5,s6,g1,g2,g3,g4,g4f,g5,g5t,g6,fillC,splice,cellsEq,skEq,binSF]
       repeat' (first | (with_reducible apply And.intro) | intro _)
       all_goals (refine fin_nil ⟨tb ?_,rfl⟩; simp [zI,zS,zP,plc]; try grind)
     ·rw [if_neg q1,if_neg q2,if_neg q3,if_neg q4,if_neg q5]
      simp (implicitDefEqProofs:=false) (disch:=omega) [gz,ir1060,b1060,b1060_0,b1060_1,b1060_2,b1060_3,b1060_4,hee,q1,q2,q3,q4,q5,s1,s2,s3,s4,s5,s6,g1,g2,g3,g4,g4f,g5,g5t,g6,fillC,splice,cellsEq,skEq,binSF]
      repeat' (first | (with_reducible apply And.intro) | intro _)
      all_goals (refine fin_nil ⟨tb ?_,rfl⟩; simp [zI,zS,zP,plc]; try grind)
noncomputable def x1060 (m:Int):XE:=mkX true (fun (e:Edit)=>[.agg e.row]) OkE (fun e=>.bool (carB e))
theorem kx1060 (m:Int):Contract Tryz.prog (GM m) 60 (x1060 m):=mkX_scal (fun _=>rfl) fun e h=>k1060 m e h
theorem xg1060 (m:Int) (e:Edit) (h:OkE e):(x1060 m).g [.agg e.row]=some (True,.bool (carB e)):=mkX_g injE1 e h
def rngB (e:Edit):Bool:=!validI e.id || (decide (e.clock<e.id.n) || (decide (1000000000<e.clock) || (decide (e.floor<0) || decide (e.clock≤e.floor))))
def farB (v:List Id):Bool:=v.any fun x=>decide (1000000000<x.n)
noncomputable def chkE (e:Edit):Int :=
 if authB e.id.a=false then 7 else if rngB e=true then 2 else if chkV e.deps 0 e.deps.length≠0 then chkV e.deps 0 e.deps.length
 else if farB e.deps=true then 2 else if hasN e.deps e.id.a≠e.id.n-1 then 1 else if e.kind<1∨6<e.kind then 11
 else if e.kind=3∧2000<(e.value.size:Int) then 6 else if carB e=false then 1 else 0
theorem hasN_snoc {l:List Id} {x:Id} (h:∀ y∈l,y.a≠x.a) (a:ByteArray):hasN (l ++ [x]) a=if x.a=a then x.n else hasN l a:=by
 induction l with
 | nil=>simp [hasN,prA]; by_cases q:x.a=a <;> simp [q]
 | cons y l ih =>
  have h1:=h y (List.mem_cons_self ..)
  have ih:=ih fun z hz=>h z (List.mem_cons_of_mem _ hz)
  rw [List.cons_append,hasN_step,hasN_step,ih]
  by_cases q:y.a=a
  ·rw [if_pos q,if_pos q,if_neg (fun e=>h1 (q.trans e.symm))]
  ·rw [if_neg q,if_neg q]
theorem hasN_take {v:List Id} (h:AscI v) {i:Nat} (hi:i<v.length) (a:ByteArray):hasN (v.take (i+1)) a=if (nth v i).a=a then (nth v i).n else hasN (v.take i) a:=by
 rw [take_nth hi]
 refine hasN_snoc (fun y hy=>?_) a
 obtain ⟨j,hj,rfl⟩:=List.mem_take_iff_getElem.1 hy
 have h1:=asc_lt h (i:=j) (j:=i) (by omega) hi
 rw [nth_eq (by omega)] at h1
 intro q
 have:=(cmpS_eq _ _).2 q
 omega
theorem k1029 (m:Int) (e:Edit) (h:OkE e):ACalls Tryz.prog (GM m) 29 [.agg (e.row.map .d)] [] fun t H=>t = .int .i64 (chkE e)∧H=[]:=by
 have s1:x1057.sc=true:=rfl
 have s2:x1058.sc=true:=rfl
 have s3:x1059.sc=true:=rfl
 have s4:(x1060 m).sc=true:=rfl
 have g1:=xg1057 e.id.a h.id
 have g2:=xg1058 e.id h.id
 have g3:=xg1059 e.deps (by have:=h.dl; omega) h.ds
 have g4:=xg1060 m e h
 have hdl:=h.dl
 have hee:=Edit.row_eq e
 rw [hee] at g4
 rw [show e.id.row=[.v (.string e.id.a),.v (.int .i64 e.id.n)] from rfl] at g2
 refine acallsX (X:=[(57,x1057),(58,x1058),(59,x1059),(60,x1060 m)]) ⟨kx1057.gm,kx1058.gm,kx1059.gm,kx1060 m,trivial⟩ tab hmix Tryz.func29 c1029 (by rfl) fun hw=>?_
 obtain ⟨R,hR⟩:∃ R,R=chkE e:=⟨_,rfl⟩
 have hR2:=hR
 unfold chkE at hR2
 rw [← hR]
 obtain ⟨p1,hp1⟩:∃ p,p=authB e.id.a:=⟨_,rfl⟩
 rw [← hp1] at g1 hR2
 obtain ⟨p2,hp2⟩:∃ p,p=validI e.id:=⟨_,rfl⟩
 rw [← hp2] at g2
 have hrng:rngB e=(!p2 || (decide (e.clock<e.id.n) || (decide (1000000000<e.clock) || (decide (e.floor<0) || decide (e.clock≤e.floor))))):=by rw [hp2]; rfl
 cases p1
 ·rw [hR2]
  simp (implicitDefEqProofs:=false) (disch:=omega) [gz,ir1029,b1029,b1029_0,b1029_1,hee,s1,g1]
  exact fin_nil ⟨rfl,rfl⟩
 ·rw [if_neg (by simp)] at hR2
  cases p2
  ·rw [if_pos (by rw [hrng]; rfl)] at hR2
   rw [hR2]
   simp (implicitDefEqProofs:=false) (disch:=omega) [gz,ir1029,b1029,b1029_0,b1029_1,hee,s1,g1,s2,g2]
   exact fin_nil ⟨rfl,rfl⟩
  ·by_cases c1:e.clock<e.id.n
   ·rw [if_pos (by rw [hrng]; simp [c1])] at hR2
    rw [hR2]
    simp (implicitDefEqProofs:=false) (disch:=omega) [gz,ir1029,b1029,b1029_0,b1029_1,hee,s1,g1,s2,g2,c1]
    exact fin_nil ⟨rfl,rfl⟩
   ·by_cases c2:1000000000<e.clock
    ·rw [if_pos (by rw [hrng]; simp [c2])] at hR2
     rw [hR2]
     simp (implicitDefEqProofs:=false) (disch:=omega) [gz,ir1029,b1029,b1029_0,b1029_1,hee,s1,g1,s2,g2,c1,c2]
     exact fin_nil ⟨rfl,rfl⟩
    ·by_cases c3:e.floor<0
     ·rw [if_pos (by rw [hrng]; simp [c3])] at hR2
      rw [hR2]
      simp (implicitDefEqProofs:=false) (disch:=omega) [gz,ir1029,b1029,b1029_0,b1029_1,hee,s1,g1,s2,g2,c1,c2,c3]
      exact fin_nil ⟨rfl,rfl⟩
     ·by_cases c4:e.clock≤e.floor
      ·rw [if_pos (by rw [hrng]; simp [c4])] at hR2
       rw [hR2]
       simp (implicitDefEqProofs:=false) (disch:=omega) [gz,ir1029,b1029,b1029_0,b1029_1,hee,s1,g1,s2,g2,c1,c2,c3,c4]
       exact fin_nil ⟨rfl,rfl⟩
      ·rw [if_neg (by rw [hrng]; simp [c1,c2,c3,c4])] at hR2
       obtain ⟨f,hf⟩:∃ f,f=chkV e.deps 0 e.deps.length:=⟨_,rfl⟩
       rw [← hf] at hR2 g3
       by_cases c5:f=0
       ·rw [if_neg (by simp [c5])] at hR2
        rw [c5] at g3
        have hasc:=(chk_asc (by rw [← hf]; exact c5)).1
        simp (implicitDefEqProofs:=false) (disch:=omega) [gz,ir1029,b1029,b1029_0,b1029_1,b1029_2,b1029_3,b1029_4,hee,s1,g1,s2,g2,c1,c2,c3,c4,s3,g3,wrap64]
        refine loopE (fun k st=>∃ i,i≤e.deps.length∧k=e.deps.length-i∧(∀ j,j<i→¬ 1000000000<(nth e.deps j).n) ∧
          st=⟨ofL [(1,.v (.c (.ptr 0 0))),(4,.int .i64 (hasN (e.deps.take i) e.id.a)),(42,.v (.c (.d (.sl (e.deps.map Id.row))))),(43,.int .i64 e.deps.length),(44,.int .i64 i)],[.cells (e.row.map .d)]⟩)
         (fun st=>farB e.deps=false∧AtS [(1,.v (.c (.ptr 0 0))),(4,.int .i64 (hasN e.deps e.id.a))] [.cells (e.row.map .d)] st) ?_ ?_ ?_
        ·refine wk_keep [1,4,42,43,44] ⟨_,0,by omega,rfl,fun j hj=>by omega,?_⟩
         simp [hee]; rfl
        ·rintro J L hJ hL k st ⟨i,hi,rfl,hb,rfl⟩
         by_cases hlt:i<e.deps.length
         ·obtain ⟨x,hx⟩:∃ x,nth e.deps i=x:=⟨_,rfl⟩
          have hxr:x.row=[.v (.string x.a),.v (.int .i64 x.n)]:=rfl
          have hnext:=hasN_take hasc hlt e.id.a
          rw [hx] at hnext
          by_cases c6:1000000000<x.n
          ·have hfar:farB e.deps=true:=by
            unfold farB
            rw [List.any_eq_true]
            exact ⟨x,by rw [← hx]; exact nth_mem hlt,by simp [c6]⟩
           rw [if_pos hfar] at hR2
           rw [hR2]
           simp (implicitDefEqProofs:=false) (disch:=omega) [gz,hlt,nth_map,hx,hxr,hee,c6,fillC,splice,wrap64]
           exact fin_nil ⟨rfl,rfl⟩
          ·by_cases c7:x.a=e.id.a
           ·rw [if_pos c7] at hnext
            simp (implicitDefEqProofs:=false) (disch:=omega) [gz,hlt,nth_map,hx,hxr,hee,c6,c7,binSF,fillC,splice,wrap64]
            subst hJ
            refine wk_nil [0] [1,4,42,43,44] rfl ⟨e.deps.length-(i+1),by omega,i+1,by omega,rfl,fun j hj=>?_,?_⟩
            ·by_cases q:j=i
             ·subst q; rw [hx]; exact c6
             ·exact hb j (by omega)
            ·rw [hnext]
             simp [phi,O.ren,hee]
           ·rw [if_neg c7] at hnext
            simp (implicitDefEqProofs:=false) (disch:=omega) [gz,hlt,nth_map,hx,hxr,hee,c6,c7,binSF,fillC,splice,wrap64]
            subst hJ
            refine wk_nil [0] [1,4,42,43,44] rfl ⟨e.deps.length-(i+1),by omega,i+1,by omega,rfl,fun j hj=>?_,?_⟩
            ·by_cases q:j=i
             ·subst q; rw [hx]; exact c6
             ·exact hb j (by omega)
            ·rw [hnext]
             simp [phi,O.ren,hee]
         ·have:i=e.deps.length:=by omega
          subst this
          simp (implicitDefEqProofs:=false) (disch:=omega) [gz,hlt]
          subst hL
          refine ⟨?_,at_mk (by simp) rfl⟩
          unfold farB
          rw [List.any_eq_false]
          intro x hx
          obtain ⟨j,hj,rfl⟩:=List.mem_iff_getElem.1 hx
          have:=hb j hj
          rw [nth_eq hj] at this
          simpa using this
        ·rintro _ ⟨hfar,sl,rfl⟩
         rw [if_neg (by rw [hfar]; simp)] at hR2
         obtain ⟨own,how⟩:∃ o,o=hasN e.deps e.id.a:=⟨_,rfl⟩
         rw [← how] at hR2 ⊢
         have hvid:validI e.id=true:=hp2.symm
         have hidn:1≤e.id.n∧e.id.n≤1000000000:=by
          unfold validI at hvid
          simp only [Bool.and_eq_true,decide_eq_true_eq] at hvid
          exact hvid.2
         by_cases d1:own=e.id.n-1
         ·rw [if_neg (by simp [d1])] at hR2
          by_cases d2:e.kind<1
          ·rw [if_pos (.inl d2)] at hR2
           rw [hR2]
           simp (implicitDefEqProofs:=false) (disch:=omega) [gz,b1029_5,hee,d1,d2,wrap64]
           exact fin_nil ⟨rfl,rfl⟩
          ·by_cases d3:6<e.kind
           ·rw [if_pos (.inr d3)] at hR2
            rw [hR2]
            simp (implicitDefEqProofs:=false) (disch:=omega) [gz,b1029_5,hee,d1,d2,d3,wrap64]
            exact fin_nil ⟨rfl,rfl⟩
           ·rw [if_neg (by omega)] at hR2
            obtain ⟨cb,hcb⟩:∃ c,c=carB e:=⟨_,rfl⟩
            rw [← hcb] at hR2 g4
            by_cases d4:e.kind=3
            ·by_cases d5:2000<(e.value.size:Int)
             ·rw [if_pos ⟨d4,d5⟩] at hR2
              rw [hR2]
              simp (implicitDefEqProofs:=false) (disch:=omega) [gz,b1029_5,hee,d1,d4,d5,wrap64]
              exact fin_nil ⟨rfl,rfl⟩
             ·rw [if_neg (fun q=>d5 q.2)] at hR2
              rw [d4] at g4
              cases cb
              ·rw [hR2]
               simp (implicitDefEqProofs:=false) (disch:=omega) [gz,b1029_5,b1029_6,b1029_7,hee,d1,d4,d5,wrap64,s4,g4]
               exact fin_nil ⟨rfl,rfl⟩
              ·rw [hR2]
               simp (implicitDefEqProofs:=false) (disch:=omega) [gz,b1029_5,b1029_6,b1029_7,hee,d1,d4,d5,wrap64,s4,g4]
               exact fin_nil ⟨rfl,rfl⟩
            ·rw [if_neg (fun q=>d4 q.1)] at hR2
             cases cb
             ·rw [hR2]
              simp (implicitDefEqProofs:=false) (disch:=omega) [gz,b1029_5,b1029_6,b1029_7,hee,d1,d2,d3,d4,wrap64,s4,g4]
              exact fin_nil ⟨rfl,rfl⟩
             ·rw [hR2]
              simp (implicitDefEqProofs:=false) (disch:=omega) [gz,b1029_5,b1029_6,b1029_7,hee,d1,d2,d3,d4,wrap64,s4,g4]
              exact fin_nil ⟨rfl,rfl⟩
         ·rw [if_pos d1] at hR2
          rw [hR2]
          simp (implicitDefEqProofs:=false) (disch:=omega) [gz,b1029_5,hee,d1,wrap64]
          exact fin_nil ⟨rfl,rfl⟩
       ·rw [if_pos c5] at hR2
        rw [hR2]
        simp (implicitDefEqProofs:=false) (disch:=omega) [gz,ir1029,b1029,b1029_0,b1029_1,b1029_2,hee,s1,g1,s2,g2,c1,c2,c3,c4,s3,g3,c5]
        exact fin_nil ⟨rfl,rfl⟩
noncomputable def x1029 (m:Int):XE:=mkX true (fun (e:Edit)=>[.agg e.row]) OkE (fun e=>.int .i64 (chkE e))
theorem kx1029 (m:Int):Contract Tryz.prog (GM m) 29 (x1029 m):=mkX_scal (fun _=>rfl) fun e h=>k1029 m e h
theorem xg1029 (m:Int) (e:Edit) (h:OkE e):(x1029 m).g [.agg e.row]=some (True,.int .i64 (chkE e)):=mkX_g injE1 e h
theorem chkE_val {e:Edit} (h:chkE e=0):ValE e:=by
 unfold chkE at h
 split at h
 ·cases h
 ·split at h
  ·cases h
  ·rename_i h2
   split at h
   ·rename_i h3; exact absurd h h3
   ·rename_i h3
    split at h
    ·cases h
    ·split at h
     ·cases h
     ·rename_i h5
      have h3:chkV e.deps 0 e.deps.length=0:=Classical.byContradiction h3
      obtain ⟨a,b⟩:=chk_asc h3
      have hid:1≤e.id.n:=by
       have:rngB e=false:=by simpa using h2
       unfold rngB at this
       simp only [Bool.or_eq_false_iff,Bool.not_eq_false'] at this
       have hv:=this.1
       unfold validI at hv
       simp only [Bool.and_eq_true,decide_eq_true_eq] at hv
       exact hv.2.1
      exact ⟨a,b,hid,Classical.byContradiction h5⟩
end Go.Aw.Try
namespace Go.Aw
open Go
section
variable {P:Program} {G:Gl} {N0:Nat}
theorem fn_rel {ρ:Nat→Option Nat} {H:List O} {w:World} {r f:Nat} {ds:List D} (hH:HRel P ρ H w) (hr:H[r]? = some (.cells (ds.map .d))) {v:Value} (hv:CRel P (ctx ρ H w) (.fn f [(r,0)]) v) :
  HRel P ρ (H.set r .dead) w∧(ctx ρ H w).le (ctx ρ (H.set r .dead) w)∧DRel (stab ρ (H.set r .dead) w) w (.fn f [.ip ds]) v:=by
 obtain ⟨cv,rfl,h2,h3⟩:=hv
 obtain ⟨q1,b,q2,q3⟩:=h3 0 r 0 rfl
 obtain ⟨g,l,d⟩:=ip_rel (v:=.pointer (some ⟨b,0,none⟩)) hH hr ⟨q1,b,q2,rfl⟩
 refine ⟨g,l,DRel.fn f _ cv (by rw [h2]; rfl) fun i x hi=>?_⟩
 cases i with
 | succ i=>simp at hi
 | zero =>
  simp at hi
  subst hi
  rw [Array.getD_eq_getD_getElem?,q3]
  exact d
theorem fweak_fn {H:List O} {r f:Nat} {ds:List D} (hr:H[r]? = some (.cells (ds.map .d))) (hN:N0≤H.length):FWeak P N0 (.v (.c (.fn f [(r,0)]))) H (.v (.c (.d (.fn f [.ip ds])))) (H.set r .dead):=by
 refine ⟨by rw [List.length_set]; exact hN,fun ρ w v hH ht=>?_⟩
 obtain ⟨g,le,hd⟩:=fn_rel hH hr ht
 exact ⟨ρ,g,hd,fun _ _=>rfl,le.step.sub⟩
theorem fin_fn {H:List O} {R:T→List O→Prop} {f:Nat} {ds:List D} {cs:List C} (hw:Wf H) (hcs:cs=ds.map .d) (h:R (.v (.c (.d (.fn f [.ip ds])))) H):Fin P H.length R (.v (.c (.fn f [(H.length,0)]))) (H ++ [.cells cs]):=by
 subst hcs
 refine fin_weak (fweak_fn (ds:=ds) (by simp) (by simp)) ?_
 rw [List.set_append_right _ _ (Nat.le_refl _)]
 exact fin_drop hw h
end
end Go.Aw
namespace Go.Aw.Try
open Go Go.Proofs Go.Aw
set_option maxRecDepth 100000
set_option maxHeartbeats 4000000
theorem k60m (pr:Edit→Bool) (g:Nat) (cps:List (List D)) (xg:XE) (hx:Contract Tryz.prog G0 g xg) (hsc:xg.sc=true)
  (es:List (Edit)) (hxg:∀ e∈es,xg.g (.agg (Edit.row e) :: cps.map fun cs=>.c (.ip cs))=some (True,.bool (pr e))) (hl:es.length<4611686018427387904) :
  ACalls Tryz.prog G0 30 [.c (.d (.sl (es.map Edit.row))),.c (.d (.fn g (cps.map .ip)))] [] fun t H=>t = .int .i64 (idxF pr 0 es)∧H=[]:=by
 have hrow:=fun e=>erow e
 refine acallsX (X:=[(g,xg)]) ⟨hx,trivial⟩ tab hmix Tryz.func30 c60 (by rfl) fun hw=>?_
 simp (implicitDefEqProofs:=false) (disch:=omega) [gz,ir60,b60,wrap64]
 refine loopG (fun k s=>∃ i,i≤es.length∧k=es.length-i∧idxF pr 0 es=idxF pr i (es.drop i) ∧
  s=⟨ofL [(0,.v (.c (.d (.sl (es.map Edit.row))))),(1,.v (.c (.d (.fn g (cps.map .ip))))),(7,.int .i64 es.length),(8,.int .i64 i)],[]⟩) ?_ ?_
 ·refine wk_keep [0,1,7,8] ⟨_,0,by omega,rfl,rfl,?_⟩
  simp
 ·rintro J hJ k s ⟨i,hi,rfl,hid,rfl⟩
  by_cases hlt:i<es.length
  ·have hst:=idxF_step pr hlt
   have hxg:=hxg _ (nth_mem hlt)
   simp (implicitDefEqProofs:=false) (disch:=omega) [gz,hlt,wrap64,nth_map,(erow _).len,take_of_len,(erow _).mapO,(erow _).tk,(erow _).nrm,borRow,(erow _).cl,borV_map,osR_map,frz_map,nth_set_ne,(erow _).spl (erow _),mapO_ipc,hsc,hxg]
   refine ⟨fun h=>?_,fun h=>?_⟩
   ·rw [if_pos h] at hst
    exact fin_nil ⟨by rw [hid,hst]; rfl,rfl⟩
   ·rw [if_neg (by simp [h])] at hst
    subst hJ
    refine wk_keep [0,1,7,8] ⟨es.length-(i+1),by omega,i+1,by omega,rfl,by rw [hid,hst],?_⟩
    simp
  ·simp (implicitDefEqProofs:=false) (disch:=omega) [gz,hlt]
   rw [hid,List.drop_eq_nil_of_le (by omega)]
   exact fin_nil ⟨rfl,rfl⟩
def x60m (pr:Edit→Bool) (g:Nat) (cps:List (List D)) (es:List (Edit)):XE:=⟨true,fun ps=>some (ps=[.c (.sl (es.map Edit.row)),.c (.fn g (cps.map .ip))],.int .i64 (idxF pr 0 es))⟩
theorem kx60m (pr:Edit→Bool) (g:Nat) (cps:List (List D)) (xg:XE) (hx:Contract Tryz.prog G0 g xg) (hsc:xg.sc=true)
  (es:List (Edit)) (hxg:∀ e∈es,xg.g (.agg (Edit.row e) :: cps.map fun cs=>.c (.ip cs))=some (True,.bool (pr e))) (hl:es.length<4611686018427387904):Contract Tryz.prog G0 30 (x60m pr g cps es):=contract_sc fun ps ob t h ho=>by
 injection h with h; injection h with h1 h2; subst h2; subst h1
 subst ho
 exact ⟨rfl,k60m pr g cps xg hx hsc es hxg hl⟩
theorem idxF_any {α:Type} [Inhabited α] (pr:α→Bool):∀ (l:List α) (k:Nat),(0≤idxF pr k l→l.any pr=true)∧(l.any pr=true→0≤idxF pr k l)
 | [],k=>⟨fun h=>by simp [idxF] at h,fun h=>by simp at h⟩
 | x :: l,k=>by
  simp only [idxF,List.any_cons]
  by_cases hx:pr x=true
  ·simp [hx]
  ·simp only [if_neg hx,Bool.not_eq_true] at *
   rw [hx]
   simpa using idxF_any pr l (k+1)
theorem k82m (pr:Edit→Bool) (g:Nat) (cps:List (List D)) (xg:XE) (hx:Contract Tryz.prog G0 g xg) (hsc:xg.sc=true)
  (es:List (Edit)) (hxg:∀ e∈es,xg.g (.agg (Edit.row e) :: cps.map fun cs=>.c (.ip cs))=some (True,.bool (pr e))) (hl:es.length<4611686018427387904) :
  ACalls Tryz.prog G0 33 [.c (.d (.sl (es.map Edit.row))),.c (.d (.fn g (cps.map .ip)))] [] fun t H=>t = .bool (es.any pr)∧H=[]:=by
 have h1:(x60m pr g cps es).sc=true:=rfl
 refine acallsX (X:=[(30,x60m pr g cps es)]) ⟨kx60m pr g cps xg hx hsc es hxg hl,trivial⟩ tab hmix Tryz.func33 c82 (by rfl) fun hw=>?_
 have ha:=idxF_any pr es 0
 by_cases h:0≤idxF pr 0 es
 ·rw [ha.1 h]
  simp (implicitDefEqProofs:=false) (disch:=omega) [gz,ir82,b82,h1,x60m,h]
  exact fin_nil ⟨rfl,rfl⟩
 ·have:es.any pr=false:=by
   cases hb:es.any pr
   ·rfl
   ·exact absurd (ha.2 hb) h
  rw [this]
  simp (implicitDefEqProofs:=false) (disch:=omega) [gz,ir82,b82,h1,x60m,h]
  exact fin_nil ⟨rfl,rfl⟩
theorem k1048 (pr:Id→Bool) (g:Nat) (cps:List (List D)) (xg:XE) (hx:Contract Tryz.prog G0 g xg) (hsc:xg.sc=true)
  (hxg:∀ e,xg.g (.agg (Id.row e) :: cps.map fun cs=>.c (.ip cs))=some (True,.bool (pr e))) (es:List Id) (hl:es.length<4611686018427387904) :
  ACalls Tryz.prog G0 48 [.c (.d (.sl (es.map Id.row))),.c (.d (.fn g (cps.map .ip)))] [] fun t H=>t = .bool (es.any pr)∧H=[]:=by
 have h1:(x619 pr g cps es).sc=true:=rfl
 refine acallsX (X:=[(70,x619 pr g cps es)]) ⟨kx619 pr g cps xg hx hsc hxg es hl,trivial⟩ tab hmix Tryz.func48 c1048 (by rfl) fun hw=>?_
 have ha:=idxF_any pr es 0
 by_cases h:0≤idxF pr 0 es
 ·rw [ha.1 h]
  simp (implicitDefEqProofs:=false) (disch:=omega) [gz,ir1048,b1048,h1,x619,h]
  exact fin_nil ⟨rfl,rfl⟩
 ·have:es.any pr=false:=by
   cases hb:es.any pr
   ·rfl
   ·exact absurd (ha.2 hb) h
  rw [this]
  simp (implicitDefEqProofs:=false) (disch:=omega) [gz,ir1048,b1048,h1,x619,h]
  exact fin_nil ⟨rfl,rfl⟩
def x1048 (pr:Id→Bool) (g:Nat) (cps:List (List D)) (es:List Id):XE:=⟨true,fun ps=>some (ps=[.c (.sl (es.map Id.row)),.c (.fn g (cps.map .ip))],.bool (es.any pr))⟩
theorem kx1048 (pr:Id→Bool) (g:Nat) (cps:List (List D)) (xg:XE) (hx:Contract Tryz.prog G0 g xg) (hsc:xg.sc=true)
  (hxg:∀ e,xg.g (.agg (Id.row e) :: cps.map fun cs=>.c (.ip cs))=some (True,.bool (pr e))) (es:List Id) (hl:es.length<4611686018427387904):Contract Tryz.prog G0 48 (x1048 pr g cps es):=contract_sc fun ps ob t h ho=>by
 injection h with h; injection h with h1 h2; subst h2; subst h1
 subst ho
 exact ⟨rfl,k1048 pr g cps xg hx hsc hxg es hl⟩
theorem k1061 (e:Edit) (x:Id):ACalls Tryz.prog G0 61 [.agg (e.row.map .d),.c (.d (.ip x.row))] [] fun t H=>t = .bool (decide (e.id=x))∧H=[]:=by
 refine acallsX (X:=[]) trivial tab hmix Tryz.func61 c1061 (by rfl) fun hw=>?_
 have hee:=Edit.row_eq e
 have hxe:x.row=[.v (.string x.a),.v (.int .i64 x.n)]:=rfl
 simp (implicitDefEqProofs:=false) (disch:=omega) [gz,ir1061,b1061,hee,hxe,cellsEq,skEq,fillC,splice]
 exact fin_nil ⟨tb (by simp [Id.eq_iff]),rfl⟩
theorem injEI (a b:Edit×Id) (h:[PVo.agg a.1.row,PVo.c (.ip a.2.row)]=[PVo.agg b.1.row,.c (.ip b.2.row)]):a=b:=by
 simp only [List.cons.injEq,PVo.c.injEq,D.ip.injEq,PVo.agg.injEq] at h
 exact Prod.ext (Edit.row_inj h.1) (Id.row_inj h.2.1)
noncomputable def x1061:XE:=mkX true (fun (p:Edit×Id)=>[.agg p.1.row,.c (.ip p.2.row)]) (fun _=>True) (fun p=>.bool (decide (p.1.id=p.2)))
theorem kx1061:Contract Tryz.prog G0 61 x1061:=mkX_scal (fun _=>rfl) fun p _=>k1061 p.1 p.2
theorem xg1061 (e:Edit) (x:Id):x1061.g [.agg e.row,.c (.ip x.row)]=some (True,.bool (decide (e.id=x))):=mkX_g injEI (e,x) trivial
theorem k1049 (x:Id) (v:List Id) (h:AscI v) (hl:v.length<4611686018427387904):ACalls Tryz.prog G0 49 [.agg (x.row.map .d),.c (.d (.ip [.sl (v.map Id.row)]))] [] fun t H=>t = .bool (!conI v x)∧H=[]:=by
 have s1:x517.sc=true:=rfl
 have g1:=xg517 v x h hl
 refine acallsX (X:=[(19,x517)]) ⟨kx517,trivial⟩ tab hmix Tryz.func49 c1049 (by rfl) fun hw=>?_
 have hxe:x.row=[.v (.string x.a),.v (.int .i64 x.n)]:=rfl
 rw [hxe] at g1
 simp (implicitDefEqProofs:=false) (disch:=omega) [gz,ir1049,b1049,hxe,s1,g1]
 exact fin_nil ⟨rfl,rfl⟩
theorem injIV (a b:Id×List Id) (h:[PVo.agg a.1.row,PVo.c (.ip [D.sl (a.2.map Id.row)])]=[PVo.agg b.1.row,.c (.ip [.sl (b.2.map Id.row)])]):a=b:=by
 simp only [List.cons.injEq,PVo.c.injEq,D.ip.injEq,PVo.agg.injEq,D.sl.injEq] at h
 exact Prod.ext (Id.row_inj h.1) (ids_inj h.2.1.1)
noncomputable def x1049:XE:=mkX true (fun (p:Id×List Id)=>[.agg p.1.row,.c (.ip [.sl (p.2.map Id.row)])]) (fun p=>AscI p.2∧p.2.length<4611686018427387904) (fun p=>.bool (!conI p.2 p.1))
theorem kx1049:Contract Tryz.prog G0 49 x1049:=mkX_scal (fun _=>rfl) fun p h=>k1049 p.1 p.2 h.1 h.2
theorem xg1049 (x:Id) (v:List Id) (h:AscI v) (hl:v.length<4611686018427387904):x1049.g [.agg x.row,.c (.ip [.sl (v.map Id.row)])]=some (True,.bool (!conI v x)):=mkX_g injIV (x,v) ⟨h,hl⟩
theorem k1018 (v d:List Id) (h:AscI v) (hl:v.length<4611686018427387904) (hd:d.length<4611686018427387904):ACalls Tryz.prog G0 18 [.c (.d (.sl (v.map Id.row))),.c (.d (.sl (d.map Id.row)))] [] fun t H=>t = .bool (covB v d)∧H=[]:=by
 obtain ⟨X,hX⟩:∃ X,X=x1048 (fun x=>!conI v x) 49 [[.sl (v.map Id.row)]] d:=⟨_,rfl⟩
 have s1:X.sc=true:=by rw [hX]; rfl
 have g1:X.g [.c (.sl (d.map Id.row)),.c (.fn 49 [.ip [.sl (v.map Id.row)]])]=some (True,.bool (d.any fun x=>!conI v x)):=by
  rw [hX]; simp [x1048]
 have k1:Contract Tryz.prog G0 48 X:=by rw [hX]; exact kx1048 (fun x=>!conI v x) 49 [[.sl (v.map Id.row)]] x1049 kx1049 rfl (fun e=>xg1049 e v h hl) d hd
 refine acallsX (X:=[(48,X)]) ⟨k1,trivial⟩ tab hmix Tryz.func18 c1018 (by rfl) fun hw=>?_
 simp (implicitDefEqProofs:=false) (disch:=omega) [gz,ir1018,b1018,s1,g1]
 refine fin_nil ⟨tb ?_,rfl⟩
 unfold covB
 simp
noncomputable def x1018:XE:=mkX true (fun (p:List Id×List Id)=>[.c (.sl (p.1.map Id.row)),.c (.sl (p.2.map Id.row))]) (fun p=>AscI p.1∧p.1.length<4611686018427387904∧p.2.length<4611686018427387904) (fun p=>.bool (covB p.1 p.2))
theorem kx1018:Contract Tryz.prog G0 18 x1018:=mkX_scal (fun _=>rfl) fun p h=>k1018 p.1 p.2 h.1 h.2.1 h.2.2
theorem injVV (a b:List Id×List Id) (h:[PVo.c (D.sl (a.1.map Id.row)),PVo.c (.sl (a.2.map Id.row))]=[PVo.c (.sl (b.1.map Id.row)),.c (.sl (b.2.map Id.row))]):a=b:=by
 simp only [List.cons.injEq,PVo.c.injEq,D.sl.injEq] at h
 exact Prod.ext (ids_inj h.1) (ids_inj h.2.1)
theorem xg1018 (v d:List Id) (h:AscI v) (hl:v.length<4611686018427387904) (hd:d.length<4611686018427387904):x1018.g [.c (.sl (v.map Id.row)),.c (.sl (d.map Id.row))]=some (True,.bool (covB v d)):=mkX_g injVV (v,d) ⟨h,hl,hd⟩
theorem k1064 (e:Edit) (v:List Id) (h:AscI v) (hl:v.length<4611686018427387904) (hd:e.deps.length<4611686018427387904):ACalls Tryz.prog G0 64 [.agg (e.row.map .d),.c (.d (.ip [.sl (v.map Id.row)]))] [] fun t H=>t = .bool (covB v e.deps)∧H=[]:=by
 have s1:x1018.sc=true:=rfl
 have g1:=xg1018 v e.deps h hl hd
 refine acallsX (X:=[(18,x1018)]) ⟨kx1018,trivial⟩ tab hmix Tryz.func64 c1064 (by rfl) fun hw=>?_
 have hee:=Edit.row_eq e
 simp (implicitDefEqProofs:=false) (disch:=omega) [gz,ir1064,b1064,hee,s1,g1]
 exact fin_nil ⟨rfl,rfl⟩
theorem injEV (a b:Edit×List Id) (h:[PVo.agg a.1.row,PVo.c (.ip [D.sl (a.2.map Id.row)])]=[PVo.agg b.1.row,.c (.ip [.sl (b.2.map Id.row)])]):a=b:=by
 simp only [List.cons.injEq,PVo.c.injEq,D.ip.injEq,PVo.agg.injEq,D.sl.injEq] at h
 exact Prod.ext (Edit.row_inj h.1) (ids_inj h.2.1.1)
noncomputable def x1064:XE:=mkX true (fun (p:Edit×List Id)=>[.agg p.1.row,.c (.ip [.sl (p.2.map Id.row)])]) (fun p=>AscI p.2∧p.2.length<4611686018427387904∧p.1.deps.length<4611686018427387904) (fun p=>.bool (covB p.2 p.1.deps))
theorem kx1064:Contract Tryz.prog G0 64 x1064:=mkX_scal (fun _=>rfl) fun p h=>k1064 p.1 p.2 h.1 h.2.1 h.2.2
theorem xg1064 (e:Edit) (v:List Id) (h:AscI v) (hl:v.length<4611686018427387904) (hd:e.deps.length<4611686018427387904):x1064.g [.agg e.row,.c (.ip [.sl (v.map Id.row)])]=some (True,.bool (covB v e.deps)):=mkX_g injEV (e,v) ⟨h,hl,hd⟩
theorem k1031 (x:Id) (H:List O):ACalls Tryz.prog G0 31 [.agg (x.row.map .d)] H fun t H'=>t = .v (.c (.d (.fn 61 [.ip x.row])))∧H'=H:=by
 refine acallsX (X:=[]) trivial tab hmix Tryz.func31 c1031 (by rfl) fun hw=>?_
 have hxe:x.row=[.v (.string x.a),.v (.int .i64 x.n)]:=rfl
 simp (implicitDefEqProofs:=false) (disch:=omega) [gz,ir1031,b1031,hxe,fillC,splice]
 exact fin_fn (ds:=x.row) hw rfl ⟨rfl,rfl⟩
theorem k1035 (v:List Id) (H:List O):ACalls Tryz.prog G0 35 [.c (.d (.sl (v.map Id.row)))] H fun t H'=>t = .v (.c (.d (.fn 64 [.ip [.sl (v.map Id.row)]])))∧H'=H:=by
 refine acallsX (X:=[]) trivial tab hmix Tryz.func35 c1035 (by rfl) fun hw=>?_
 simp (implicitDefEqProofs:=false) (disch:=omega) [gz,ir1035,b1035,fillC,splice]
 exact fin_fn (ds:=[.sl (v.map Id.row)]) hw rfl ⟨rfl,rfl⟩
noncomputable def x1031:XE:=mkX false (fun (x:Id)=>[.agg x.row]) (fun _=>True) (fun x=>.v (.c (.d (.fn 61 [.ip x.row]))))
theorem kx1031:Contract Tryz.prog G0 31 x1031:=mkX_data fun x _ H=>k1031 x H
theorem xg1031 (x:Id):x1031.g [.agg x.row]=some (True,.v (.c (.d (.fn 61 [.ip x.row])))):=mkX_g (fun a b h=>by simp at h; exact Id.row_inj h) x trivial
noncomputable def x1035:XE:=mkX false (fun (v:List Id)=>[.c (.sl (v.map Id.row))]) (fun _=>True) (fun v=>.v (.c (.d (.fn 64 [.ip [.sl (v.map Id.row)]]))))
theorem kx1035:Contract Tryz.prog G0 35 x1035:=mkX_data fun x _ H=>k1035 x H
theorem xg1035 (v:List Id):x1035.g [.c (.sl (v.map Id.row))]=some (True,.v (.c (.d (.fn 64 [.ip [.sl (v.map Id.row)]])))):=mkX_g (fun a b h=>by simp at h; exact ids_inj h) v trivial
end Go.Aw.Try
namespace Go.Aw
open Go
section
variable {P:Program} {G:Gl} {tt:TT}
theorem acalls_introH (k:Nat) (htab:tabB P tt=true) (hmix:P.follows .mixedOrders=true) {f:Nat} {fn:Func} {af:AF} (hf:P.funcs[f]? = some fn) (hc:compF tt fn=some af) {args:List V} {H:List O} {R:T→List O→Prop} (hn:Nat.ble args.length af.n=true)
  (h:wcode P G H.length af.body (holes k ⟨argSl args,H⟩) (retQ P H.length af.res R)):ACalls P G f args H R:=by
 unfold compF at hc
 split at hc
 ·rename_i c hb
  split at hc
  ·cases hc
  ·rename_i hname
   split at hc
   ·rename_i bd rs hbd hrs
    injection hc with hc; subst hc
    refine ⟨⟨fn,hf,by rw [hb]; rfl,by simpa using hname⟩,fun ρ w vs hH hG hv=>?_⟩
    refine calls_of_wp hf hb ?_
    let bs:Base:=⟨stab ρ H w,w,ρ,H.length⟩
    have hle:vs.size≤fn.ntmps:=by rw [hv.1]; exact Nat.le_of_ble_eq_true hn
    ·have hsim:Sim P G fn.ntmps bs ρ ⟨argSl args,H⟩ { tmps:=vs ++ Array.replicate (fn.ntmps-vs.size) undef,defers:=[] } w:=by
      refine ⟨hH,by simp; omega,rfl,fun t=>?_,hG,.refl _⟩
      show TRel P _ (argSl args t) _
      unfold argSl
      split
      ·rename_i x hx
       have hlt:t<vs.size:=by rw [hv.1]; exact lt_of_get hx
       refine hv.2 t x _ hx ?_
       rw [Array.getD_eq_getD_getElem?,Array.getElem?_append,if_pos hlt]
       simp [hlt]
      ·trivial
     have hgood:bs.good H.length:=⟨rfl,fun r x hr=>(hH.small r x hr).1⟩
     refine wp_mono (code_sound htab hmix hgood c bd hbd _ ρ _ _ w h (sim_holes hsim k)) ?_
     have fin:∀ ρ' st' a' w',Sim P G fn.ntmps bs ρ' st' a' w'→(match resL st' rs with | some l=>Fin P H.length R (resT l) st'.hp | none=>False) →
       a'.defers=[]∧∃ v,(results fn a'.tmps).run P w' = .ok v w'∧∃ v' t ρ'' H',Ending.returned v = .returned v'∧R t H'∧HRel P ρ'' H' w'∧TRel P (ctx ρ'' H' w') t v'∧(ctx ρ H w).le (ctx ρ'' H' w'):=by
      intro ρ' st' a' w' hs' hfin
      refine ⟨hs'.defers,?_⟩
      split at hfin
      ·rename_i l hl
       obtain ⟨vs',q1,q2,q3⟩:=res_run htab hs' fn.results.toList rs l hrs hl
       have hrel:TRel P (ctx ρ' st'.hp w') (resT l) (if h:vs'.toArray.size=1 then vs'.toArray[0] else .tuple vs'.toArray):=by
        unfold resT
        split
        ·rename_i v0
         match vs',q2,q3 with
         | [u],_,q3=>exact q3 0 _ _ rfl rfl
        ·rename_i hne
         have:¬ vs'.toArray.size=1:=by
          intro e
          rw [List.size_toArray,q2] at e
          obtain ⟨x,hx⟩:=List.length_eq_one_iff.1 e
          exact hne x hx
         rw [dif_neg this]
         exact ⟨_,rfl,by simpa using q2,fun i c v hi hv=>q3 i c v hi (by simpa using hv)⟩
       obtain ⟨t',H',⟨hN,hw⟩,hR⟩:=hfin
       obtain ⟨ρ'',g1,g2,g3,g4⟩:=hw ρ' w' _ hs'.heap hrel
       refine ⟨_,?_,_,t',ρ'',H',rfl,hR,g1,g2,fun r x hr=>?_,by simpa [ctx] using hN,hs'.le.step.more g4⟩
       ·unfold results
        rw [Sem.run_bind,Array.mapM_eq_mapM_toList,Sem.run_map]
        erw [q1]
        rfl
       ·show ρ'' r=some x
        rw [g3 r (hH.small r x hr).1]
        exact hs'.le.ρ r x hr
      ·exact hfin.elim
     intro e a' w' hp
     cases e with
     | normal=>obtain ⟨ρ',st',hs',h'⟩:=hp; exact fin ρ' st' a' w' hs' h'
     | ret=>obtain ⟨ρ',st',hs',h'⟩:=hp; exact fin ρ' st' a' w' hs' h'
     | exit id=>obtain ⟨ρ',st',hs',h'⟩:=hp; exact h'.elim
     | goto l=>exact hp.elim
     | panic ch=>exact hp.elim
     | outgrown=>exact hp.elim
   ·cases hc
 ·cases hc
theorem acallsH (k:Nat) {X:XT} (hX:GoodX P G X) (htab:tabB P tt=true) (hmix:P.follows .mixedOrders=true) {f:Nat} {fn:Func} {af:AF} (hf:P.funcs[f]? = some fn) (hc:compF tt fn=some af) {args:List V} {H:List O} {R:T→List O→Prop} (hn:Nat.ble args.length af.n=true)
  (h:Wf H→wcodeX P G X H.length af.body (holes k ⟨argSl args,H⟩) (retQ P H.length af.res R)):ACalls P G f args H R:=by
 have hcal:Callable P f:=by
  have hc':=hc
  unfold compF at hc'
  split at hc'
  ·rename_i c hb
   split at hc'
   ·cases hc'
   ·rename_i hname
    exact ⟨fn,hf,by rw [hb]; rfl,by simpa using hname⟩
  ·cases hc'
 exact ⟨hcal,fun ρ w vs hH=>(acalls_introH k htab hmix hf hc hn (wcodeX_sound hX (h (wf_of hH)))).2 ρ w vs hH⟩
end
end Go.Aw
namespace Go.Aw.Try
open Go Go.Proofs Go.RowKit Go.Lib
set_option maxRecDepth 100000
set_option maxHeartbeats 4000000
abbrev zEdit:Value:=.agg #[.string ⟨#[]⟩,.int .i64 0,.int .i64 0,.int .i64 0,.slice none 0 0,.int .i64 0,.string ⟨#[]⟩,.int .i64 0,.string ⟨#[]⟩,.int .i64 0,.bool false,.string ⟨#[]⟩,.string ⟨#[]⟩,.string ⟨#[]⟩,.string ⟨#[]⟩,.string ⟨#[]⟩,.int .i64 0,.string ⟨#[]⟩]
theorem zEdit_cells:(Builtin.zeroCells zEdit.cells 1).toList=[.string ⟨#[]⟩,.int .i64 0,.int .i64 0,.int .i64 0,.slice none 0 0,.int .i64 0,.string ⟨#[]⟩,.int .i64 0,.string ⟨#[]⟩,.int .i64 0,.bool false,.string ⟨#[]⟩,.string ⟨#[]⟩,.string ⟨#[]⟩,.string ⟨#[]⟩,.string ⟨#[]⟩,.int .i64 0,.string ⟨#[]⟩]:=by kernel_rfl
theorem run_clear_any {P:Program} (w:World) (t e ty:TypeId) (z:Value) (ht:P.underlying t=some (.slice e)) (hv:∀ w,(zeroValue e).run P w = .ok z w) (h1:∀ v∈(Builtin.zeroCells z.cells 1).toList,v.oneCell'=true) (b o c:Nat) 
  (hc:∀ j,j<(Builtin.zeroCells z.cells 1).size→(w.cell? ⟨b,o+j,none⟩).isSome=true) (hf:∀ j,j<(Builtin.zeroCells z.cells 1).size→w.frozen? ⟨b,o+j,none⟩=false) :
  (Builtin.clear_ #[t] ty #[.slice (some ⟨b,o,none⟩) 1 c]).run P w = .ok (.tuple #[]) (w.setCells b o (Builtin.zeroCells z.cells 1).toList):=by
 have hst:=run_storeCells_cells (P:=P) b o (Builtin.zeroCells z.cells 1).toList 0 w (by simpa using hc) (by simpa using hf) h1
 simp only [Nat.add_zero] at hst
 simp [Builtin.clear_,run_underlying ht,hv,hst]
theorem i36:(Tryz.prog.info? 36).map (fun i=>(i.size,i.bytes))=some (18,232):=by kernel_rfl
theorem del_one (b n c i:Nat) (cs:List Value) (w:World) (hi:i<n) (hnc:n≤c)
  (hcl:cs.length=n*18) (hcs:∀ j v,cs[j]? = some v→w.cell? ⟨b,j,none⟩=some v) (hfz:∀ j,j<n*18→w.frozen? ⟨b,j,none⟩=false) (h1c:∀ v∈cs,v.oneCell'=true) :
  Calls Tryz.prog 39 #[.slice (some ⟨b,0,none⟩) n c,.int .i64 i,.int .i64 ((i+1:Nat):Int)] w fun e w' =>
   e = .returned (.slice (some ⟨b,0,none⟩) (n-1) c)∧w'=(w.drew.setCells b (i*18) (cs.drop ((i+1)*18))).setCells b ((n-1)*18) (Builtin.zeroCells zEdit.cells 1).toList:=by
 have t0:=Tryz.underlying0; have a0:=Tryz.isAgg0; have z0:=Tryz.sizeOf0; have v0:=Tryz.zeroValue0
 have t3:=Tryz.underlying3; have a3:=Tryz.isAgg3; have z3:=Tryz.sizeOf3; have v3:=Tryz.zeroValue3
 have t4:=Tryz.underlying4; have a4:=Tryz.isAgg4; have z4:=Tryz.sizeOf4; have v4:=Tryz.zeroValue4
 have t36:=Tryz.underlying36; have a36:=Tryz.isAgg36; have z36:=Tryz.sizeOf36; have v36:=Tryz.zeroValue36
 have t23:=Tryz.underlying23; have a23:=Tryz.isAgg23; have z23:=Tryz.sizeOf23; have v23:=Tryz.zeroValue23
 have u0:=run_underlying t0; have u3:=run_underlying t3; have u4:=run_underlying t4; have u36:=run_underlying t36; have u23:=run_underlying t23
 have mixed:Tryz.prog.follows .mixedOrders=true:=by kernel_rfl
 obtain ⟨i0,hi0,hzs⟩:∃ i0,Tryz.prog.info? 36=some i0∧i0.size=18:=by
  obtain ⟨i0,hi0,hz⟩:=Option.map_eq_some_iff.1 i36
  simp only [Prod.mk.injEq] at hz
  exact ⟨i0,hi0,hz.1⟩
 obtain ⟨news,hnews⟩:∃ news,news=cs.drop ((i+1)*18):=⟨_,rfl⟩
 have hlen:news.length=(n-(i+1))*18:=by rw [hnews,List.length_drop,hcl]; omega
 obtain ⟨A,hA,hsrc⟩:∃ A:Addr,(if c=i+1 then some (⟨b,0,none⟩:Addr) else some ⟨b,(i+1)*18,none⟩)=some A∧Hid (∀ t u,news[t]? = some u→w.drew.cell? (A.add t)=some u):=by
  by_cases h:c=i+1
  ·refine ⟨⟨b,0,none⟩,by simp [h],fun t u hu=>?_⟩
   have h0:news.length=0:=by rw [hlen]; omega
   rw [List.length_eq_zero_iff.1 h0] at hu
   simp at hu
  ·refine ⟨⟨b,(i+1)*18,none⟩,by simp [h],fun t u hu=>?_⟩
   rw [hnews,List.getElem?_drop] at hu
   rw [Addr.add_lit]
   exact hcs _ u hu
 have s1:Hid (news.length=(n-(i+1))*18):=hlen
 have s2:Hid (∀ u∈news,u.oneCell'=true):=fun u hu=>h1c u (by rw [hnews] at hu; exact List.mem_of_mem_drop hu)
 have hsome:∀ j,j<n*18→(w.cell? ⟨b,j,none⟩).isSome=true:=fun j hj=>by
  rw [hcs j (cs[j]'(by omega)) (by rw [List.getElem?_eq_getElem])]; rfl
 have s3:Hid (∀ t,t<news.length→(w.drew.cell? ⟨b,0+i*18+t,none⟩).isSome=true∧w.drew.frozen? ⟨b,0+i*18+t,none⟩=false):=by
  intro t ht
  rw [hlen] at ht
  rw [Nat.zero_add]
  exact ⟨hsome _ (by omega),hfz _ (by omega)⟩
 obtain ⟨W1,hW1⟩:∃ W1,W1=w.drew.setCells b (0+i*18) news:=⟨_,rfl⟩
 have hzz:(Builtin.zeroCells zEdit.cells 1).size=18:=by kernel_rfl
 have hcl1:∀ ty,(Builtin.clear_ #[23] ty #[.slice (some ⟨b,(i+(n-(i+1)))*18,none⟩) (n-(i+(n-(i+1)))) (c-(i+(n-(i+1))))]).run Tryz.prog W1 = .ok (.tuple #[]) (W1.setCells b ((i+(n-(i+1)))*18) (Builtin.zeroCells zEdit.cells 1).toList) :=
  fun ty=>by
  rw [show n-(i+(n-(i+1)))=1 by omega]
  exact run_clear_any W1 23 36 ty zEdit t23 v36 (by rw [zEdit_cells]; simp [Value.oneCell']) b _ _
   (fun j hj=>by rw [hW1]; exact isSome_cells b news _ w.drew (fun t ht=>(s3 t ht).1) _ (hsome _ (by omega)))
   (fun j hj=>by rw [hW1,World.frozen?_setCells]; exact hfz _ (by omega))
 have X:Aside (W1=w.drew.setCells b (i*18) (cs.drop ((i+1)*18))):=by rw [hW1,Nat.zero_add,hnews]; exact rfl
 have hW:Hid (W1=w.drew.setCells b (0+i*18) news):=hW1
 have hic:i≤c:=by omega
 have hjc:i+1≤c:=by omega
 have hin:i≤n:=by omega
 have hjn:i+1≤n:=by omega
 have hne:¬ (i:Int)=(i:Int)+1:=by omega
 have hle:(i:Int)≤(i:Int)+1:=by omega
 have hb1:(0:Int)≤(i:Int)+1:=by omega
 have hjn2:(i:Int)+1≤(n:Int):=by omega
 have hin2:(i:Int)≤(n:Int):=by omega
 have hjc2:(i:Int)+1≤(c:Int):=by omega
 have hic2:(i:Int)≤(c:Int):=by omega
 have htn:((i:Int)+1).toNat=i+1:=by omega
 rw [show n-1=i+(n-(i+1)) by omega]
 clear hW1 hnews hlen hcs hfz hsome
 go_enter Tryz.func39,Tryz.ntmps39
 go_wp2_with fail
 go_region_law_o (refine step_append_room rfl (.tmp 22) (.tmp 25) 23 rfl 36 i0 18 t23 hi0 hzs b 0 i c (by simp [Act.eval,Act.put]) A (n-(i+1)) (c-(i+1)) news (by simp [Act.eval,Act.put]) s1.out hsrc.out s2.out (by omega) s3.out ?_; rw [← hW.out])
 go_wp2
 go_ret
 refine ⟨rfl,?_⟩
 rw [← X.out]
 try rfl
open Go Go.Proofs Go.Aw
def RowR (H:List O) (r sz:Nat) (l':List (List D)):T→List O→Prop:=fun t H'=>t = .v (.c (.os H.length sz 0 l'.length))∧H'=H.set r .dead ++ [.row sz l']
theorem row_in {P:Program} {ρ:Nat→Option Nat} {H:List O} {w w':World} {r b cp sz:Nat} {l l':List (List D)} {c F:Array Value} {e:TypeId} (hH:HRel P ρ H w) (hr:H[r]? = some (.row sz l)) (hρ:ρ r=some b) (hsz:0<sz)
  (hb:w.heap[b]? = some (.cells c e (0,0))) (hs:F.size=c.size) (hF:RowRel (ctx ρ H w).S w F sz l') (h1:l'.length≤cp) (h2:cp*sz≤c.size)
  (k0:w'.heap=(setB w b (.cells F e (0,0))).heap) (k1:w'.os=w.os) (k2:w'.tape=w.tape) (k3:w'.output=w.output) :
  ∃ t ρ' H',RowR H r sz l' t H'∧HRel P ρ' H' w'∧TRel P (ctx ρ' H' w') t (.slice (some ⟨b,0,none⟩) l'.length cp)∧(ctx ρ H w).le (ctx ρ' H' w'):=by
 obtain ⟨g1,le1⟩:=hole_behind hH
 have hrl:r<H.length:=lt_of_get hr
 have hid:(H ++ [O.hole])[H.length]? = some .hole:=by simp
 have hr2:(H ++ [O.hole])[r]? = some (.row sz l):=by rw [List.getElem?_append_left hrl]; exact hr
 have hset:((H ++ [O.hole]).set r .dead).set H.length (.row sz l')=H.set r .dead ++ [.row sz l']:=by
  rw [List.set_append_left _ _ hrl]
  have:=set_snoc (H:=H.set r .dead) (o:=O.hole) (o':=.row sz l')
  rwa [List.length_set] at this
 have hshp:Obj.shape (.cells F e (0,0))=Obj.shape (.cells c e (0,0)):=by simp [Obj.shape,hs]
 obtain ⟨lm,hm⟩:=g1.move hr2 rfl hρ hid (o':=.row sz l') rfl hb hshp
 have hbl:=(hH.small r b hρ).2
 have h3:=hm ⟨hsz,.inr ⟨b,F,e,rfl,setB_same _ _ _ hbl,hF.mono (le1.trans lm).step⟩⟩
 rw [hset] at h3 lm
 obtain ⟨h4,le4⟩:=h3.grow (step_same k0 k1 k2 k3)
 refine ⟨_,_,_,⟨rfl,rfl⟩,h4,?_,(le1.trans lm).trans le4⟩
 refine ⟨by simp [ctx],.inr ⟨b,cp,e,F.size,upd_same _ _ _,by simp,h1,?_,by rw [hs,Nat.zero_add]; exact h2⟩⟩
 show w'.shape? b=_
 rw [shape?_eq,k0,setB_same _ _ _ hbl]; rfl
theorem kDelete (G:Gl) (l:List (List D)) (i:Nat) (hi:i<l.length) (hl:l.length<1073741824) {H:List O} {r:Nat} (hr:H[r]? = some (.row 18 l)) :
  ACalls Tryz.prog G 39 [.c (.os r 18 0 l.length),I i,I ((i+1:Nat):Int)] H (RowR H r 18 (l.eraseIdx i)):=by
 refine ⟨callable_of Tryz.func39 (by kernel_rfl) (by decide +kernel),fun ρ w vs hH hG hv=>?_⟩
 obtain ⟨u0,u1,u2,rfl⟩:=three_args hv.1
 have e1:u1 = .int .i64 i:=drel_v (hv.2 1 _ u1 rfl rfl)
 have e2:u2 = .int .i64 ((i+1:Nat):Int):=drel_v (hv.2 2 _ u2 rfl rfl)
 subst e1; subst e2
 have q0:CRel Tryz.prog (ctx ρ H w) (.os r 18 0 l.length) u0:=hv.2 0 _ u0 rfl rfl
 have hlen:(l.eraseIdx i).length=l.length-1:=List.length_eraseIdx_of_lt hi
 rcases q0.2 with ⟨h0,p0,rfl⟩ | ⟨b,cap,e,nn,hρ,rfl,hcap,hsh,hfit⟩
 ·omega
 ·have hρ':ρ r=some b:=hρ
  have hw0:(some (⟨b,0*18,none⟩:Addr))=some ⟨b,0,none⟩:=rfl
  rw [hw0]
  obtain ⟨_,hor⟩:=hH.objs r _ hr
  obtain ⟨c,et,hgb,hpb⟩:∃ c e,w.heap[b]? = some (.cells c e (0,0))∧RowRel (ctx ρ H w).S w c 18 l:=by
   rcases hor with ⟨h,_⟩ | ⟨a,c,e,h2,h3,h4⟩
   ·rw [hρ'] at h; cases h
   ·rw [hρ'] at h2; injection h2 with h2; subst h2
    exact ⟨c,e,h3,h4⟩
  have hnn:nn=c.size:=by
   have hs:w.shape? b=some (e,nn):=hsh
   rw [shape?_eq,hgb] at hs
   simp [Obj.shape] at hs
   exact hs.2.symm
  have hfit2:cap*18≤c.size:=by rw [← hnn]; simpa using hfit
  have hcl:=hpb.1
  obtain ⟨cs,hcs⟩:∃ cs,cs=c.toList.take (l.length*18):=⟨_,rfl⟩
  have hcsl:cs.length=l.length*18:=by rw [hcs]; simp; omega
  have hcsg:∀ k,k<l.length*18→cs[k]? = c[k]? := fun k hk=>by rw [hcs,List.getElem?_take,if_pos hk]; simp
  have h1c:∀ v∈cs,v.oneCell'=true:=by
   intro v hv
   obtain ⟨k,hk⟩:=List.getElem?_of_mem hv
   have hkl:k<l.length*18:=by rw [← hcsl]; exact lt_of_get hk
   rw [hcsg k hkl] at hk
   have hrow:l[k / 18]? = some (l[k / 18]'(by omega)):=List.getElem?_eq_getElem _
   have hx:=hpb.2.1 _ (List.getElem_mem (l:=l) (n:=k / 18) (by omega))
   have hcell:(l[k / 18]'(by omega))[k % 18]? = some ((l[k / 18]'(by omega))[k % 18]'(by omega)):=List.getElem?_eq_getElem _
   obtain ⟨u,hu,hd⟩:=hpb.2.2 _ _ _ _ hrow hcell
   rw [show k / 18*18+k % 18=k by omega,hk] at hu
   injection hu with hu; subst hu
   exact drel_one hd
  have hcsr:∀ j v,cs[j]? = some v→w.cell? ⟨b,j,none⟩=some v:=fun j v hj=>by
   have hjl:j<l.length*18:=by rw [← hcsl]; exact lt_of_get hj
   rw [cell_heap hgb,← hcsg j hjl]; exact hj
  have hfrb:∀ j,w.frozen? ⟨b,j,none⟩=false:=fun j=>by simp [World.frozen?,hgb]
  refine Calls.mono (del_one b l.length cap i cs w hi hcap hcsl hcsr (fun j _=>hfrb j) h1c) ?_
  rintro e' w' ⟨rfl,rfl⟩
  have hdl:(cs.drop ((i+1)*18)).length=(l.length-(i+1))*18:=by rw [List.length_drop,hcsl]; omega
  have hgb':w.drew.heap[b]? = some (.cells c et (0,0)):=hgb
  obtain ⟨F,hF1,hF2,hF3⟩:=setCells_B w.drew b (i*18) c et (cs.drop ((i+1)*18)) hgb' (by rw [hdl]; omega) (fun v hv=>h1c v (List.mem_of_mem_drop hv))
  rw [hF1]
  have hgF:(setB w.drew b (.cells F et (0,0))).heap[b]? = some (.cells F et (0,0)):=setB_same _ _ _ (hH.small r b hρ').2
  have hzl:(Builtin.zeroCells zEdit.cells 1).toList.length=18:=by rw [zEdit_cells]; rfl
  obtain ⟨F',hE1,hE2,hE3⟩:=setCells_B (setB w.drew b (.cells F et (0,0))) b ((l.length-1)*18) F et (Builtin.zeroCells zEdit.cells 1).toList hgF (by rw [hzl]; omega) (by rw [zEdit_cells]; simp [Value.oneCell'])
  rw [hE1]
  have hheap:(setB (setB w.drew b (.cells F et (0,0))) b (.cells F' et (0,0))).heap=(setB w b (.cells F' et (0,0))).heap:=by
   show (w.heap.setIfInBounds b _).setIfInBounds b _=w.heap.setIfInBounds b _
   simp
  have hR:RowRel (ctx ρ H w).S w F' 18 (l.eraseIdx i):=by
   refine ⟨by rw [hlen]; omega,fun x hx=>hpb.2.1 x (List.mem_of_mem_eraseIdx hx),fun k x j d hk hj=>?_⟩
   have hkl:k<l.length-1:=by rw [← hlen]; exact lt_of_get hk
   rw [List.getElem?_eraseIdx] at hk
   have hx:x.length=18:=by
    split at hk
    ·exact hpb.2.1 x (List.mem_of_getElem? hk)
    ·exact hpb.2.1 x (List.mem_of_getElem? hk)
   have hj18:j<18:=by rw [← hx]; exact lt_of_get hj
   rw [hE3,if_pos (by omega),hF3]
   split at hk
   ·rename_i q
    rw [if_pos (by omega)]
    exact hpb.2.2 k x j d hk hj
   ·rename_i q
    rw [if_neg (by omega),if_pos (by omega),List.getElem?_drop,hcsg _ (by omega)]
    obtain ⟨u,hu,hd⟩:=hpb.2.2 (k+1) x j d hk hj
    refine ⟨u,?_,hd⟩
    rw [← hu]
    congr 1; omega
  obtain ⟨t,ρ2,H2,a1,a2,a3,a4⟩:=row_in (w':=setB (setB w.drew b (.cells F et (0,0))) b (.cells F' et (0,0))) (l':=l.eraseIdx i) (cp:=cap) hH hr hρ' (by omega) hgb (by omega) hR (by rw [hlen]; omega) hfit2 hheap rfl rfl rfl
  exact ⟨_,t,ρ2,H2,rfl,a1,a2,by rw [← hlen]; exact a3,a4⟩
def pickB:Id ⊕ List Id→Edit→Bool
 | .inl x,e=>decide (e.id=x)
 | .inr v,e=>covB v e.deps
def pickP:Id ⊕ List Id→PVo D
 | .inl x=>.c (.fn 61 [.ip x.row])
 | .inr v=>.c (.fn 64 [.ip [.sl (v.map Id.row)]])
def pickO (l:List Edit):Id ⊕ List Id→Prop
 | .inl _=>True
 | .inr v=>AscI v∧v.length<4611686018427387904∧∀ e∈l,e.deps.length<4611686018427387904
theorem pickP_inj {a b:Id ⊕ List Id} (h:pickP a=pickP b):a=b:=by
 cases a <;> cases b <;> simp [pickP] at h
 ·rw [Id.row_inj h]
 ·rw [ids_inj h]
noncomputable def x30:XE:=mkX true (fun (p:List Edit×(Id ⊕ List Id))=>[.c (.sl (p.1.map Edit.row)),pickP p.2]) (fun p=>p.1.length<4611686018427387904∧pickO p.1 p.2) (fun p=>.int .i64 (idxF (pickB p.2) 0 p.1))
theorem kx30:Contract Tryz.prog G0 30 x30:=mkX_scal (fun _=>rfl) fun p h=>by
 obtain ⟨l,x | v⟩:=p
 ·exact k60m (pickB (.inl x)) 61 [x.row] x1061 kx1061 rfl l (fun e _=>xg1061 e x) h.1
 ·exact k60m (pickB (.inr v)) 64 [[.sl (v.map Id.row)]] x1064 kx1064 rfl l (fun e he=>xg1064 e v h.2.1 h.2.2.1 (h.2.2.2 e he)) h.1
theorem inj30 (a b:List Edit×(Id ⊕ List Id)) (h:[PVo.c (D.sl (a.1.map Edit.row)),pickP a.2]=[PVo.c (.sl (b.1.map Edit.row)),pickP b.2]):a=b:=by
 simp only [List.cons.injEq,PVo.c.injEq,D.sl.injEq] at h
 exact Prod.ext (rows_inj h.1) (pickP_inj h.2.1)
theorem xg30i (l:List Edit) (x:Id) (h:l.length<4611686018427387904):x30.g [.c (.sl (l.map Edit.row)),.c (.fn 61 [.ip x.row])]=some (True,.int .i64 (idxF (fun e=>decide (e.id=x)) 0 l)):=mkX_g inj30 (l,.inl x) ⟨h,trivial⟩
theorem xg30v (l:List Edit) (v:List Id) (h:l.length<4611686018427387904) (h1:AscI v) (h2:v.length<4611686018427387904) (h3:∀ e∈l,e.deps.length<4611686018427387904) :
  x30.g [.c (.sl (l.map Edit.row)),.c (.fn 64 [.ip [.sl (v.map Id.row)]])]=some (True,.int .i64 (idxF (fun e=>covB v e.deps) 0 l)):=mkX_g inj30 (l,.inr v) ⟨h,h1,h2,h3⟩
noncomputable def x33:XE:=mkX true (fun (p:List Edit×Id)=>[.c (.sl (p.1.map Edit.row)),.c (.fn 61 [.ip p.2.row])]) (fun p=>p.1.length<4611686018427387904) (fun p=>.bool (p.1.any fun e=>decide (e.id=p.2)))
theorem kx33:Contract Tryz.prog G0 33 x33:=mkX_scal (fun _=>rfl) fun p h=>k82m (fun e=>decide (e.id=p.2)) 61 [p.2.row] x1061 kx1061 rfl p.1 (fun e _=>xg1061 e p.2) h
theorem xg33 (l:List Edit) (x:Id) (h:l.length<4611686018427387904):x33.g [.c (.sl (l.map Edit.row)),.c (.fn 61 [.ip x.row])]=some (True,.bool (l.any fun e=>decide (e.id=x))):=mkX_g (fun a b h=>by
 simp only [List.cons.injEq,PVo.c.injEq,D.sl.injEq,D.fn.injEq,D.ip.injEq,and_true] at h
 exact Prod.ext (rows_inj h.1) (Id.row_inj h.2.2)) (l,x) h
def g36 (ps:List PV):Option (Prop×List (List D)):=match ps with
 | [.c (.sl rows)]=>some (∃ l:List Edit,rows=l.map Edit.row∧l.length<68719476736,rows)
 | _=>none
theorem g36_e (l:List Edit) (h:l.length<68719476736):g36 [.c (.sl (l.map Edit.row))]=some (True,l.map Edit.row):=by
 unfold g36
 simp only [Option.some.injEq,Prod.mk.injEq,and_true,eq_iff_iff,iff_true]
 exact ⟨l,rfl,h⟩
theorem kx36 (G:Gl):ContractO Tryz.prog G 36 18 g36:=by
 intro ps ob rows h hob H
 unfold g36 at h
 split at h
 ·injection h with h; injection h with h1 h2; subst h1; subst h2
  obtain ⟨l,rfl,hl⟩:=hob
  exact (k43 Edit.row erow l hl H).gm
 ·cases h
theorem ins_ssort {l:List Edit} {e:Edit} (hs:l.Pairwise fun p q=>cmpE p q<0) (hne:∀ p∈l,p.id≠e.id):insE l e=ssort cmpE (l ++ [e]):=by
 refine ssort_of cmpE_pre ((insE_so hs hne).imp fun h=>by omega) fun x=>?_
 have ha:=insE_after hs hne
 have hl:l=l.takeWhile (fun f=>decide (cmpE f e<0)) ++ l.dropWhile (fun f=>decide (cmpE f e<0)):=List.takeWhile_append_dropWhile.symm
 unfold insE
 conv=>rhs; rw [hl]
 generalize l.takeWhile (fun f=>decide (cmpE f e<0))=a at *
 generalize l.dropWhile (fun f=>decide (cmpE f e<0))=b at *
 unfold cls
 by_cases hx:cmpE x e=0
 ·have:b.filter (fun y=>decide (cmpE x y=0))=[]:=by
   rw [List.filter_eq_nil_iff]
   intro q hq
   have h1:=ha q hq
   have h2:=cmpE_pre.le_lt (a:=x) (b:=e) (c:=q) (by omega) h1
   simp; omega
  simp [hx,this]
 ·simp [hx]
abbrev logD (L:LogE):List D:=[.sl (L.del.map Edit.row),.sl (L.pen.map Edit.row),.sl (L.seen.map Id.row)]
structure OkL (L:LogE):Prop where
 dl:L.del.length<1048576
 pl:L.pen.length<1048576
 sl:L.seen.length<1048576
 asc:AscI L.seen
 so:L.pen.Pairwise fun p q=>cmpE p q<0
 dd:∀ e∈L.del,e.deps.length<1073741824
 pd:∀ e∈L.pen,e.deps.length<1073741824
theorem idx_fork (l:List Edit) (e:Edit):(idxF (fun f=>decide (f.id=e.id)) 0 l = -1∧forkB l e=false)∨∃ k:Nat,k<l.length∧idxF (fun f=>decide (f.id=e.id)) 0 l=k∧forkB l e = !decide (nth l k=e):=by
 by_cases h:idxF (fun f=>decide (f.id=e.id)) 0 l = -1
 ·refine .inl ⟨h,?_⟩
  have:=idxF_none _ h
  unfold forkB
  have hf:(l.find? fun f=>open Classical in decide (f.id=e.id))=none:=by
   rw [List.find?_eq_none]
   intro x hx
   have:=this x hx
   simpa using this
  rw [hf]
 ·obtain ⟨i,h1,h2,h3,h4⟩:=idxF_some _ h
  refine .inr ⟨i,h2,by rw [h1]; simp,?_⟩
  unfold forkB
  have hf:(l.find? fun f=>open Classical in decide (f.id=e.id))=some (nth l i):=by
   rw [List.find?_eq_some_iff_getElem]
   refine ⟨by simpa using h3,i,h2,(nth_eq h2).symm,fun j hj=>?_⟩
   have:=h4 (l[j]) (List.mem_take_iff_getElem.2 ⟨j,by omega,rfl⟩)
   simpa using this
  rw [hf]
  by_cases q:nth l i=e <;> simp [q]
theorem idx_find (pr:Edit→Bool) (l:List Edit):(idxF pr 0 l = -1∧l.findIdx? pr=none)∨∃ k:Nat,k<l.length∧idxF pr 0 l=k∧l.findIdx? pr=some k:=by
 by_cases h:idxF pr 0 l = -1
 ·exact .inl ⟨h,by rw [List.findIdx?_eq_none_iff]; exact idxF_none _ h⟩
 ·obtain ⟨i,h1,h2,h3,h4⟩:=idxF_some _ h
  refine .inr ⟨i,h2,by rw [h1]; simp,?_⟩
  rw [List.findIdx?_eq_some_iff_getElem]
  refine ⟨h2,by rw [← nth_eq h2]; exact h3,fun j hj=>?_⟩
  have:=h4 (l[j]) (List.mem_take_iff_getElem.2 ⟨j,by omega,rfl⟩)
  simpa using this
theorem hasId_any (l:List Edit) (x:Id):hasId l x=l.any fun e=>decide (e.id=x):=by
 unfold hasId
 congr 1
theorem kSortE (m:Int) (es:List Edit) {rows:List (List D)} {Hc:List O} {r n:Nat} (hrows:rows=es.map Edit.row) (hg:Hc[r]? = some (.row 18 rows)) (hn:n=es.length) (hl:es.length<1152921504606846976) :
  ACalls Tryz.prog (GM m) 37 [.c (.os r 18 0 n),.c (.fn 38 [])] Hc fun t H'=>t = .tup []∧H'=Hc.set r (.row 18 ((ssort cmpE es).map Edit.row)):=by
 subst hrows; subst hn
 have h:=(k44 Edit.row erow cmpE cmpE_pre 38 x21 kx21 rfl (by decide) (by decide) xg21 Hc r (lt_of_get hg) es hl).gm (G:=GM m)
 have e:Hc.set r (.row 18 (es.map Edit.row))=Hc:=by
  apply List.ext_getElem?
  intro i
  rw [List.getElem?_set]
  split
  ·rename_i q; subst q
   rw [if_pos (lt_of_get hg),hg]
  ·rfl
 rw [e] at h
 exact h
theorem kDelE (G:Gl) (es:List Edit) {i:Nat} (hi:i<es.length) (hl:es.length<1073741824) {Hc:List O} {r:Nat} (hr:Hc[r]? = some (.row 18 (es.map Edit.row))) :
  ACalls Tryz.prog G 39 [.c (.os r 18 0 es.length),I i,I ((i:Int)+1)] Hc fun t H'=>t = .v (.c (.os Hc.length 18 0 (es.length-1)))∧H'=Hc.set r .dead ++ [.row 18 ((es.eraseIdx i).map Edit.row)]:=by
 have h:=kDelete G (es.map Edit.row) i (by simpa using hi) (by simpa using hl) hr
 rw [List.length_map] at h
 refine h.mono fun t H' ⟨h1,h2⟩=>?_
 have e:(es.map Edit.row).eraseIdx i=(es.eraseIdx i).map Edit.row:=by
  apply List.ext_getElem?
  intro k
  simp only [List.getElem?_eraseIdx,List.getElem?_map]
  split <;> rfl
 rw [e] at h1 h2
 rw [List.length_map,List.length_eraseIdx_of_lt hi] at h1
 exact ⟨h1,h2⟩
theorem k1011 (m:Int) (L:LogE) (e:Edit) (hL:OkL L) (he:OkE e) (H:List O):ACalls Tryz.prog (GM m) 11 [.agg ((logD L).map .d),.agg (e.row.map .d)] H
  fun t H'=>t = .tup [.agg ((logD (delE chkE L e).1).map .d),I (delE chkE L e).2]∧H'=H:=by
 obtain ⟨R,hR⟩:∃ R,R=delE chkE L e:=⟨_,rfl⟩
 rw [← hR]
 have hee:=Edit.row_eq e
 have s29:(x1029 m).sc=true:=rfl
 have s30:x30.sc=true:=rfl
 have s31:x1031.sc=false:=rfl
 have s32:x22.sc=true:=rfl
 have s19:x517.sc=true:=rfl
 have s33:x33.sc=true:=rfl
 have s34:x554.sc=false:=rfl
 have s35:x1035.sc=false:=rfl
 have s64:x1064.sc=true:=rfl
 have s20:x555.sc=false:=rfl
 have g29:=xg1029 m e he
 have g31:=xg1031 e.id
 have gd:=xg30i L.del e.id (by have:=hL.dl; omega)
 have gp:=xg30i L.pen e.id (by have:=hL.pl; omega)
 have g19:=xg517 L.seen e.id hL.asc (by have:=hL.sl; omega)
 have g33:=xg33 L.pen e.id (by have:=hL.pl; omega)
 have g34:=xg554 e.deps he.dl
 have g35:=xg1035 L.seen
 have g64:=xg1064 e L.seen hL.asc (by have:=hL.sl; omega) (by have:=he.dl; omega)
 rw [hee] at g29 g64
 have hide:e.id.row=[.v (.string e.id.a),.v (.int .i64 e.id.n)]:=rfl
 rw [hide] at g31 gd gp g19 g33
 refine acallsH 3 (X:=[(29,x1029 m),(30,x30),(31,x1031),(32,x22),(19,x517),(33,x33),(34,x554),(35,x1035),(64,x1064),(36,.own H.length 18 g36),(20,x555)])
  ⟨kx1029 m,kx30.gm,kx1031.gm,kx22.gm,kx517.gm,kx33.gm,kx554.gm,kx1035.gm,kx1064.gm,kx36 _,kx555.gm,trivial⟩ tab hmix Tryz.func11 c1011 (by rfl) fun hw=>?_
 obtain ⟨ck,hck⟩:∃ c,c=chkE e:=⟨_,rfl⟩
 unfold delE at hR
 rw [← hck] at g29 hR
 by_cases c1:ck=0
 ·rw [if_neg (by simp [c1])] at hR
  rw [c1] at g29
  simp (implicitDefEqProofs:=false) (disch:=omega) [gz,ir1011,b1011,b1011_0,b1011_1,b1011_2,hee,s29,g29,fillC,splice,fillR,wrap64,Nat.add_assoc]
  obtain ⟨regs,hregs⟩:∃ regs,regs=[O.hole,.hole,.hole,.cells ((logD L).map .d),.cells (e.row.map .d),.cells [.d (.v (.slice none 0 0)),.d (.v (.slice none 0 0)),.d (.v (.slice none 0 0))],.row 1 [[.sl (L.del.map Edit.row)],[.sl (L.pen.map Edit.row)]]]:=⟨_,rfl⟩
  refine loopE (fun k st=>∃ i,i≤2∧k=2-i∧(0<i→forkB L.del e=false)∧(1<i→forkB L.pen e=false) ∧
    st=⟨ofL [(2,.v (.c (.ptr (H.length+3) 0))),(3,.v (.c (.ptr (H.length+4) 0))),(4,.v (.c (.ptr (H.length+5) 0))),(21,.v (.c (.os (H.length+6) 1 0 2))),(22,.int .i64 2),(23,.int .i64 i)],H ++ regs⟩)
   (fun st=>(forkB L.del e=false∧forkB L.pen e=false)∧AtS [(2,.v (.c (.ptr (H.length+3) 0))),(3,.v (.c (.ptr (H.length+4) 0))),(4,.v (.c (.ptr (H.length+5) 0)))] (H ++ regs) st) ?_ ?_ ?_
  ·refine wk_pre [0,1,2,3,4,5,6] [2,3,4,21,22,23] hw rfl ⟨_,0,by omega,rfl,fun h=>by omega,fun h=>by omega,?_⟩
   simp [hregs,hee,O.ren,phi,C.ren]
  ·rintro J N hJ hN k st ⟨i,hi,rfl,h1,h2,rfl⟩
   have n0:nth [[D.sl (L.del.map Edit.row)],[D.sl (L.pen.map Edit.row)]] 0=[D.sl (L.del.map Edit.row)]:=rfl
   have n1:nth [[D.sl (L.del.map Edit.row)],[D.sl (L.pen.map Edit.row)]] 1=[D.sl (L.pen.map Edit.row)]:=rfl
   match i,hi with
   | 0,_ =>
    rcases idx_fork L.del e with ⟨q1,q2⟩ | ⟨k,q0,q1,q2⟩
    ·rw [q1] at gd
     simp (implicitDefEqProofs:=false) (disch:=omega) [gz,hregs,n0,n1,hee,s31,g31,s30,gd,fillC,splice,wrap64,Nat.add_assoc,toPVs,frzVs,osVs,toPV]
     refine ⟨by kernel_rfl,?_⟩
     subst hJ
     refine wk_pre [0,1,2,3,4,5,6] [2,3,4,21,22,23] hw rfl ⟨1,by omega,1,by omega,rfl,fun _=>q2,fun h=>by omega,?_⟩
     simp [hregs,hee,O.ren,phi,C.ren]
    ·have q0':(k:Int)<(L.del.length:Int):=by omega
     have kge:(0:Int)≤(k:Int):=by omega
     have gE:=xg22 (nth L.del k) e (by have:=hL.dd _ (nth_mem q0); omega)
     rw [hee] at gE
     rw [q1] at gd
     by_cases q3:nth L.del k=e
     ·rw [decide_eq_true q3] at gE q2
      simp (implicitDefEqProofs:=false) (disch:=omega) [gz,hregs,n0,n1,hee,s31,g31,s30,gd,s32,gE,q0,q0',kge,fillC,splice,wrap64,Nat.add_assoc,toPVs,frzVs,osVs,toPV,nth_map,(erow _).len,take_of_len,(erow _).mapO,(erow _).tk,(erow _).nrm,borRow,(erow _).cl,borV_map,osR_map,frz_map,nth_set_ne,(erow _).spl (erow _)]
      refine ⟨by kernel_rfl,?_⟩
      subst hJ
      refine wk_pre [0,1,2,3,4,5,6] [2,3,4,21,22,23] hw rfl ⟨1,by omega,1,by omega,rfl,fun _=>q2,fun h=>by omega,?_⟩
      simp [hregs,hee,O.ren,phi,C.ren]
     ·rw [decide_eq_false q3] at gE q2
      rw [if_pos (by rw [q2]; simp)] at hR
      simp (implicitDefEqProofs:=false) (disch:=omega) [gz,hregs,n0,n1,hee,s31,g31,s30,gd,s32,gE,q0,q0',kge,fillC,splice,wrap64,Nat.add_assoc,toPVs,frzVs,osVs,toPV,nth_map,(erow _).len,take_of_len,(erow _).mapO,(erow _).tk,(erow _).nrm,borRow,(erow _).cl,borV_map,osR_map,frz_map,nth_set_ne,(erow _).spl (erow _)]
      refine ⟨by kernel_rfl,?_⟩
      exact fin_pre_pvs hw (by simp [toPVs,toPV]; rfl) (by simp [frzVs]; rfl) ⟨by rw [hR]; rfl,rfl⟩
   | 1,_ =>
    rcases idx_fork L.pen e with ⟨q1,q2⟩ | ⟨k,q0,q1,q2⟩
    ·rw [q1] at gp
     simp (implicitDefEqProofs:=false) (disch:=omega) [gz,hregs,n0,n1,hee,s31,g31,s30,gp,fillC,splice,wrap64,Nat.add_assoc,toPVs,frzVs,osVs,toPV]
     refine ⟨by kernel_rfl,?_⟩
     subst hJ
     refine wk_pre [0,1,2,3,4,5,6] [2,3,4,21,22,23] hw rfl ⟨2,by omega,rfl,fun _=>h1 (by omega),fun _=>q2,?_⟩
     simp [hregs,hee,O.ren,phi,C.ren]
    ·have q0':(k:Int)<(L.pen.length:Int):=by omega
     have kge:(0:Int)≤(k:Int):=by omega
     have gE:=xg22 (nth L.pen k) e (by have:=hL.pd _ (nth_mem q0); omega)
     rw [hee] at gE
     rw [q1] at gp
     by_cases q3:nth L.pen k=e
     ·rw [decide_eq_true q3] at gE q2
      simp (implicitDefEqProofs:=false) (disch:=omega) [gz,hregs,n0,n1,hee,s31,g31,s30,gp,s32,gE,q0,q0',kge,fillC,splice,wrap64,Nat.add_assoc,toPVs,frzVs,osVs,toPV,nth_map,(erow _).len,take_of_len,(erow _).mapO,(erow _).tk,(erow _).nrm,borRow,(erow _).cl,borV_map,osR_map,frz_map,nth_set_ne,(erow _).spl (erow _)]
      refine ⟨by kernel_rfl,?_⟩
      subst hJ
      refine wk_pre [0,1,2,3,4,5,6] [2,3,4,21,22,23] hw rfl ⟨2,by omega,rfl,fun _=>h1 (by omega),fun _=>q2,?_⟩
      simp [hregs,hee,O.ren,phi,C.ren]
     ·rw [decide_eq_false q3] at gE q2
      rw [if_pos (by rw [q2]; simp)] at hR
      simp (implicitDefEqProofs:=false) (disch:=omega) [gz,hregs,n0,n1,hee,s31,g31,s30,gp,s32,gE,q0,q0',kge,fillC,splice,wrap64,Nat.add_assoc,toPVs,frzVs,osVs,toPV,nth_map,(erow _).len,take_of_len,(erow _).mapO,(erow _).tk,(erow _).nrm,borRow,(erow _).cl,borV_map,osR_map,frz_map,nth_set_ne,(erow _).spl (erow _)]
      refine ⟨by kernel_rfl,?_⟩
      exact fin_pre_pvs hw (by simp [toPVs,toPV]; rfl) (by simp [frzVs]; rfl) ⟨by rw [hR]; rfl,rfl⟩
   | 2,_ =>
    simp (implicitDefEqProofs:=false) (disch:=omega) [gz,hregs,hee]
    subst hN
    exact ⟨⟨h1 (by omega),h2 (by omega)⟩,at_mk (by simp) (by rw [hregs]; simp [hee])⟩
  ·rintro _ ⟨⟨f1,f2⟩,sl,rfl⟩
   rw [if_neg (by simp [f1,f2]),hasId_any] at hR
   obtain ⟨kn,hkn⟩:∃ b,b=conI L.seen e.id:=⟨_,rfl⟩
   obtain ⟨kp,hkp⟩:∃ b,b=L.pen.any fun f=>decide (f.id=e.id):=⟨_,rfl⟩
   rw [← hkn] at g19 hR
   rw [← hkp] at g33 hR
   cases kn
   ·cases kp
    ·rw [if_neg (by simp)] at hR
     obtain ⟨cv,hcv⟩:∃ b,b=covB L.seen e.deps:=⟨_,rfl⟩
     rw [← hcv] at g64 hR
     have g36d:=g36_e L.del (by have:=hL.dl; omega)
     have g36p:=g36_e L.pen (by have:=hL.pl; omega)
     cases cv
     ·rw [if_pos rfl] at hR
      have hnid:∀ p∈L.pen,p.id≠e.id:=fun p hp q=>by
       have:=hkp.symm
       rw [List.any_eq_false] at this
       exact this p hp (by simp [q])
      rw [ins_ssort hL.so hnid] at hR
      have hls:=ssort_len (cmp:=cmpE) (L.pen ++ [e])
      obtain ⟨S,hS⟩:∃ S,S=ssort cmpE (L.pen ++ [e]):=⟨_,rfl⟩
      have hpl:=hL.pl
      simp (implicitDefEqProofs:=false) (disch:=omega) [gz,b1011_3,b1011_4,b1011_5,hregs,hee,s19,g19,s31,g31,s33,g33,s34,g34,s35,g35,s64,g64,g36p,holeF,upTo,fillC,splice,fillR,wrap64,Nat.add_assoc,toPVs,frzVs,osVs,toPV]
      repeat' (with_reducible apply And.intro)
      all_goals first | omega | kernel_rfl | skip
      refine ACalls.mono (kSortE m (L.pen ++ [e]) (rows:=(L.pen ++ [e]).map Edit.row) rfl ?_ ?_ ?_) ?_
      ·simp [hee]
      ·simp
      ·simp; omega
      rintro t H' ⟨rfl,rfl⟩
      rw [← hS] at hls hR ⊢
      rw [List.length_append,List.length_singleton] at hls
      have tkS:List.take (L.pen.length+1) (S.map Edit.row)=S.map Edit.row:=List.take_of_length_le (by simp [hls])
      simp (implicitDefEqProofs:=false) (disch:=omega) [gz,callK,fillC,splice,Nat.add_assoc]
      exact fin_pre_pvs hw (by simp [toPVs,toPV,hls,tkS]; rfl) (by simp [frzVs,frz]; rfl) ⟨by rw [hR]; rfl,rfl⟩
     ·rw [if_neg (by simp)] at hR
      have hdl:=hL.dl
      have hpl:=hL.pl
      have hsl:=hL.sl
      simp (implicitDefEqProofs:=false) (disch:=omega) [gz,b1011_3,b1011_4,b1011_5,b1011_6,b1011_7,hregs,hee,s19,g19,s31,g31,s33,g33,s34,g34,s35,g35,s64,g64,g36p,g36d,holeF,upTo,fillC,splice,fillR,wrap64,Nat.add_assoc,toPVs,frzVs,osVs,toPV]
      repeat' (with_reducible apply And.intro)
      all_goals first | omega | kernel_rfl | skip
      refine loopG (fun k st=>∃ (A:LogE) (f:Edit),k=A.pen.length∧runL k A f=R.1∧A.del.length+A.pen.length≤L.del.length+L.pen.length∧A.seen.length+A.pen.length≤L.seen.length+L.pen.length∧AscI A.seen∧(∀ p∈A.pen,p.deps.length<1073741824) ∧
       st=⟨ofL [(2,.v (.c (.ptr (H.length+2) 0))),(3,.v (.c (.ptr (H.length+3) 0))),(4,.v (.c (.ptr (H.length+4) 0)))],
        H ++ [O.row 18 (A.del.map Edit.row),.row 18 (A.pen.map Edit.row),.cells [.os H.length 18 0 A.del.length,.os (H.length+1) 18 0 A.pen.length,.d (.sl (A.seen.map Id.row))],.cells (f.row.map .d),.cells [.d (.v (.slice none 0 0)),.d (.v (.slice none 0 0)),.d (.v (.slice none 0 0))]]⟩) ?_ ?_
      ·refine wk_pre [0,1,3,4,5] [2,3,4] hw rfl ⟨_,L,e,rfl,by rw [hR],by omega,by omega,hL.asc,hL.pd,?_⟩
       simp [hee,O.ren,phi,C.ren]
      ·rintro J hJ k st ⟨A,f,rfl,hrun,hb1,hb2,hasc,hpd,rfl⟩
       have hfe:=Edit.row_eq f
       have g20:=xg555 A.seen f.id hasc (by omega)
       rw [show f.id.row=[.v (.string f.id.a),.v (.int .i64 f.id.n)] from rfl] at g20
       have tk1:List.take A.pen.length (A.pen.map Edit.row)=A.pen.map Edit.row:=List.take_of_length_le (by simp)
       have hal:=addI_len A.seen f.id
       have haa:=addI_asc hasc f.id
       obtain ⟨S,hS⟩:∃ S,S=addI A.seen f.id:=⟨_,rfl⟩
       rw [← hS] at g20 hal haa
       have g35b:=xg1035 S
       have g30b:=xg30v A.pen S (by omega) haa (by omega) (fun p hp=>by have:=hpd p hp; omega)
       rcases idx_find (fun p=>covB S p.deps) A.pen with ⟨q1,q2⟩ | ⟨k,q0,q1,q2⟩
       ·rw [q1] at g30b
        have hfin:R.1=⟨A.del ++ [f],A.pen,S⟩:=by
         rw [← hrun,hS]
         cases hk:A.pen.length with
         | zero=>rfl
         | succ n =>
          unfold runL
          rw [← hS,q2]
        simp (implicitDefEqProofs:=false) (disch:=omega) [gz,hfe,s20,g20,s35,g35b,s30,g30b,holeF,upTo,fillC,splice,fillR,wrap64,Nat.add_assoc,toPVs,frzVs,osVs,toPV,tk1]
        repeat' (with_reducible apply And.intro)
        all_goals first | omega | kernel_rfl | skip
        have tk2:∀ x:List D,List.take (A.del.length+1) (A.del.map Edit.row ++ [x])=A.del.map Edit.row ++ [x]:=fun x=>List.take_of_length_le (by simp)
        have hR2:R.2=0:=by rw [hR]
        exact fin_pre_pvs hw (by simp [toPVs,toPV,tk1,tk2]; rfl) (by simp [frzVs,frz]; rfl) ⟨by rw [hfin,hR2]; simp [hfe,PV.toV],rfl⟩
       ·have q0':(k:Int)<(A.pen.length:Int):=by omega
        have kge:(0:Int)≤(k:Int):=by omega
        rw [q1] at g30b
        have hnext:runL (A.pen.length-1) ⟨A.del ++ [f],A.pen.eraseIdx k,S⟩ (nth A.pen k)=R.1:=by
         rw [← hrun,hS]
         obtain ⟨n,hn⟩:∃ n,A.pen.length=n+1:=⟨A.pen.length-1,by omega⟩
         rw [hn,Nat.add_sub_cancel]
         conv=>rhs; unfold runL
         rw [← hS,q2]
        simp (implicitDefEqProofs:=false) (disch:=omega) [gz,hfe,s20,g20,s35,g35b,s30,g30b,holeF,upTo,fillC,splice,fillR,wrap64,Nat.add_assoc,toPVs,frzVs,osVs,toPV,tk1,q0,q0',kge,nth_map,(erow _).len,take_of_len,(erow _).mapO,(erow _).tk,(erow _).nrm,borRow,(erow _).cl,borV_map,osR_map,frz_map,nth_set_ne,(erow _).spl (erow _)]
        repeat' (with_reducible apply And.intro)
        all_goals first | omega | kernel_rfl | skip
        refine ACalls.mono (kDelE (GM m) A.pen q0 (by omega) ?_) ?_
        ·simp
        rintro t H' ⟨rfl,rfl⟩
        have hel:(A.pen.eraseIdx k).length=A.pen.length-1:=List.length_eraseIdx_of_lt q0
        simp (implicitDefEqProofs:=false) (disch:=omega) [gz,callK,fillC,splice,Nat.add_assoc]
        subst hJ
        refine wk_pre [6,7,2,3,4] [2,3,4] hw rfl ⟨A.pen.length-1,by omega,⟨A.del ++ [f],A.pen.eraseIdx k,S⟩,nth A.pen k,hel.symm,hnext,by simp [hel]; omega,by simp [hel]; omega,haa,fun p hp=>hpd p (List.mem_of_mem_eraseIdx hp),?_⟩
        simp [hfe,hel,O.ren,phi,C.ren]
    ·rw [if_pos (by simp)] at hR
     simp (implicitDefEqProofs:=false) (disch:=omega) [gz,b1011_3,hregs,hee,s19,g19,s31,g31,s33,g33,fillC,splice,wrap64,Nat.add_assoc,toPVs,frzVs,osVs,toPV]
     refine ⟨by kernel_rfl,?_⟩
     exact fin_pre_pvs hw (by simp [toPVs,toPV]; rfl) (by simp [frzVs]; rfl) ⟨by rw [hR]; rfl,rfl⟩
   ·rw [if_pos (by simp)] at hR
    simp (implicitDefEqProofs:=false) (disch:=omega) [gz,b1011_3,hregs,hee,s19,g19,fillC,splice,wrap64,Nat.add_assoc,toPVs,frzVs,osVs,toPV]
    refine ⟨by kernel_rfl,?_⟩
    exact fin_pre_pvs hw (by simp [toPVs,toPV]; rfl) (by simp [frzVs]; rfl) ⟨by rw [hR]; rfl,rfl⟩
 ·rw [if_pos c1] at hR
  simp (implicitDefEqProofs:=false) (disch:=omega) [gz,ir1011,b1011,b1011_0,b1011_1,hee,s29,g29,c1,fillC,splice,Nat.add_assoc]
  exact fin_pre_pvs hw (by simp [toPVs,toPV]; rfl) (by simp [frzVs]; rfl) ⟨by rw [hR]; rfl,rfl⟩
theorem irowOk (x:Id):RowOk 2 x.row:=⟨rfl,fun d hd c h=>by subst h; simp [Id.row] at hd⟩
theorem k1045 (pr:Id→Bool) (g:Nat) (hg:(70=g)=False) (caps:List (Nat×Nat)) (cps:List (List D)) (xg:XE) (hx:Contract Tryz.prog G0 g xg) (hsc:xg.sc=true)
  (hxg:∀ e,xg.g (.agg (Id.row e) :: cps.map fun cs=>.c (.ip cs))=some (True,.bool (pr e))) (es:List Id) (hl:es.length<4611686018427387904) (H:List O) (r:Nat) (hr:r<H.length)
  (hc1:∀ (xs:List (List D)),toB 8 (H.set r (.row 2 xs)) (.fn g caps)=some (.fn g (cps.map .ip)))
  (hc2:∀ (xs:List (List D)) (L:List O),mapO (toBV (H.set r (.row 2 xs) ++ L)) (caps.map fun c=>V.c (.ptr c.1 c.2))=some (cps.map fun cs=>PVo.c (.ip cs))) (hc3:∀ p∈caps,p.1<H.length) :
  ACalls Tryz.prog G0 45 [.c (.os r 2 0 es.length),.c (.fn g caps)] (H.set r (.row 2 (es.map Id.row))) fun t H'=>t = .v (.c (.os r 2 0 (es.filter fun e=>!pr e).length))∧H'=H.set r (.row 2 ((es.filter fun e=>!pr e).map Id.row)):=by
 have hrow:=irowOk
 have hxs:(x619 pr g cps es).sc=true:=rfl
 refine acallsX (X:=[(70,x619 pr g cps es),(g,xg)]) ⟨kx619 pr g cps xg hx hsc hxg es hl,hx,trivial⟩ tab hmix Tryz.func45 c1045 (by rfl) fun hw=>?_
 obtain ⟨n,hn⟩:∃ n,n=es.length:=⟨_,rfl⟩
 rw [← hn]
 have e0:(es.map Id.row).take n=es.map Id.row:=List.take_of_length_le (by simp; omega)
 have hle:n≤es.length:=by omega
 by_cases hi:idxF pr 0 es = -1
 ·have hall:=idxF_none pr hi
  have hf:es.filter (fun e=>!pr e)=es:=List.filter_eq_self.2 fun x hx=>by simp [hall x hx]
  rw [hf,← hn]
  simp (implicitDefEqProofs:=false) (disch:=omega) [gz,ir1045,b1045,wrap64,hxs,hr,hc1,x619,e0,hle,hi]
  repeat' apply And.intro
  all_goals first | omega | skip
  exact fin_here (by simp) ⟨rfl,rfl⟩
 ·obtain ⟨i,h1,h2,h3,h4⟩:=idxF_some pr hi
  rw [Nat.zero_add] at h1
  have hf0:(es.take i).filter (fun e=>!pr e)=es.take i:=List.filter_eq_self.2 fun x hx=>by simp [h4 x hx]
  have hf:es.filter (fun e=>!pr e)=es.take i ++ (es.drop (i+1)).filter (fun e=>!pr e):=by
   conv=>lhs; rw [← List.take_append_drop i es]
   rw [List.filter_append,hf0,drop_nth h2,List.filter_cons,h3]; rfl
  have hi':¬ (i:Int) = -1:=by omega
  simp (implicitDefEqProofs:=false) (disch:=omega) [gz,ir1045,b1045,wrap64,hxs,hr,hc1,x619,e0,hle,h1,hi']
  repeat' apply And.intro
  all_goals first | omega | skip
  refine loopE (fun c s=>∃ (j q:Nat) (es':List Id),j≤n∧q<j∧c=n-j∧es'.length=n∧es'.drop j=es.drop j∧es.filter (fun e=>!pr e)=es'.take q ++ (es.drop j).filter (fun e=>!pr e) ∧
    s=⟨ofL [(0,.v (.c (.os r 2 0 n))),(1,.v (.c (.fn g caps))),(5,.int .i64 q),(6,.int .i64 j)],H.set r (.row 2 (es'.map Id.row))⟩)
   (fun s=>∃ (q:Nat) (es':List Id),q≤n∧es'.length=n∧es.filter (fun e=>!pr e)=es'.take q∧AtS [(0,.v (.c (.os r 2 0 n))),(5,.int .i64 q)] (H.set r (.row 2 (es'.map Id.row))) s) ?_ ?_ ?_
  ·refine wk_keep [0,1,5,6] ⟨_,i+1,i,es,by omega,by omega,rfl,hn.symm,rfl,hf,?_⟩
   simp
  ·rintro J2 L2 hJ2 hL2 c s ⟨j,q,es',g1,g2,rfl,hl',g4,g5,rfl⟩
   by_cases hlt:j<n
   ·have hsp:∀ (e:Id) {z:List C} (hz:z.length=2),splice z 0 ((Id.row e).map .d)=(Id.row e).map .d:=fun e z hz=>(hrow e).splz hz
    have hst:(es.drop j).filter (fun e=>!pr e)=if pr (nth es j) then (es.drop (j+1)).filter (fun e=>!pr e) else nth es j :: (es.drop (j+1)).filter (fun e=>!pr e):=by
     rw [drop_nth (by omega),List.filter_cons]; cases pr (nth es j) <;> simp
    have e1:nth es' j=nth es j:=nth_of_drop g4 (Nat.le_refl _)
    simp (implicitDefEqProofs:=false) (disch:=first | omega | (simp only [List.length_cons,List.length_nil] <;> omega)) [gz,hlt,wrap64,hl',hg,hc2,e1,hsp,hr,nth_map,(hrow _).len,take_of_len,(hrow _).mapO,(hrow _).tk,(hrow _).nrm,borRow,(hrow _).cl,borV_map,osR_map,frz_map,nth_set_ne,(hrow _).spl (hrow _),hsc,hxg]
    repeat' apply And.intro
    all_goals first | omega | skip
    ·intro hb
     rw [if_neg (by simp [hb])] at hst
     repeat' apply And.intro
     all_goals first | omega | skip
     subst hJ2
     rw [← List.map_set]
     refine wk_junk [(0,.v (.c (.os r 2 0 n))),(1,.v (.c (.fn g caps))),(5,.int .i64 (q+1:Nat)),(6,.int .i64 (j+1:Nat))] (wf_row hw) (by simp) (by simp [T.lt,V.lt,C.lt,hr]; exact fun a b h=>hc3 (a,b) h) ⟨n-(j+1),by omega,j+1,q+1,es'.set q (nth es j),by omega,by omega,rfl,by simpa using hl',?_,?_,?_⟩
     ·rw [List.drop_set_of_lt (by omega)]
      exact drop_more g4 (by omega)
     ·rw [take_set_nth (by omega),g5,hst]; simp
     ·simp
    ·intro hb
     rw [if_pos hb] at hst
     subst hJ2
     refine wk_junk [(0,.v (.c (.os r 2 0 n))),(1,.v (.c (.fn g caps))),(5,.int .i64 q),(6,.int .i64 (j+1:Nat))] (wf_row hw) (by simp) (by simp [T.lt,V.lt,C.lt,hr]; exact fun a b h=>hc3 (a,b) h) ⟨n-(j+1),by omega,j+1,q,es',by omega,by omega,rfl,hl',drop_more g4 (by omega),by rw [g5,hst],?_⟩
     simp
   ·simp (implicitDefEqProofs:=false) (disch:=omega) [gz,hlt,wrap64]
    subst hL2
    refine ⟨q,es',by omega,hl',?_,at_mk (by simp) rfl⟩
    rw [g5,List.drop_eq_nil_of_le (by omega)]; simp
  ·rintro _ ⟨q,es',hq,hl',g5,sl,rfl⟩
   simp (implicitDefEqProofs:=false) (disch:=omega) [gz,wrap64,hl',hr]
   repeat' apply And.intro
   all_goals first | omega | skip
   have hq2:(es.filter (fun e=>!pr e)).length=q:=by rw [g5,List.length_take]; omega
   obtain ⟨Z,hZ⟩:=splice_front (es'.map Id.row) q (List.replicate (n-q)
    [D.v (Value.string { data:=#[] }),D.v (Value.int IntKind.i64 0)])
   rw [hZ]
   refine fin_weak (fweak_take (r:=r) (sz:=2) (xs:=(es'.map Id.row).take q) (ys:=Z) (by simp [hr]) (by simp)) (fin_here (by simp) ⟨by rw [hq2],by simp [g5,List.map_take]⟩)
theorem k1046 (x:Id) (L:LogE) (h:AscI L.seen) (hl:L.seen.length<4611686018427387904):ACalls Tryz.prog G0 46 [.agg (x.row.map .d),.c (.d (.ip (logD L)))] [] fun t H=>t = .bool (conI L.seen x)∧H=[]:=by
 have s1:x517.sc=true:=rfl
 have g1:=xg517 L.seen x h hl
 refine acallsX (X:=[(19,x517)]) ⟨kx517,trivial⟩ tab hmix Tryz.func46 c1046 (by rfl) fun hw=>?_
 have hxe:x.row=[.v (.string x.a),.v (.int .i64 x.n)]:=rfl
 rw [hxe] at g1
 simp (implicitDefEqProofs:=false) (disch:=omega) [gz,ir1046,b1046,hxe,s1,g1]
 exact fin_nil ⟨rfl,rfl⟩
theorem logD_inj {A B:LogE} (h:logD A=logD B):A=B:=by
 simp only [List.cons.injEq,D.sl.injEq] at h
 obtain ⟨h1,h2,h3,_⟩:=h
 cases A; cases B
 simp only at h1 h2 h3
 rw [rows_inj h1,rows_inj h2,ids_inj h3]
noncomputable def x1046:XE:=mkX true (fun (p:Id×LogE)=>[.agg p.1.row,.c (.ip (logD p.2))]) (fun p=>AscI p.2.seen∧p.2.seen.length<4611686018427387904) (fun p=>.bool (conI p.2.seen p.1))
theorem kx1046:Contract Tryz.prog G0 46 x1046:=mkX_scal (fun _=>rfl) fun p h=>k1046 p.1 p.2 h.1 h.2
theorem xg1046 (x:Id) (L:LogE) (h:AscI L.seen) (hl:L.seen.length<4611686018427387904):x1046.g [.agg x.row,.c (.ip (logD L))]=some (True,.bool (conI L.seen x)):=mkX_g (fun a b h=>by
 injection h with h1 h2
 injection h1 with h1
 injection h2 with h2
 injection h2 with h2
 injection h2 with h2
 exact Prod.ext (Id.row_inj h1) (logD_inj h2)) (x,L) ⟨h,hl⟩
theorem kDelF (L:LogE) (h:AscI L.seen) (hsl:L.seen.length<4611686018427387904) (v:List Id) (hl:v.length<4611686018427387904) {Hc:List O} {r q n:Nat} (hr:Hc[r]? = some (.row 2 (v.map Id.row))) (hq:Hc[q]? = some (.cells ((logD L).map .d))) (hn:n=v.length) :
  ACalls Tryz.prog G0 45 [.c (.os r 2 0 n),.c (.fn 46 [(q,0)])] Hc fun t H'=>t = .v (.c (.os r 2 0 (v.filter fun e=>!conI L.seen e).length))∧H'=Hc.set r (.row 2 ((v.filter fun e=>!conI L.seen e).map Id.row)):=by
 subst hn
 have hne:r≠q:=fun e=>by subst e; rw [hr] at hq; cases hq
 have hrl:=lt_of_get hr
 have hql:=lt_of_get hq
 have hg:∀ xs,(Hc.set r (.row 2 xs))[q]? = some (.cells ((logD L).map .d)):=fun xs=>by rw [List.getElem?_set_ne hne]; exact hq
 have k:=k1045 (fun e=>conI L.seen e) 46 (by simp) [(q,0)] [logD L] x1046 kx1046 rfl (fun e=>xg1046 e L h hsl) v hl Hc r hrl
  (fun xs=>by simp [mapO,hg]) (fun xs M=>by
   have hg2:(Hc.set r (.row 2 xs) ++ M)[q]? = some (.cells ((logD L).map .d)):=by rw [List.getElem?_append_left (by simpa using hql)]; exact hg xs
   simp [mapO,toBV,hg2]) (fun p hp=>by simp at hp; subst hp; exact hql)
 have e:Hc.set r (.row 2 (v.map Id.row))=Hc:=by
  apply List.ext_getElem?
  intro i
  by_cases q:r=i
  ·subst q
   rw [List.getElem?_set_self hrl,hr]
  ·rw [List.getElem?_set_ne q]
 rw [e] at k
 exact k
def allI (l:List Edit):List Id:=l.foldl (fun s p=>mergeI s p.deps) []
def missL (L:LogE):List Id:=(allI L.pen).filter fun x=>!conI L.seen x
theorem allI_take {l:List Edit} {i:Nat} (h:i<l.length):allI (l.take (i+1))=mergeI (allI (l.take i)) (nth l i).deps:=by
 rw [take_nth h]
 unfold allI
 rw [List.foldl_append]; rfl
theorem allI_len (n:Nat):∀ {l:List Edit} {i:Nat},(∀ e∈l,e.deps.length≤n)→i≤l.length→(allI (l.take i)).length≤i*n
 | l,0,h,_=>by simp [allI]
 | l,i+1,h,hi=>by
  rw [allI_take (by omega)]
  have h1:=mergeI_len (allI (l.take i)) (nth l i).deps
  have h2:=allI_len n h (i:=i) (by omega)
  have h3:=h _ (nth_mem (i:=i) (by omega))
  have:(i+1)*n=i*n+n:=Nat.succ_mul i n
  omega
theorem allI_asc {l:List Edit}:∀ {i:Nat},i≤l.length→AscI (allI (l.take i))
 | 0,_=>by simp [allI,AscI]
 | i+1,hi=>by
  rw [allI_take (by omega)]
  exact mergeI_asc (allI_asc (by omega)) _
theorem k1015 (L:LogE) (h:AscI L.seen) (hsl:L.seen.length<1048576) (hp:L.pen.length≤65536) (hd:∀ p∈L.pen,p.deps.length≤1024) (H:List O) :
  ACalls Tryz.prog G0 15 [.agg ((logD L).map .d)] H fun t H'=>t = .v (.c (.d (.sl ((missL L).map Id.row))))∧H'=H:=by
 have s1:x527.sc=false:=rfl
 have hall:=fun i=>allI_len (i:=i) 1024 hd
 refine acallsX (X:=[(44,x527)]) ⟨kx527,trivial⟩ tab hmix Tryz.func15 c1015 (by rfl) fun hw=>?_
 simp (implicitDefEqProofs:=false) (disch:=omega) [gz,ir1015,b1015,fillC,splice]
 refine loopE (fun k st=>∃ i,i≤L.pen.length∧k=L.pen.length-i ∧
   st=⟨ofL [(1,.v (.c (.ptr H.length 0))),(3,.v (.c (.d (.sl ((allI (L.pen.take i)).map Id.row))))),(7,.v (.c (.d (.sl (L.pen.map Edit.row))))),(8,.int .i64 L.pen.length),(9,.int .i64 i)],H ++ [.cells ((logD L).map .d)]⟩)
  (fun st=>AtS [(1,.v (.c (.ptr H.length 0))),(3,.v (.c (.d (.sl ((allI L.pen).map Id.row)))))] (H ++ [.cells ((logD L).map .d)]) st) ?_ ?_ ?_
 ·refine wk_tell 3 (u:=.c (.d (.v (.slice none 0 0)))) (p:=.c (.sl [])) (by simp) (by simp [toPV]) ?_
  refine wk_pre [0] [1,3,7,8,9] hw rfl ⟨_,0,by omega,rfl,?_⟩
  simp [phi,O.ren,C.ren,allI,frz,frz1,PV.toV]
 ·rintro J M hJ hM k st ⟨i,hi,rfl,rfl⟩
  by_cases hlt:i<L.pen.length
  ·obtain ⟨e,he⟩:∃ e,nth L.pen i=e:=⟨_,rfl⟩
   have hee:=Edit.row_eq e
   have hnext:=allI_take hlt
   rw [he] at hnext
   have hde:=hd _ (nth_mem hlt)
   rw [he] at hde
   have g1:=xg527 (allI (L.pen.take i)) e.deps (allI_asc hi) (by have:=hall i hi; omega)
   rw [← hnext] at g1
   simp (implicitDefEqProofs:=false) (disch:=omega) [gz,hlt,nth_map,he,hee,s1,g1,fillC,splice,wrap64,toPVs,frzVs,osVs,toPV]
   subst hJ
   refine wk_pre [0] [1,3,7,8,9] hw rfl ⟨L.pen.length-(i+1),by omega,i+1,by omega,rfl,?_⟩
   simp [phi,O.ren,C.ren]
  ·have:i=L.pen.length:=by omega
   subst this
   simp (implicitDefEqProofs:=false) (disch:=omega) [gz,hlt]
   subst hM
   exact at_mk (by simp) rfl
 ·rintro _ ⟨sl,rfl⟩
  have hal:(allI L.pen).length<1073741824:=by
   have:=hall L.pen.length (by omega)
   rw [List.take_length] at this
   omega
  simp (implicitDefEqProofs:=false) (disch:=omega) [gz,wrap64]
  refine (k554 (allI L.pen) hal _).mono ?_
  rintro t H' ⟨rfl,rfl⟩
  simp (implicitDefEqProofs:=false) (disch:=omega) [gz,callK]
  refine ACalls.mono (kDelF L h (by omega) (allI L.pen) (by omega) ?_ ?_ ?_) ?_
  ·simp
  ·simp
  ·simp
  rintro t H' ⟨rfl,rfl⟩
  simp (implicitDefEqProofs:=false) (disch:=omega) [gz,callK]
  exact fin_tell (sz:=2) (rows:=((allI L.pen).filter fun e=>!conI L.seen e).map Id.row) hw (by omega) (by simp) (by simp) ⟨rfl,rfl⟩
noncomputable def x1015:XE:=mkX false (fun (L:LogE)=>[.agg (logD L)]) (fun L=>AscI L.seen∧L.seen.length<1048576∧L.pen.length≤65536∧∀ p∈L.pen,p.deps.length≤1024) (fun L=>.v (.c (.d (.sl ((missL L).map Id.row)))))
theorem kx1015:Contract Tryz.prog G0 15 x1015:=mkX_data fun L h H=>k1015 L h.1 h.2.1 h.2.2.1 h.2.2.2 H
theorem xg1015 (L:LogE) (h:AscI L.seen) (hsl:L.seen.length<1048576) (hp:L.pen.length≤65536) (hd:∀ p∈L.pen,p.deps.length≤1024):x1015.g [.agg (logD L)]=some (True,.v (.c (.d (.sl ((missL L).map Id.row))))) :=
 mkX_g (fun a b h=>by injection h with h _; injection h with h; exact logD_inj h) L ⟨h,hsl,hp,hd⟩
noncomputable def x1011 (m:Int):XE:=mkX false (fun (p:LogE×Edit)=>[.agg (logD p.1),.agg p.2.row]) (fun p=>OkL p.1∧OkE p.2) (fun p=>.tup [.agg ((logD (delE chkE p.1 p.2).1).map .d),I (delE chkE p.1 p.2).2])
theorem kx1011 (m:Int):Contract Tryz.prog (GM m) 11 (x1011 m):=mkX_data fun p h H=>k1011 m p.1 p.2 h.1 h.2 H
theorem xg1011 (m:Int) (L:LogE) (e:Edit) (h:OkL L) (he:OkE e):(x1011 m).g [.agg (logD L),.agg e.row]=some (True,.tup [.agg ((logD (delE chkE L e).1).map .d),I (delE chkE L e).2]) :=
 mkX_g (fun a b h=>by
  injection h with h1 h2
  injection h1 with h1
  injection h2 with h2
  injection h2 with h2
  exact Prod.ext (logD_inj h1) (Edit.row_inj h2)) (L,e) ⟨h,he⟩
end Go.Aw.Try
