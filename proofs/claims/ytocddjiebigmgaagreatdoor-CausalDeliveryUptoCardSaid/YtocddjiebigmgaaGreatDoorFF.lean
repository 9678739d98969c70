/- An abstract machine over the model, and contracts of functions of this program on it (part 6): words and lemmas for the proof in the last text. -/
import Derived.WalkKit
import Derived.ProofKit
import Derived.OpenShut
import Derived.JoinedCond
import Derived.Carry
import Derived.Test.YtocddjiebigmgaaGreatDoorCards
import Derived.Test.YtocddjiebigmgaaGreatDoorTie
import Derived.Deep.DeepHandedRow
import Derived.Shelf.Vars
import Derived.Test.YtocddjiebigmgaaGreatDoorFE
set_option linter.unusedSimpArgs false
set_option linter.unusedVariables false
set_option linter.unusedSectionVars false

namespace Go.Aw.Try
open Go Go.Proofs Go.Aw
set_option maxRecDepth 100000
set_option maxHeartbeats 4000000
theorem k1014 (a b:List Id) (ha:a.length<4611686018427387904):ACalls Tryz.prog G0 14 [.c (.d (.sl (a.map Id.row))),.c (.d (.sl (b.map Id.row)))] [] fun t H=>t = .bool (decide (a=b))∧H=[]:=by
 refine acallsX (X:=[]) trivial tab hmix Tryz.func14 c1014 (by rfl) fun hw=>?_
 by_cases hlen:a.length=b.length
 ·simp (implicitDefEqProofs:=false) (disch:=omega) [gz,ir1014,b1014,wrap64,hlen]
  refine loopG (fun k s=>∃ i,i≤b.length∧k=b.length-i∧(∀ c,c<i→nth a c=nth b c) ∧
    s=⟨ofL [(0,.v (.c (.d (.sl (a.map Id.row))))),(1,.v (.c (.d (.sl (b.map Id.row))))),(5,.int .i64 i)],[]⟩) ?_ ?_
  ·refine wk_keep [0,1,5] ⟨_,0,by omega,rfl,fun c h=>by omega,?_⟩
   simp
  ·rintro J hJ k s ⟨i,hi,rfl,hall,rfl⟩
   by_cases hlt:i<b.length
   ·have hlt':i<a.length:=by omega
    obtain ⟨x,hx⟩:∃ x,nth a i=x:=⟨_,rfl⟩
    obtain ⟨y,hy⟩:∃ y,nth b i=y:=⟨_,rfl⟩
    by_cases hxy:x=y
    ·subst hxy
     simp (implicitDefEqProofs:=false) (disch:=omega) [gz,hlt,hlt',hlen,wrap64,nth_map,hx,hy,Id.row,cellsEq,skEq]
     repeat' apply And.intro
     all_goals first | omega | kernel_rfl | skip
     subst hJ
     refine wk_keep [0,1,5] ⟨b.length-(i+1),by omega,i+1,by omega,rfl,fun c hc=>?_,?_⟩
     ·by_cases hci:c=i
      ·subst hci; rw [hx,hy]
      ·exact hall c (by omega)
     ·simp
    ·have hne:¬ (a=b):=fun h=>hxy (by rw [← hx,← hy,h])
     simp (implicitDefEqProofs:=false) (disch:=omega) [gz,hlt,hlt',hlen,wrap64,nth_map,hx,hy,Id.row,cellsEq,skEq]
     refine ⟨by kernel_rfl,?_,fun q1 q2=>absurd ((Id.eq_iff x y).2 ⟨q1,q2⟩) hxy⟩
     intro _
     exact fin_nil ⟨by simp [hne],rfl⟩
   ·simp (implicitDefEqProofs:=false) (disch:=omega) [gz,hlt,hlen]
    have:a=b:=list_eq_nth hlen fun c hc=>hall c (by omega)
    exact fin_nil ⟨by simp [this],rfl⟩
 ·have hlen':¬ (a.length:Int)=b.length:=by omega
  simp (implicitDefEqProofs:=false) (disch:=omega) [gz,ir1014,b1014,wrap64,hlen,hlen']
  exact fin_nil ⟨by simp; intro h; exact hlen (by rw [h]),rfl⟩
noncomputable def x1014:XE:=mkX true (fun (p:List Id×List Id)=>[.c (.sl (p.1.map Id.row)),.c (.sl (p.2.map Id.row))]) (fun p=>p.1.length<4611686018427387904) (fun p=>.bool (decide (p.1=p.2)))
theorem kx1014:Contract Tryz.prog G0 14 x1014:=mkX_scal (fun _=>rfl) fun p h=>k1014 p.1 p.2 h
theorem xg1014 (a b:List Id) (h:a.length<4611686018427387904):x1014.g [.c (.sl (a.map Id.row)),.c (.sl (b.map Id.row))]=some (True,.bool (decide (a=b))):=mkX_g injVV (a,b) h
theorem k1022 (a b:List Edit) (ha:a.length<4611686018427387904) (hd:∀ e∈a,e.deps.length<4611686018427387904):ACalls Tryz.prog G0 22 [.c (.d (.sl (a.map Edit.row))),.c (.d (.sl (b.map Edit.row)))] [] fun t H=>t = .bool (decide (a=b))∧H=[]:=by
 have s1:x62.sc=true:=rfl
 refine acallsX (X:=[(23,x62)]) ⟨kx62,trivial⟩ tab hmix Tryz.func22 c1022 (by rfl) fun hw=>?_
 by_cases hlen:a.length=b.length
 ·simp (implicitDefEqProofs:=false) (disch:=omega) [gz,ir1022,b1022,wrap64,hlen]
  refine loopG (fun k s=>∃ i,i≤b.length∧k=b.length-i∧(∀ c,c<i→nth a c=nth b c) ∧
    s=⟨ofL [(0,.v (.c (.d (.sl (a.map Edit.row))))),(1,.v (.c (.d (.sl (b.map Edit.row))))),(12,.int .i64 b.length),(13,.int .i64 i)],[]⟩) ?_ ?_
  ·refine wk_keep [0,1,12,13] ⟨_,0,by omega,rfl,fun c h=>by omega,?_⟩
   simp
  ·rintro J hJ k s ⟨i,hi,rfl,hall,rfl⟩
   by_cases hlt:i<b.length
   ·have hlt':i<a.length:=by omega
    have g1:=xg62 (nth a i) (nth b i) (hd _ (nth_mem hlt'))
    by_cases hxy:nth a i=nth b i
    ·rw [decide_eq_true hxy] at g1
     simp (implicitDefEqProofs:=false) (disch:=omega) [gz,hlt,hlt',hlen,wrap64,nth_map,(erow _).len,take_of_len,(erow _).mapO,(erow _).tk,(erow _).nrm,borRow,(erow _).cl,borV_map,osR_map,frz_map,nth_set_ne,(erow _).spl (erow _),s1,g1]
     repeat' apply And.intro
     all_goals first | omega | kernel_rfl | skip
     subst hJ
     refine wk_keep [0,1,12,13] ⟨b.length-(i+1),by omega,i+1,by omega,rfl,fun c hc=>?_,?_⟩
     ·by_cases hci:c=i
      ·subst hci; exact hxy
      ·exact hall c (by omega)
     ·simp
    ·have hne:¬ (a=b):=fun h=>hxy (by rw [h])
     rw [decide_eq_false hxy] at g1
     simp (implicitDefEqProofs:=false) (disch:=omega) [gz,hlt,hlt',hlen,wrap64,nth_map,(erow _).len,take_of_len,(erow _).mapO,(erow _).tk,(erow _).nrm,borRow,(erow _).cl,borV_map,osR_map,frz_map,nth_set_ne,(erow _).spl (erow _),s1,g1]
     refine ⟨by kernel_rfl,?_⟩
     exact fin_nil ⟨by simp [hne],rfl⟩
   ·simp (implicitDefEqProofs:=false) (disch:=omega) [gz,hlt,hlen]
    have:a=b:=list_eq_nth hlen fun c hc=>hall c (by omega)
    exact fin_nil ⟨by simp [this],rfl⟩
 ·have hlen':¬ (a.length:Int)=b.length:=by omega
  simp (implicitDefEqProofs:=false) (disch:=omega) [gz,ir1022,b1022,wrap64,hlen,hlen']
  exact fin_nil ⟨by simp; intro h; exact hlen (by rw [h]),rfl⟩
noncomputable def x1022:XE:=mkX true (fun (p:List Edit×List Edit)=>[.c (.sl (p.1.map Edit.row)),.c (.sl (p.2.map Edit.row))]) (fun p=>p.1.length<4611686018427387904∧∀ e∈p.1,e.deps.length<4611686018427387904) (fun p=>.bool (decide (p.1=p.2)))
theorem kx1022:Contract Tryz.prog G0 22 x1022:=mkX_scal (fun _=>rfl) fun p h=>k1022 p.1 p.2 h.1 h.2
theorem xg1022 (a b:List Edit) (ha:a.length<4611686018427387904) (hd:∀ e∈a,e.deps.length<4611686018427387904):x1022.g [.c (.sl (a.map Edit.row)),.c (.sl (b.map Edit.row))]=some (True,.bool (decide (a=b))):=mkX_g injLL (a,b) ⟨ha,hd⟩
def sameB (A B:LogE):Bool:=decide (A.del=B.del) && (decide (A.pen=B.pen) && decide (A.seen=B.seen))
theorem sameB_iff {A B:LogE}:sameB A B=true↔A=B:=by
 unfold sameB
 simp only [Bool.and_eq_true,decide_eq_true_eq]
 constructor
 ·rintro ⟨h1,h2,h3⟩; cases A; cases B; simp at h1 h2 h3; simp [h1,h2,h3]
 ·rintro rfl; exact ⟨rfl,rfl,rfl⟩
theorem k1013 (A B:LogE) (hA:OkL A):ACalls Tryz.prog G0 13 [.agg ((logD A).map .d),.agg ((logD B).map .d)] [] fun t H=>t = .bool (sameB A B)∧H=[]:=by
 have s1:x1022.sc=true:=rfl
 have s2:x1014.sc=true:=rfl
 have g1:=xg1022 A.del B.del (by have:=hA.dl; omega) (fun e he=>by have:=hA.dd e he; omega)
 have g2:=xg1022 A.pen B.pen (by have:=hA.pl; omega) (fun e he=>by have:=hA.pd e he; omega)
 have g3:=xg1014 A.seen B.seen (by have:=hA.sl; omega)
 refine acallsX (X:=[(22,x1022),(14,x1014)]) ⟨kx1022,kx1014,trivial⟩ tab hmix Tryz.func13 c1013 (by rfl) fun hw=>?_
 unfold sameB
 cases h1:decide (A.del=B.del)
 ·rw [h1] at g1
  simp (implicitDefEqProofs:=false) (disch:=omega) [gz,ir1013,b1013,s1,s2,g1]
  exact fin_nil ⟨rfl,rfl⟩
 ·cases h2:decide (A.pen=B.pen)
  ·rw [h1] at g1; rw [h2] at g2
   simp (implicitDefEqProofs:=false) (disch:=omega) [gz,ir1013,b1013,s1,s2,g1,g2]
   exact fin_nil ⟨rfl,rfl⟩
  ·rw [h1] at g1; rw [h2] at g2
   simp (implicitDefEqProofs:=false) (disch:=omega) [gz,ir1013,b1013,s1,s2,g1,g2,g3]
   exact fin_nil ⟨by simp,rfl⟩
noncomputable def x1013:XE:=mkX true (fun (p:LogE×LogE)=>[.agg (logD p.1),.agg (logD p.2)]) (fun p=>OkL p.1) (fun p=>.bool (sameB p.1 p.2))
theorem kx1013:Contract Tryz.prog G0 13 x1013:=mkX_scal (fun _=>rfl) fun p h=>k1013 p.1 p.2 h
theorem xg1013 (A B:LogE) (hA:OkL A):x1013.g [.agg (logD A),.agg (logD B)]=some (True,.bool (sameB A B)):=mkX_g (fun a b h=>by
 injection h with h1 h2
 injection h1 with h1
 injection h2 with h2
 injection h2 with h2
 exact Prod.ext (logD_inj h1) (logD_inj h2)) (A,B) hA
def bigB (e:Edit):Bool:=decide (12<e.deps.length) || (decide (300<e.field.size+e.who.size+e.node.a.size+e.parent.a.size+e.target.a.size+e.id.a.size) || (decide (300<e.value.size) || (decide (60<e.num.size+e.den.size) || e.deps.any fun x=>decide (60<x.a.size))))
structure Siz (e:Edit):Prop where
 num:e.num.size<1152921504606846976
 den:e.den.size<1152921504606846976
 who:e.who.size<1152921504606846976
 value:e.value.size<1152921504606846976
 field:e.field.size<1152921504606846976
 id:e.id.a.size<1152921504606846976
 node:e.node.a.size<1152921504606846976
 parent:e.parent.a.size<1152921504606846976
 target:e.target.a.size<1152921504606846976
 dl:e.deps.length<1152921504606846976
theorem k1028 (e:Edit) (h:Siz e):ACalls Tryz.prog G0 28 [.agg (e.row.map .d)] [] fun t H=>t = .int .i64 (if bigB e then 1 else 0)∧H=[]:=by
 have hee:=Edit.row_eq e
 obtain ⟨h1,h2,h3,h4,h5,h6,h7,h8,h9,h10⟩:=h
 refine acallsX (X:=[]) trivial tab hmix Tryz.func28 c1028 (by rfl) fun hw=>?_
 by_cases c1:12<e.deps.length
 ·have:bigB e=true:=by simp [bigB,c1]
  rw [if_pos this]
  have c1':(12:Int)<(e.deps.length:Int):=by omega
  simp (implicitDefEqProofs:=false) (disch:=omega) [gz,ir1028,b1028,b1028_0,b1028_1,hee,c1,c1',wrap64]
  exact fin_nil ⟨rfl,rfl⟩
 ·have c1':¬ (12:Int)<(e.deps.length:Int):=by omega
  by_cases c2:300<e.field.size+e.who.size+e.node.a.size+e.parent.a.size+e.target.a.size+e.id.a.size
  ·have:bigB e=true:=by simp [bigB,c2]
   rw [if_pos this]
   have c2':(300:Int)<(e.field.size:Int)+e.who.size+e.node.a.size+e.parent.a.size+e.target.a.size+e.id.a.size:=by omega
   simp (implicitDefEqProofs:=false) (disch:=omega) [gz,ir1028,b1028,b1028_0,b1028_1,hee,c1,c1',c2,c2',wrap64]
   exact fin_nil ⟨rfl,rfl⟩
  ·have c2':¬ (300:Int)<(e.field.size:Int)+e.who.size+e.node.a.size+e.parent.a.size+e.target.a.size+e.id.a.size:=by omega
   by_cases c3:300<e.value.size
   ·have:bigB e=true:=by simp [bigB,c3]
    rw [if_pos this]
    have c3':(300:Int)<(e.value.size:Int):=by omega
    simp (implicitDefEqProofs:=false) (disch:=omega) [gz,ir1028,b1028,b1028_0,b1028_1,hee,c1,c1',c2,c2',c3,c3',wrap64]
    exact fin_nil ⟨rfl,rfl⟩
   ·have c3':¬ (300:Int)<(e.value.size:Int):=by omega
    by_cases c4:60<e.num.size+e.den.size
    ·have:bigB e=true:=by simp [bigB,c4]
     rw [if_pos this]
     have c4':(60:Int)<(e.num.size:Int)+e.den.size:=by omega
     simp (implicitDefEqProofs:=false) (disch:=omega) [gz,ir1028,b1028,b1028_0,b1028_1,hee,c1,c1',c2,c2',c3,c3',c4,c4',wrap64]
     exact fin_nil ⟨rfl,rfl⟩
    ·have c4':¬ (60:Int)<(e.num.size:Int)+e.den.size:=by omega
     have hbig:bigB e=e.deps.any fun x=>decide (60<x.a.size):=by simp [bigB,c1,c2,c3,c4]
     obtain ⟨R,hR⟩:∃ R,R=e.deps.any fun x=>decide (60<x.a.size):=⟨_,rfl⟩
     rw [hbig,← hR]
     simp (implicitDefEqProofs:=false) (disch:=omega) [gz,ir1028,b1028,b1028_0,b1028_1,b1028_2,b1028_3,b1028_4,hee,c1,c1',c2,c2',c3,c3',c4,c4',wrap64]
     refine loopG (fun k st=>∃ i,i≤e.deps.length∧k=e.deps.length-i∧(∀ j,j<i→¬ 60<(nth e.deps j).a.size) ∧
       st=⟨ofL [(1,.v (.c (.ptr 0 0))),(58,.int .i64 e.deps.length),(59,.int .i64 i)],[.cells (e.row.map .d)]⟩) ?_ ?_
     ·refine wk_nil [0] [1,58,59] rfl ⟨_,0,by omega,rfl,fun j hj=>by omega,?_⟩
      simp [phi,O.ren,hee,C.ren]
     ·rintro J hJ k st ⟨i,hi,rfl,hb,rfl⟩
      by_cases hlt:i<e.deps.length
      ·obtain ⟨x,hx⟩:∃ x,nth e.deps i=x:=⟨_,rfl⟩
       have hxr:x.row=[.v (.string x.a),.v (.int .i64 x.n)]:=rfl
       by_cases c5:60<x.a.size
       ·have c5':(60:Int)<(x.a.size:Int):=by omega
        have:(e.deps.any fun x=>decide (60<x.a.size))=true:=by
         rw [List.any_eq_true]
         exact ⟨x,by rw [← hx]; exact nth_mem hlt,by simp [c5]⟩
        rw [← hR] at this
        rw [this]
        simp (implicitDefEqProofs:=false) (disch:=omega) [gz,hlt,nth_map,hx,hxr,hee,c5,c5',wrap64]
        exact fin_nil ⟨rfl,rfl⟩
       ·have c5':¬ (60:Int)<(x.a.size:Int):=by omega
        simp (implicitDefEqProofs:=false) (disch:=omega) [gz,hlt,nth_map,hx,hxr,hee,c5,c5',wrap64]
        subst hJ
        refine wk_nil [0] [1,58,59] rfl ⟨e.deps.length-(i+1),by omega,i+1,by omega,rfl,fun j hj=>?_,?_⟩
        ·by_cases q:j=i
         ·subst q; rw [hx]; exact c5
         ·exact hb j (by omega)
        ·simp [phi,O.ren,hee,C.ren]
      ·have:i=e.deps.length:=by omega
       subst this
       have hno:(e.deps.any fun x=>decide (60<x.a.size))=false:=by
        rw [List.any_eq_false]
        intro x hx
        obtain ⟨j,hj,rfl⟩:=List.mem_iff_getElem.1 hx
        have:=hb j hj
        rw [nth_eq hj] at this
        simpa using this
       rw [← hR] at hno
       rw [hno]
       simp (implicitDefEqProofs:=false) (disch:=omega) [gz,hlt]
       exact fin_nil ⟨rfl,rfl⟩
noncomputable def x1028:XE:=mkX true (fun (e:Edit)=>[.agg e.row]) Siz (fun e=>.int .i64 (if bigB e then 1 else 0))
theorem kx1028:Contract Tryz.prog G0 28 x1028:=mkX_scal (fun _=>rfl) fun e h=>k1028 e h
theorem xg1028 (e:Edit) (h:Siz e):x1028.g [.agg e.row]=some (True,.int .i64 (if bigB e then 1 else 0)):=mkX_g injE1 e h
def fewB (v:List Id) (l:List Edit):Bool:=decide (v.length≤8) && (decide (l.length≤24) && (decide (chkV v 0 v.length=0) && l.all fun e=>!bigB e))
structure OkA (v:List Id) (l:List Edit):Prop where
 vl:v.length<1152921504606846976
 vs:∀ x∈v,x.a.size<1152921504606846976
 ll:l.length<1152921504606846976
 ls:∀ e∈l,Siz e
theorem k1009 (v:List Id) (l:List Edit) (h:OkA v l):ACalls Tryz.prog G0 9 [.c (.d (.sl (v.map Id.row))),.c (.d (.sl (l.map Edit.row)))] [] fun t H=>t = .bool (fewB v l)∧H=[]:=by
 obtain ⟨hv1,hv2,hl1,hl2⟩:=h
 have s1:x528.sc=true:=rfl
 have s2:x1028.sc=true:=rfl
 have g1:=xg528 v (by omega) (fun x hx=>by have:=hv2 x hx; omega)
 refine acallsX (X:=[(27,x528),(28,x1028)]) ⟨kx528,kx1028,trivial⟩ tab hmix Tryz.func9 c1009 (by rfl) fun hw=>?_
 by_cases c1:8<v.length
 ·have c1':(8:Int)<(v.length:Int):=by omega
  have:fewB v l=false:=by unfold fewB; rw [decide_eq_false (by omega:¬ v.length≤8)]; rfl
  rw [this]
  simp (implicitDefEqProofs:=false) (disch:=omega) [gz,ir1009,b1009,c1,c1',wrap64]
  exact fin_nil ⟨rfl,rfl⟩
 ·have c1':¬ (8:Int)<(v.length:Int):=by omega
  by_cases c2:24<l.length
  ·have c2':(24:Int)<(l.length:Int):=by omega
   have:fewB v l=false:=by unfold fewB; rw [decide_eq_false (by omega:¬ l.length≤24)]; simp
   rw [this]
   simp (implicitDefEqProofs:=false) (disch:=omega) [gz,ir1009,b1009,c1,c1',c2,c2',wrap64]
   exact fin_nil ⟨rfl,rfl⟩
  ·have c2':¬ (24:Int)<(l.length:Int):=by omega
   obtain ⟨f,hf⟩:∃ f,f=chkV v 0 v.length:=⟨_,rfl⟩
   rw [← hf] at g1
   by_cases c3:f=0
   ·have hfew:fewB v l=l.all fun e=>!bigB e:=by
     unfold fewB
     rw [decide_eq_true (by omega:v.length≤8),decide_eq_true (by omega:l.length≤24),← hf,decide_eq_true c3]; rfl
    rw [hfew]
    rw [c3] at g1
    simp (implicitDefEqProofs:=false) (disch:=omega) [gz,ir1009,b1009,c1,c1',c2,c2',wrap64,s1,g1]
    refine loopG (fun k st=>∃ i,i≤l.length∧k=l.length-i∧(∀ j,j<i→bigB (nth l j)=false) ∧
      st=⟨ofL [(1,.v (.c (.d (.sl (l.map Edit.row))))),(20,.int .i64 l.length),(21,.int .i64 i)],[]⟩) ?_ ?_
    ·refine wk_keep [1,20,21] ⟨_,0,by omega,rfl,fun j hj=>by omega,?_⟩
     simp
    ·rintro J hJ k st ⟨i,hi,rfl,hb,rfl⟩
     by_cases hlt:i<l.length
     ·have g2:=xg1028 (nth l i) (hl2 _ (nth_mem hlt))
      cases hbi:bigB (nth l i)
      ·rw [hbi] at g2
       simp (implicitDefEqProofs:=false) (disch:=omega) [gz,hlt,wrap64,nth_map,(erow _).len,take_of_len,(erow _).mapO,(erow _).tk,(erow _).nrm,borRow,(erow _).cl,borV_map,osR_map,frz_map,nth_set_ne,(erow _).spl (erow _),s2,g2]
       subst hJ
       refine wk_keep [1,20,21] ⟨l.length-(i+1),by omega,i+1,by omega,rfl,fun j hj=>?_,?_⟩
       ·by_cases q:j=i
        ·subst q; exact hbi
        ·exact hb j (by omega)
       ·simp
      ·rw [hbi] at g2
       have:(l.all fun e=>!bigB e)=false:=by
        rw [List.all_eq_false]
        exact ⟨_,nth_mem hlt,by rw [hbi]; simp⟩
       rw [this]
       simp (implicitDefEqProofs:=false) (disch:=omega) [gz,hlt,wrap64,nth_map,(erow _).len,take_of_len,(erow _).mapO,(erow _).tk,(erow _).nrm,borRow,(erow _).cl,borV_map,osR_map,frz_map,nth_set_ne,(erow _).spl (erow _),s2,g2]
       exact fin_nil ⟨rfl,rfl⟩
     ·have:i=l.length:=by omega
      subst this
      have hall:(l.all fun e=>!bigB e)=true:=by
       rw [List.all_eq_true]
       intro x hx
       obtain ⟨j,hj,rfl⟩:=List.mem_iff_getElem.1 hx
       have:=hb j hj
       rw [nth_eq hj] at this
       rw [this]; rfl
      rw [hall]
      simp (implicitDefEqProofs:=false) (disch:=omega) [gz,hlt]
      exact fin_nil ⟨rfl,rfl⟩
   ·have:fewB v l=false:=by unfold fewB; rw [← hf,decide_eq_false c3]; simp
    rw [this]
    simp (implicitDefEqProofs:=false) (disch:=omega) [gz,ir1009,b1009,c1,c1',c2,c2',c3,wrap64,s1,g1]
    exact fin_nil ⟨rfl,rfl⟩
noncomputable def x1009:XE:=mkX true (fun (p:List Id×List Edit)=>[.c (.sl (p.1.map Id.row)),.c (.sl (p.2.map Edit.row))]) (fun p=>OkA p.1 p.2) (fun p=>.bool (fewB p.1 p.2))
theorem kx1009:Contract Tryz.prog G0 9 x1009:=mkX_scal (fun _=>rfl) fun p h=>k1009 p.1 p.2 h
theorem xg1009 (v:List Id) (l:List Edit) (h:OkA v l):x1009.g [.c (.sl (v.map Id.row)),.c (.sl (l.map Edit.row))]=some (True,.bool (fewB v l)):=mkX_g (fun a b h=>by
 simp only [List.cons.injEq,PVo.c.injEq,D.sl.injEq] at h
 exact Prod.ext (ids_inj h.1) (rows_inj h.2.1)) (v,l) h
end Go.Aw.Try
namespace Go.Aw
open Go
inductive Sh where
 | i (k:IntKind)
 | b
 | s
 | sl (es:List Sh)
mutual
def okSh:Sh→D→Prop
 | .i k,d=>∃ n,d = .v (.int k n)∧(Lit.int k n).wf=true
 | .b,d=>∃ x,d = .v (.bool x)
 | .s,d=>∃ x,d = .v (.string x)
 | .sl es,d=>∃ xs,d = .sl xs∧∀ x∈xs,okShs es x
def okShs:List Sh→List D→Prop
 | [],l=>l=[]
 | e :: es,l=>∃ d r,l=d :: r∧okSh e d∧okShs es r
end
theorem okShs_len:∀ {es:List Sh} {l:List D},okShs es l→l.length=es.length
 | [],l,h=>by simp only [okShs] at h; subst h; rfl
 | e :: es,l,h=>by
  simp only [okShs] at h
  obtain ⟨d,r,rfl,_,h⟩:=h
  simp [okShs_len h]
theorem okShs_app:∀ {es es':List Sh} {l l':List D},okShs es l→okShs es' l'→okShs (es ++ es') (l ++ l')
 | [],es',l,l',h,h'=>by simp only [okShs] at h; subst h; exact h'
 | e :: es,es',l,l',h,h'=>by
  simp only [okShs] at h
  obtain ⟨d,r,rfl,h1,h⟩:=h
  simp only [List.cons_append,okShs]
  exact ⟨d,r ++ l',rfl,h1,okShs_app h h'⟩
section
variable (P:Program)
mutual
def shT:Nat→TypeId→Option (List Sh)
 | 0,_=>none
 | n+1,t=>match P.underlying t with
  | some .bool=>some [.b]
  | some (.int k)=>some [.i k]
  | some .string=>some [.s]
  | some (.slice e)=>match shT n e with
   | some es=>if P.cellsOf e=es.length∧0<es.length then some [.sl es] else none
   | none=>none
  | some (.struct fs)=>match shF n 0 fs.toList with
   | some es=>if P.cellsOf t=es.length then some es else none
   | none=>none
  | _=>none
def shF:Nat→Nat→List Field→Option (List Sh)
 | _,_,[]=>some []
 | 0,_,_=>none
 | n+1,run,f :: r=>if f.offset=run then match shT n f.type with
  | some es=>if P.cellsOf f.type=es.length then match shF n (run+es.length) r with
   | some l=>some (es ++ l)
   | none=>none else none
  | none=>none else none
end
end
section
variable {H:Type}
mutual
def datD:DataW H→List D
 | .lit (.int k n)=>[.v (.int k n)]
 | .lit (.bool b)=>[.v (.bool b)]
 | .lit (.string bs)=>[.v (.string ⟨bs.toArray⟩)]
 | .nil=>[.sl []]
 | .slice es _=>[.sl (datDs es)]
 | .agg ps=>datF ps
 | _=>[]
def datDs:List (DataW H)→List (List D)
 | []=>[]
 | d :: r=>datD d :: datDs r
def datF:List (DataW H)→List D
 | []=>[]
 | d :: r=>datD d ++ datF r
end
theorem datDs_len:∀ l:List (DataW H),(datDs l).length=l.length
 | []=>rfl
 | d :: r=>by simp [datDs,datDs_len r]
theorem datDs_get:∀ (l:List (DataW H)) (i:Nat),(datDs l)[i]? = (l[i]?).map datD
 | [],i=>by simp [datDs]
 | d :: r,0=>by simp [datDs]
 | d :: r,i+1=>by simp [datDs,datDs_get r i]
end
theorem mapM_some {α β:Type} {f:α→Option β}:∀ {l:List α} {r:List β},l.mapM f=some r→r.length=l.length∧∀ (i:Nat) x,l[i]? = some x→∃ y,r[i]? = some y∧f x=some y
 | [],r,h=>by simp at h; subst h; simp
 | a :: l,r,h=>by
  rw [List.mapM_cons] at h
  cases hf:f a with
  | none=>rw [hf] at h; cases h
  | some b =>
   rw [hf] at h
   cases hm:l.mapM f with
   | none=>rw [hm] at h; cases h
   | some r' =>
    rw [hm] at h
    have h:some (b :: r')=some r:=h
    injection h with h; subst h
    obtain ⟨h1,h2⟩:=mapM_some hm
    refine ⟨by simp [h1],fun i x hx=>?_⟩
    cases i with
    | zero=>simp at hx; subst hx; exact ⟨b,by simp,hf⟩
    | succ i=>simp at hx; obtain ⟨y,hy,hz⟩:=h2 i x hx; exact ⟨y,by simpa using hy,hz⟩
def Rd (w:World) (es:List Sh) (cs:List Value) (ds:List D):Prop :=
 okShs es ds∧cs.length=es.length∧∀ (i:Nat) d v,ds[i]? = some d→cs[i]? = some v→DRel (fun b=>b<w.heap.size) w d v
theorem Rd.one {w:World} {e:Sh} {v:Value} {d:D} (h:okSh e d) (hd:DRel (fun b=>b<w.heap.size) w d v):Rd w [e] [v] [d] :=
 ⟨by simp only [okShs]; exact ⟨d,[],rfl,h,rfl⟩,rfl,fun i d' v' h1 h2=>by
  cases i with
  | zero=>simp at h1 h2; subst h1; subst h2; exact hd
  | succ i=>simp at h1⟩
theorem Rd.app {w:World} {es es':List Sh} {cs cs':List Value} {ds ds':List D} (h:Rd w es cs ds) (k:Rd w es' cs' ds'):Rd w (es ++ es') (cs ++ cs') (ds ++ ds'):=by
 have l1:=okShs_len h.1
 refine ⟨okShs_app h.1 k.1,by simp [h.2.1,k.2.1],fun i d v h1 h2=>?_⟩
 rw [List.getElem?_append] at h1 h2
 rw [l1] at h1
 rw [h.2.1] at h2
 split at h1
 ·rename_i hi; rw [if_pos hi] at h2; exact h.2.2 i d v h1 h2
 ·rename_i hi; rw [if_neg hi] at h2; exact k.2.2 _ d v h1 h2
theorem cells_get {w:World} {a:Addr} {n:Nat} {cs:List Value} (h:w.cells? 0 a n=some cs):cs.length=n∧∀ (j:Nat) v,cs[j]? = some v→w.cell? (a.add j)=some v:=by
 unfold World.cells? at h
 rw [if_pos (Nat.zero_le _)] at h
 obtain ⟨h1,h2⟩:=mapM_some h
 rw [List.length_range] at h1
 refine ⟨h1,fun j v hv=>?_⟩
 have hj:j<n:=by
  have:=(List.getElem?_eq_some_iff.1 hv).1; omega
 obtain ⟨y,hy,hz⟩:=h2 j j (by simp [hj])
 rw [hv] at hy; injection hy with hy; subst hy
 exact hz
theorem cell_spot {w:World} {a:Addr} {v:Value} (h:w.cell? a=some v):a.spot=none∧a.block<w.heap.size:=by
 unfold World.cell? at h
 split at h
 ·rename_i c _ _ hb
  refine ⟨?_,(Array.getElem?_eq_some_iff.1 hb).1⟩
  cases hs:a.spot with
  | none=>rfl
  | some x=>rw [hs] at h; simp at h
 ·cases h
section
variable {H:Type} {enc:TypeId×Value→H} {P:Program} {w:World} {sp:Nat→Bool} {held:Bool}
theorem trod_fields {fuel:Nat} (ih:∀ (n:Nat) (t:TypeId) (es:List Sh) (cs:List Value) (d:DataW H) (ps:List MemPlace),shT P n t=some es→DataW.trod enc P w 0 sp held fuel t cs=some (d,ps)→Rd w es cs (datD d)) :
  ∀ (fs:List Field) (n run:Nat) (es:List Sh) (cs:List Value) (xs:List (DataW H×List MemPlace)),shF P n run fs=some es →
   fs.mapM (fun f=>DataW.trod enc P w 0 sp held fuel f.type ((cs.drop f.offset).take (P.cellsOf f.type)))=some xs→run+es.length≤cs.length→Rd w es ((cs.drop run).take es.length) (datF (xs.map (·.1)))
 | [],n,run,es,cs,xs,h,hm,hl=>by
  have:es=[]:=by cases n <;> · simp only [shF] at h; injection h with h; exact h.symm
  subst this
  simp at hm; subst hm
  exact ⟨by simp [datF,okShs],by simp,fun i d v h1=>by simp [datF] at h1⟩
 | f :: fs,0,run,es,cs,xs,h,hm,hl=>by simp [shF] at h
 | f :: fs,n+1,run,es,cs,xs,h,hm,hl=>by
  simp only [shF] at h
  split at h
  ·rename_i ho
   split at h
   ·rename_i es1 h1
    split at h
    ·rename_i hc
     split at h
     ·rename_i l h2
      injection h with h; subst h
      rw [List.mapM_cons] at hm
      cases hf:DataW.trod enc P w 0 sp held fuel f.type ((cs.drop f.offset).take (P.cellsOf f.type)) with
      | none=>rw [hf] at hm; cases hm
      | some x =>
       rw [hf] at hm
       cases hr:fs.mapM (fun f=>DataW.trod enc P w 0 sp held fuel f.type ((cs.drop f.offset).take (P.cellsOf f.type))) with
       | none=>rw [hr] at hm; cases hm
       | some xs' =>
        rw [hr] at hm
        have hm:some (x :: xs')=some xs:=hm
        injection hm with hm; subst hm
        simp only [List.length_append] at hl
        have g1:=ih n f.type es1 _ x.1 x.2 h1 hf
        have g2:=trod_fields ih fs n (run+es1.length) l cs xs' h2 hr (by omega)
        rw [ho,hc] at g1
        have e:(cs.drop run).take (es1 ++ l).length=(cs.drop run).take es1.length ++ (cs.drop (run+es1.length)).take l.length:=by
         rw [List.length_append,List.take_add,List.drop_drop]
        rw [e]
        exact g1.app g2
     ·cases h
    ·cases h
   ·cases h
  ·cases h
theorem trod_rd:∀ (fuel n:Nat) (t:TypeId) (es:List Sh) (cs:List Value) (d:DataW H) (ps:List MemPlace),shT P n t=some es→DataW.trod enc P w 0 sp held fuel t cs=some (d,ps)→Rd w es cs (datD d)
 | 0,n,t,es,cs,d,ps,hs,h=>by simp [DataW.trod] at h
 | fuel+1,0,t,es,cs,d,ps,hs,h=>by simp [shT] at hs
 | fuel+1,n+1,t,es,cs,d,ps,hs,h=>by
  have ih:=trod_rd fuel
  cases hu:P.underlying t with
  | none=>simp [shT,hu] at hs
  | some td =>
   unfold DataW.trod at h
   simp only [shT,hu] at hs
   rw [hu] at h
   cases td <;> simp only at hs <;> first | (cases hs; done) | skip
   case bool =>
    injection hs with hs; subst hs
    split at h <;> first | (rename_i e; cases e; done) | (rename_i e _; cases e; done) | (rename_i e _ _; cases e; done) | skip
    ·injection h with h; injection h with h1 h2; subst h1
     exact Rd.one ⟨_,rfl⟩ (.v _ rfl)
    ·cases h
   case int k =>
    injection hs with hs; subst hs
    split at h <;> first | (rename_i e; cases e; done) | (rename_i e _; cases e; done) | (rename_i e _ _; cases e; done) | skip
    ·rename_i e
     injection e with e; injection e with e; subst e
     split at h
     ·rename_i hk
      obtain ⟨rfl,hw⟩:=hk
      injection h with h; injection h with h1 h2; subst h1
      exact Rd.one ⟨_,rfl,hw⟩ (.v _ rfl)
     ·cases h
    ·cases h
   case string =>
    injection hs with hs; subst hs
    split at h <;> first | (rename_i e; cases e; done) | (rename_i e _; cases e; done) | (rename_i e _ _; cases e; done) | skip
    ·rename_i s0 e
     split at h
     ·injection h with h; injection h with h1 h2; subst h1
      exact Rd.one ⟨_,rfl⟩ (by simpa [datD] using DRel.v (.string s0) rfl)
     ·cases h
    ·cases h
   case slice e =>
    split at hs
    ·rename_i es1 h1
     split at hs
     ·rename_i hc
      injection hs with hs; subst hs
      split at h <;> first | (rename_i e; cases e; done) | (rename_i e _; cases e; done) | (rename_i e _ _; cases e; done) | skip
      ·injection h with h; injection h with h1 h2; subst h1
       exact Rd.one ⟨[],rfl,by simp⟩ (.nil none 0)
      ·rename_i e' a len cap heq
       injection heq with heq; injection heq with heq; subst heq
       simp only at h
       split at h
       ·rename_i hcap
        cases hm:(List.range len).mapM (fun i=>(w.cells? 0 (a.add (i*P.cellsOf e)) (P.cellsOf e)).bind (DataW.trod enc P w 0 sp held fuel e)) with
        | none=>rw [hm] at h; cases h
        | some elems =>
         rw [hm] at h
         simp only [Option.bind_some,Option.map_eq_some_iff] at h
         obtain ⟨rest,_,h⟩:=h
         injection h with h2 h3; subst h2
         obtain ⟨hlen,hget⟩:=mapM_some hm
         rw [List.length_range] at hlen
         have hel:∀ (i:Nat) x,elems[i]? = some x→∃ cs,w.cells? 0 (a.add (i*es1.length)) es1.length=some cs∧Rd w es1 cs (datD x.1):=fun i x hx=>by
          have hi:i<len:=by have:=(List.getElem?_eq_some_iff.1 hx).1; omega
          obtain ⟨y,hy,hz⟩:=hget i i (by simp [hi])
          rw [hx] at hy; injection hy with hy; subst hy
          simp only [Option.bind_eq_some_iff] at hz
          obtain ⟨cs,hcs,hz⟩:=hz
          rw [hc.1] at hcs
          exact ⟨cs,hcs,ih n e es1 cs x.1 x.2 h1 hz⟩
         have hget':∀ (i:Nat) y,(datDs (elems.map (·.1)))[i]? = some y→∃ x,elems[i]? = some x∧y=datD x.1:=fun i y hy=>by
          rw [datDs_get,List.getElem?_map] at hy
          cases hx:elems[i]? with
          | none=>rw [hx] at hy; cases hy
          | some x=>rw [hx] at hy; simp at hy; exact ⟨x,rfl,hy.symm⟩
         have hok:∀ y∈datDs (elems.map (·.1)),okShs es1 y:=fun y hy=>by
          obtain ⟨i,hi⟩:=List.getElem?_of_mem hy
          obtain ⟨x,hx,rfl⟩:=hget' i y hi
          obtain ⟨cs,_,hr⟩:=hel i x hx
          exact hr.1
         refine Rd.one ⟨_,rfl,hok⟩ ?_
         by_cases hl0:len=0
         ·have:elems=[]:=List.length_eq_zero_iff.1 (by omega)
          subst this; subst hl0
          exact .nil _ _
         ·obtain ⟨x0,hx0⟩:∃ x0,elems[0]? = some x0:=⟨elems[0]'(by omega),by simp⟩
          obtain ⟨cs0,hcs0,hr0⟩:=hel 0 x0 hx0
          obtain ⟨g1,g2⟩:=cells_get hcs0
          obtain ⟨v0,hv0⟩:∃ v0,cs0[0]? = some v0:=⟨cs0[0]'(by omega),by simp⟩
          have hsp:=cell_spot (g2 0 v0 hv0)
          have ha0:(a.add (0*es1.length)).add 0=a:=by simp [Addr.add]
          rw [ha0] at hsp
          have hadd:∀ i j,(a.add (i*es1.length)).add j=⟨a.block,a.off+i*es1.length+j,none⟩:=fun i j=>by
           cases a with
           | mk b o sp0 =>
            have:sp0=none:=hsp.1
            subst this
            unfold Addr.add
            split
            ·split
             ·rename_i q1 q2; simp [q1,q2]
             ·rename_i q1 q2; simp [q1]
            ·split
             ·rename_i q1 q2; simp [q2]
             ·rfl
          obtain ⟨b,o,sp0⟩:=a
          have:sp0=none:=hsp.1
          subst this
          have hlen':(datDs (elems.map (·.1))).length=len:=by rw [datDs_len,List.length_map,hlen]
          have hcell:∀ (i:Nat) (y:List D) (j:Nat) (d:D),(datDs (elems.map (·.1)))[i]? = some y→y[j]? = some d→∃ v,w.cell? ⟨b,o+i*es1.length+j,none⟩=some v∧DRel (fun b=>b<w.heap.size) w d v:=fun i y j d hy hd=>by
           obtain ⟨x,hx,rfl⟩:=hget' i y hy
           obtain ⟨cs,hcs,hr⟩:=hel i x hx
           obtain ⟨q1,q2⟩:=cells_get hcs
           have hj:j<cs.length:=by
            have:=(List.getElem?_eq_some_iff.1 hd).1
            rw [okShs_len hr.1] at this; omega
           have hv:cs[j]? = some cs[j]:=by simp [hj]
           refine ⟨cs[j],?_,hr.2.2 j d _ hd hv⟩
           have:=q2 j _ hv
           rw [hadd] at this; exact this
          have:=DRel.sl (S:=fun b=>b<w.heap.size) (w:=w) (datDs (elems.map (·.1))) b o cap es1.length (fun i j=>(w.cell? ⟨b,o+i*es1.length+j,none⟩).getD undef) hsp.2 hsp.2 (by rw [hlen']; exact hcap.2.1)
           (fun i x hx=>by
            obtain ⟨x',hx',rfl⟩:=hget' i x hx
            obtain ⟨cs,_,hr⟩:=hel i x' hx'
            exact okShs_len hr.1)
           (fun i x j d hi hj=>by obtain ⟨v,hv,_⟩:=hcell i x j d hi hj; rw [hv]; rfl)
           (fun i x j d hi hj=>by obtain ⟨v,hv,hr⟩:=hcell i x j d hi hj; rw [hv]; exact hr)
          rw [hlen'] at this
          exact this
       ·cases h
      ·cases h
     ·cases hs
    ·cases hs
   case struct fs =>
    split at hs
    ·rename_i es1 h1
     split at hs
     ·rename_i hc
      injection hs with hs; subst hs
      split at h <;> first | (rename_i e; cases e; done) | (rename_i e _; cases e; done) | (rename_i e _ _; cases e; done) | skip
      ·rename_i fs' heq
       injection heq with heq; injection heq with heq; subst heq
       split at h
       ·rename_i hlen
        simp only [Option.map_eq_some_iff] at h
        obtain ⟨xs,hm,h⟩:=h
        injection h with h2 h3; subst h2
        have:=trod_fields ih fs.toList n 0 es1 _ xs h1 hm (by omega)
        rw [List.drop_zero,List.take_of_length_le (by omega)] at this
        exact this
       ·cases h
      ·exact (‹∀ fs_1,some (TypeDesc.struct fs)=some (TypeDesc.struct fs_1)→False› fs rfl).elim
     ·cases hs
    ·cases hs
theorem vals_of_trod:∀ {ts:List TypeId} {vs:List Value} {ds:List (DataW H)} {ps:List MemPlace},DataW.TrodAll enc P w 0 sp held ts vs ds ps →
  ∀ (n:Nat) (ess:List (List Sh)),ts.map (shT P n)=ess.map some→vs.length=ts.length∧ds.length=ts.length ∧
   ∀ (i:Nat) es v d,ess[i]? = some es→vs[i]? = some v→ds[i]? = some d→Rd w es v.cells.toList (datD d)
 | [],[],[],ps,h,n,ess,he=>by
  have:ess=[]:=by cases ess <;> simp_all
  subst this
  simp
 | t :: ts,v :: vs,d :: ds,ps,h,n,ess,he=>by
  obtain ⟨p,q,⟨fuel,h1⟩,h2,_⟩:=h
  match ess,he with
  | es :: ess,he =>
   simp only [List.map_cons,List.cons.injEq] at he
   obtain ⟨g1,g2,g3⟩:=vals_of_trod h2 n ess he.2
   refine ⟨by simp [g1],by simp [g2],fun i es' v' d' hi hv hd=>?_⟩
   cases i with
   | zero=>simp at hi hv hd; subst hi; subst hv; subst hd; exact trod_rd fuel n t es _ _ _ he.1 h1
   | succ i=>simp at hi hv hd; exact g3 i es' v' d' hi hv hd
 | [],_ :: _,_,_,h,_,_,_=>by cases h
 | [],[],_ :: _,_,h,_,_,_=>by cases h
 | _ :: _,[],_,_,h,_,_,_=>by cases h
 | _ :: _,_ :: _,[],_,h,_,_,_=>by cases h
def argV (agg:Bool) (ds:List D):V:=if agg then .agg (ds.map .d) else match ds with | [d]=>.c (.d d) | _=>.any
theorem argV_rel {k:K} (hS:k.S=fun b=>b<k.w.heap.size) {es:List Sh} {v:Value} {ds:List D} {agg:Bool} (h:Rd k.w es v.cells.toList ds) (ha:agg=true→∃ cs,v = .agg cs) (hna:agg=false→v.cells = #[v]∧es.length=1) :
  VRel P k (argV agg ds) v:=by
 cases agg with
 | true =>
  obtain ⟨cs,rfl⟩:=ha rfl
  have hl:=okShs_len h.1
  have h2:=h.2.1
  refine ⟨cs,rfl,?_,fun i c v hc hv=>?_⟩
  ·simp [Value.cells] at h2; simp [hl,h2]
  ·rw [List.getElem?_map] at hc
   cases hd:ds[i]? with
   | none=>rw [hd] at hc; cases hc
   | some d =>
    rw [hd] at hc; simp at hc; subst hc
    have:=h.2.2 i d v hd (by simpa [Value.cells] using hv)
    show DRel k.S k.w d v
    rw [hS]; exact this
 | false =>
  obtain ⟨hc,he⟩:=hna rfl
  have hl:=okShs_len h.1
  match ds,hl with
  | [d],_ =>
   have:=h.2.2 0 d v rfl (by rw [hc]; rfl)
   show DRel k.S k.w d v
   rw [hS]; exact this
  | [],hl=>rw [he] at hl; cases hl
  | _ :: _ :: _,hl=>rw [he] at hl; simp at hl
theorem stab_nil0 (w:World):(ctx (fun _=>none) [] w).S=fun b=>b<w.heap.size:=by
 funext b
 apply propext
 constructor
 ·intro h; exact h.1
 ·intro h; exact ⟨h,fun r o hr=>by simp at hr⟩
theorem hrel_nil (w:World):HRel P (fun _=>none) [] w:=⟨fun r o hr=>by simp at hr,fun r r' o o' b hr=>by simp at hr,fun r b hr=>by cases hr⟩
theorem post_of_acalls {G0:Gl} (hl:laidOutB P=true) {f:Nat} {fn:Func} {s:ChangeSpec} {W:World} (hG0:GRel G0 (stab (fun _=>none) [] W) W) {args:Array Value} {ds gs:List (DataW H)} {before:List MemPlace} {us:List V} {R:T→List O→Prop} {apart handsOn:Bool} {tb:TypeId}
  (hres:fn.resultTypes = #[tb]) (hb:P.underlying tb=some .bool) (hvars:s.vars=[]) (hspec:s.fn H (ds ++ gs) = { results:=[.lit (.bool true)],args:=ds })
  (hparams:∀ t∈fn.params.toList,P.readableRec t=true∧t<P.types.size)
  (hW:DataW.Whole enc P fn.params.toList s.vars apart W args.toList ds gs before)
  (hv:VsRel P (ctx (fun _=>none) [] W) us args) (h:ACalls P G0 f us [] R) (hR:∀ t H,R t H→t = .bool true) :
  Calls P f args W fun e W'=>∃ v,e = .returned v∧s.post enc P fn apart true handsOn false W args v W':=by
 refine (h.2 (fun _=>none) W args (hrel_nil W) hG0 hv).mono ?_
 rintro e W' ⟨v,t,ρ',H',rfl,hRt,hH,ht,le⟩
 have:=hR t H' hRt
 subst this
 have hvt:v = .bool true:=drel_v ht
 subst hvt
 have hstep:=le.step
 rw [stab_nil0] at hstep
 have hkeep:∀ b,b<W.heap.size→W'.heap[b]? = W.heap[b]? := hstep.keep
 obtain ⟨p,q,hA,hV,hpq,hz,hn⟩:=id hW
 have hlt:∀ x∈before,x.block<W.heap.size:=fun x hx=>by simpa using hW.lt x hx
 have hq:q=[]:=by rw [hvars] at hV; cases gs <;> simp [DataW.TrodVars] at hV; exact hV
 subst hq
 rw [List.append_nil] at hpq
 have hbelow:Go.RowKit.Below W.heap.size W W':=⟨hstep.os,hstep.tape,hstep.output,hstep.size,hkeep⟩
 have hargs:∀ (ts:List TypeId) (vs:List Value) (ds:List (DataW H)) (ps:List MemPlace),(∀ t∈ts,P.readableRec t=true∧t<P.types.size)→(∀ x∈ps,x.block<W.heap.size)→DataW.TrodAll enc P W 0 (fun _=>true) true ts vs ds ps →
   DataW.TrodAll enc P W' 0 (fun b=>decide (b<W.heap.size)) true ts vs ds ps:=by
  intro ts
  induction ts with
  | nil=>intro vs ds ps _ _ h; cases vs <;> cases ds <;> exact h
  | cons t ts ih =>
   intro vs ds ps hp hlt h
   cases vs with
   | nil=>cases h
   | cons v vs =>
    cases ds with
    | nil=>cases h
    | cons d ds =>
     obtain ⟨p,q,h1,h2,rfl⟩:=h
     have ht:=hp t List.mem_cons_self
     exact ⟨p,q,Go.RowKit.Below.trod hl ht.1 ht.2 h1 hbelow (fun x hx=>hlt x (List.mem_append_left _ hx)),ih vs ds q (fun t ht=>hp t (List.mem_cons_of_mem _ ht)) (fun x hx=>hlt x (List.mem_append_right _ hx)) h2,rfl⟩
 refine ⟨_,rfl,ds,gs,before,[],before,[],hW,?_,?_,?_,?_,fun h=>by cases h⟩
 ·rw [hspec,hres]
  exact ⟨[],[],Go.RowKit.shut_bool hb true,rfl,rfl⟩
 ·rw [hspec]; exact hargs _ _ _ _ hparams hlt (hpq▸hA)
 ·rw [hspec,hvars]; simp [DataW.TrodVars]
 ·refine ⟨hstep.os,hstep.output,fun i hi=>?_⟩
  rw [hkeep i hi]
  cases W.heap[i]? with
  | none=>simp
  | some o=>cases o <;> simp
end
section
variable {P:Program} {w:World}
def aggT (P:Program) (t:TypeId):Bool:=match P.underlying t with
 | some (.struct _)=>true
 | some (.array _ _)=>true
 | _=>false
theorem okWide_one {r:Reach} {base:Nat} {t:TypeId} {v:Value} (ha:aggT P t=false) (h:Value.okWide P w r base t v):v.cells = #[v]:=by
 unfold aggT at ha
 unfold Value.okWide at h
 cases hu:P.underlying t with
 | none =>
  rw [hu] at h
  cases v <;> first | rfl | (simp [Cell.okWide,Cell.ok,hu] at h)
 | some td =>
  rw [hu] at h ha
  cases td <;> first | (cases ha; done) | (cases v <;> first | rfl | (simp [Cell.okWide,Cell.ok,hu] at h))
theorem okWide_agg {r:Reach} {base:Nat} {t:TypeId} {v:Value} (ha:aggT P t=true) (h:Value.okWide P w r base t v):∃ cs,v = .agg cs:=by
 unfold aggT at ha
 unfold Value.okWide at h
 cases hu:P.underlying t with
 | none=>rw [hu] at ha; cases ha
 | some td =>
  rw [hu] at h ha
  cases td <;> first | (cases ha; done) | (obtain ⟨cs,e,_⟩:=h; exact ⟨cs,e⟩)
theorem shT_one {n:Nat} {t:TypeId} {es:List Sh} (ha:aggT P t=false) (h:shT P n t=some es):es.length=1:=by
 cases n with
 | zero=>simp [shT] at h
 | succ n =>
  unfold aggT at ha
  cases hu:P.underlying t with
  | none=>simp [shT,hu] at h
  | some td =>
   rw [hu] at ha
   simp only [shT,hu] at h
   cases td <;> simp only at h <;> first | (cases h; done) | (cases ha; done) | (injection h with h; subst h; rfl) | skip
   split at h
   ·split at h
    ·injection h with h; subst h; rfl
    ·cases h
   ·cases h
variable {H:Type} {enc:TypeId×Value→H}
theorem law_calls {G0:Gl} (hl:laidOutB P=true) {f:Nat} {fn:Func} {s:ChangeSpec} {W:World} (hG0:GRel G0 (stab (fun _=>none) [] W) W) {base:Nat} {args:Array Value} {ds gs:List (DataW H)} {before:List MemPlace} {apart handsOn:Bool} {tb:TypeId}
  {n:Nat} {ess:List (List Sh)} {aggs:List Bool} (hts:fn.params.toList.map (shT P n)=ess.map some) (hag:fn.params.toList.map (aggT P)=aggs)
  (hres:fn.resultTypes = #[tb]) (hb:P.underlying tb=some .bool) (hvars:s.vars=[]) (hspec:∀ ds:List (DataW H),ds.length=fn.params.toList.length→s.fn H ds = { results:=[.lit (.bool true)],args:=ds })
  (hparams:fn.params.toList.all (fun t=>P.readableRec t && decide (t<P.types.size))=true)
  (hval:∀ (j:Nat) t v,fn.params[j]? = some t→args[j]? = some v→Value.okWide P W .any base t v)
  (hW:DataW.Whole enc P fn.params.toList s.vars apart W args.toList ds gs before)
  (h:(ds.map datD).length=ess.length→(∀ (i:Nat) es u,ess[i]? = some es→(ds.map datD)[i]? = some u→okShs es u)→gs=[]→ACalls P G0 f (List.zipWith argV aggs (ds.map datD)) [] fun t _=>t = .bool true) :
  Calls P f args W fun e W'=>∃ v,e = .returned v∧s.post enc P fn apart true handsOn false W args v W':=by
 obtain ⟨p,q,hA,hV,hpq,hz,hn⟩:=id hW
 have hgs:gs=[]:=by rw [hvars] at hV; cases gs <;> simp [DataW.TrodVars] at hV; rfl
 subst hgs
 obtain ⟨l1,l2,hr⟩:=vals_of_trod hA n ess hts
 have hel:ess.length=fn.params.toList.length:=by have:=congrArg List.length hts; simpa using this.symm
 have hal:aggs.length=fn.params.toList.length:=by rw [← hag]; simp
 have hok:=h (by simp [l2,hel]) (fun i es u he hu=>by
  rw [List.getElem?_map] at hu
  cases hd:ds[i]? with
  | none=>rw [hd] at hu; cases hu
  | some d =>
   rw [hd] at hu; simp at hu; subst hu
   have hi:i<args.toList.length:=by rw [l1,← l2]; exact (List.getElem?_eq_some_iff.1 hd).1
   exact (hr i es _ d he (List.getElem?_eq_getElem hi) hd).1) rfl
 refine post_of_acalls hl hG0 (ds:=ds) (gs:=[]) hres hb hvars (by rw [List.append_nil]; exact hspec ds l2) (fun t ht=>?_) hW ?_ hok (fun t H h=>h)
 ·have:=List.all_eq_true.1 hparams t ht
  simp at this; exact this
 ·refine ⟨by simp [hal,l2]; simpa using l1,fun i c v hc hv=>?_⟩
  rw [List.getElem?_zipWith] at hc
  have hv':args.toList[i]? = some v:=by simpa using hv
  have hi:i<fn.params.toList.length:=by rw [← l1]; exact (List.getElem?_eq_some_iff.1 hv').1
  have hp:fn.params.toList[i]? = some fn.params.toList[i]:=List.getElem?_eq_getElem hi
  obtain ⟨t,ht⟩:∃ t,fn.params.toList[i]? = some t:=⟨_,hp⟩
  have hga:aggs[i]? = some (aggT P t):=by rw [← hag,List.getElem?_map,ht]; rfl
  have hsh:∃ es,ess[i]? = some es∧shT P n t=some es:=by
   have h1:(fn.params.toList.map (shT P n))[i]? = some (shT P n t):=by rw [List.getElem?_map,ht]; rfl
   rw [hts,List.getElem?_map] at h1
   cases he:ess[i]? with
   | none=>rw [he] at h1; cases h1
   | some es=>rw [he] at h1; simp at h1; exact ⟨es,rfl,h1.symm⟩
  obtain ⟨es,he,hse⟩:=hsh
  have hdi:i<ds.length:=by rw [l2]; exact hi
  have hd:ds[i]? = some ds[i]:=List.getElem?_eq_getElem hdi
  have hdm:(ds.map datD)[i]? = some (datD ds[i]):=by rw [List.getElem?_map,hd]; rfl
  rw [hga,hdm] at hc
  simp at hc
  subst hc
  have hrd:=hr i es v ds[i] he hv' hd
  have hok':=hval i t v (by simpa using ht) hv
  exact argV_rel (k:=ctx (fun _=>none) [] W) (stab_nil0 W) hrd (fun ha=>okWide_agg ha hok') (fun ha=>⟨okWide_one ha hok',shT_one ha hse⟩)
mutual
def wD:D→Nat
 | .v (.string s)=>s.size+1
 | .sl xs=>wDss xs+1
 | _=>1
def wDs:List D→Nat
 | []=>0
 | d :: r=>wD d+wDs r
def wDss:List (List D)→Nat
 | []=>0
 | x :: r=>wDs x+wDss r
end
theorem wDs_app:∀ (a b:List D),wDs (a ++ b)=wDs a+wDs b
 | [],b=>by simp [wDs]
 | d :: a,b=>by simp only [List.cons_append,wDs,wDs_app a b]; omega
end
end Go.Aw
namespace Go.Aw.Try
open Go Go.Proofs Go.Proofs.YtocddjiebigmgaaGreatDoor Go.Aw
set_option maxRecDepth 100000
abbrev idSh:List Sh:=[.s,.i .i64]
abbrev editSh:List Sh:=[.s,.i .i64,.i .i64,.i .i64,.sl idSh,.i .i64,.s,.i .i64,.s,.i .i64,.b,.s,.s,.s,.s,.s,.i .i64,.s]
theorem dec_id {l:List D} (h:okShs idSh l):∃ x:Id,l=x.row:=by
 simp only [idSh,okShs,okSh] at h
 obtain ⟨_,_,rfl,⟨a,rfl⟩,_,_,rfl,⟨n,rfl,_⟩,rfl⟩:=h
 exact ⟨⟨a,n⟩,rfl⟩
theorem dec_list {α:Type} {row:α→List D} {sh:List Sh} (hd:∀ l,okShs sh l→∃ x,l=row x):∀ {xs:List (List D)},(∀ x∈xs,okShs sh x)→∃ l:List α,xs=l.map row
 | [],_=>⟨[],rfl⟩
 | x :: xs,h=>by
  obtain ⟨a,rfl⟩:=hd x (h x List.mem_cons_self)
  obtain ⟨l,rfl⟩:=dec_list hd (fun y hy=>h y (List.mem_cons_of_mem _ hy))
  exact ⟨a :: l,rfl⟩
theorem dec_edit {l:List D} (h:okShs editSh l):∃ e:Edit,l=e.row:=by
 simp only [editSh,okShs,okSh] at h
 obtain ⟨_,_,rfl,⟨a1,rfl⟩,_,_,rfl,⟨a2,rfl,_⟩,_,_,rfl,⟨a3,rfl,_⟩,_,_,rfl,⟨a4,rfl,_⟩,_,_,rfl,⟨a5,rfl,h5⟩,_,_,rfl,⟨a6,rfl,_⟩,_,_,rfl,⟨a7,rfl⟩,_,_,rfl,⟨a8,rfl,_⟩,_,_,rfl,⟨a9,rfl⟩,_,_,rfl,⟨a10,rfl,_⟩,
  _,_,rfl,⟨a11,rfl⟩,_,_,rfl,⟨a12,rfl⟩,_,_,rfl,⟨a13,rfl⟩,_,_,rfl,⟨a14,rfl⟩,_,_,rfl,⟨a15,rfl⟩,_,_,rfl,⟨a16,rfl⟩,_,_,rfl,⟨a17,rfl,_⟩,_,_,rfl,⟨a18,rfl⟩,rfl⟩:=h
 obtain ⟨ds,rfl⟩:=dec_list (row:=Id.row) (fun l h=>dec_id h) h5
 exact ⟨⟨⟨a1,a2⟩,a3,a4,ds,a6,⟨a7,a8⟩,⟨a9,a10⟩,a11,a12,a13,a14,a15,⟨a16,a17⟩,a18⟩,rfl⟩
theorem dec_edits {l:List D} (h:okShs [.sl editSh] l):∃ es:List Edit,l=[.sl (es.map Edit.row)]:=by
 simp only [okShs,okSh] at h
 obtain ⟨_,_,rfl,⟨xs,rfl,h⟩,rfl⟩:=h
 obtain ⟨es,rfl⟩:=dec_list (row:=Edit.row) (fun l h=>dec_edit h) h
 exact ⟨es,rfl⟩
theorem wrows {α:Type} {row:α→List D} (h:∀ x,row x≠[]):∀ l:List α,l.length≤wDss (l.map row)
 | []=>by simp
 | x :: l=>by
  have:=wrows h l
  have h1:1≤wDs (row x):=by
   cases hx:row x with
   | nil=>exact absurd hx (h x)
   | cons d r =>
    have:1≤wD d:=by unfold wD; split <;> omega
    simp only [wDs]; omega
  simp only [List.map_cons,wDss,List.length_cons]; omega
section
variable {H:Type}
mutual
theorem bulk_D:∀ d:DataW H,wDs (datD d)≤Rows.uptoBulk d
 | .lit l=>by cases l <;> simp [datD,wDs,wD,Rows.uptoBulk,ByteArray.size]
 | .nil=>by simp [datD,wDs,wD,wDss,Rows.uptoBulk]
 | .ptr d=>by simp [datD,wDs]
 | .slice es sp=>by
  have:=bulk_Ds es
  simp only [datD,wDs,wD,Rows.uptoBulk]; omega
 | .agg ps=>by
  have:=bulk_F ps
  simp only [datD,Rows.uptoBulk]; omega
 | .iface t d=>by simp [datD,wDs]
 | .map es=>by simp [datD,wDs]
 | .held h=>by simp [datD,wDs]
theorem bulk_Ds:∀ l:List (DataW H),wDss (datDs l)≤Rows.uptoBulkAll l
 | []=>by simp [datDs,wDss]
 | d :: r=>by
  have h1:=bulk_D d
  have h2:=bulk_Ds r
  simp only [datDs,wDss,Rows.uptoBulkAll]; omega
theorem bulk_F:∀ l:List (DataW H),wDs (datF l)≤Rows.uptoBulkAll l
 | []=>by simp [datF,wDs]
 | d :: r=>by
  have h1:=bulk_D d
  have h2:=bulk_F r
  simp only [datF,Rows.uptoBulkAll]; rw [wDs_app]; omega
end
theorem bulk_args {ds:List (DataW H)} (hk:Rows.uptoSmall H ds=true):∀ (i:Nat) u,(ds.map datD)[i]? = some u→wDs u≤1048576:=by
 have h:Rows.uptoBulkAll ds≤1048576:=of_decide_eq_true hk
 intro i u hu
 have key:∀ (ds:List (DataW H)) (i:Nat) u,(ds.map datD)[i]? = some u→wDs u≤Rows.uptoBulkAll ds:=by
  intro ds
  induction ds with
  | nil=>intro i u hu; simp at hu
  | cons d r ih =>
   intro i u hu
   cases i with
   | zero=>simp at hu; subst hu; have:=bulk_D d; simp only [Rows.uptoBulkAll]; omega
   | succ i=>simp at hu; have:=ih i u (by simpa using hu); simp only [Rows.uptoBulkAll]; omega
 exact Nat.le_trans (key ds i u hu) h
end
theorem own:ownKnob Tryz.prog.godebug=none:=by kernel_rfl
theorem laid:laidOutB Tryz.prog=true:=by kernel_rfl
theorem wmem {α:Type} {row:α→List D}:∀ {l:List α} {x:α},x∈l→wDs (row x)≤wDss (l.map row)
 | [],x,h=>by cases h
 | y :: l,x,h=>by
  simp only [List.map_cons,wDss]
  rcases List.mem_cons.1 h with rfl | h
  ·omega
  ·have:=wmem (row:=row) h; omega
theorem maxlen {W:World} (h:W.ShapedOpen Tryz.prog):∃ m,GRel (GM m) (stab (fun _=>none) [] W) W:=by
 obtain ⟨m,hm⟩:=cell_of_shapedOpen_int (P:=Tryz.prog) (g:=0) (t:=3) (zero:=#[.int .i64 0]) h (of_decide_eq_true (by kernel_rfl)) (by kernel_rfl) rfl (by kernel_rfl) (by kernel_rfl) Tryz.underlying3
 refine ⟨m,fun g cs hg=>?_⟩
 unfold GM at hg
 split at hg
 ·rename_i h0
  subst h0
  injection hg with hg; subst hg
  have hlt:0<W.heap.size:=World.block_lt_of_cell? _ _ hm
  refine ⟨⟨hlt,fun r o hr=>by simp at hr⟩,hlt,fun j d hj=>?_⟩
  cases j with
  | zero=>injection hj with hj; subst hj; exact ⟨_,hm,DRel.v _ rfl⟩
  | succ j=>simp at hj
 ·cases hg
def litV:DataW Unit→Value
 | .lit (.int k n)=>.int k n
 | _=>undef
def aggV:DataW Unit→List Value
 | .agg xs=>xs.flatMap fun d=>match d with
  | .agg ys=>ys.map litV
  | d=>[litV d]
 | _=>[]
def layO (cs:Array Value):Obj→Obj
 | .cells _ t fz=>.cells cs t fz
 | o=>o
noncomputable def laidWorld (os:Os):World :=
  { World.holding Tryz.prog os ⟨#[],#[],[]⟩ with heap:=((World.holding Tryz.prog os ⟨#[],#[],[]⟩).heap.modify 1 (layO (aggV Go.Pinned.utf8First).toArray)).modify 2 (layO (aggV (Rows.laid_unicode_utf8_acceptRanges (H:=Unit))).toArray) }
theorem dec_ids {l:List D} (h:okShs [.sl idSh] l):∃ es:List Id,l=[.sl (es.map Id.row)]:=by
 simp only [okShs,okSh] at h
 obtain ⟨_,_,rfl,⟨xs,rfl,h⟩,rfl⟩:=h
 obtain ⟨es,rfl⟩:=dec_list (row:=Id.row) (fun l h=>dec_id h) h
 exact ⟨es,rfl⟩
theorem b_ids {l:List Id} (h:wDs [.sl (l.map Id.row)]≤1048576):l.length<1152921504606846976∧∀ x∈l,x.a.size<1152921504606846976:=by
 simp only [wDs,wD] at h
 have h1:=wrows (row:=Id.row) (fun x=>by simp [Id.row]) l
 refine ⟨by omega,fun e he=>?_⟩
 have h2:=wmem (row:=Id.row) he
 have h6:e.a.size≤wDs (Id.row e):=by simp only [Id.row,wDs,wD]; omega
 omega
theorem b_edits {l:List Edit} (h:wDs [.sl (l.map Edit.row)]≤1048576):l.length<1152921504606846976∧∀ e∈l,Siz e:=by
 simp only [wDs,wD] at h
 have h1:=wrows (row:=Edit.row) (fun x=>by simp [Edit.row]) l
 refine ⟨by omega,fun e he=>?_⟩
 have h2:=wmem (row:=Edit.row) he
 have h4:=wrows (row:=Id.row) (fun x=>by simp [Id.row]) e.deps
 have h5:wDs e.row≤1048576:=by omega
 simp only [Edit.row,wDs,wD] at h5
 exact ⟨by omega,by omega,by omega,by omega,by omega,by omega,by omega,by omega,by omega,by omega⟩
theorem okA {v:List Id} {l:List Edit} (hv:v.length<1152921504606846976∧∀ x∈v,x.a.size<1152921504606846976) (hl:l.length<1152921504606846976∧∀ e∈l,Siz e):OkA v l:=⟨hv.1,hv.2,hl.1,hl.2⟩
open Go Go.Proofs Go.Aw
set_option maxHeartbeats 4000000
structure OkR (v:List Id) (l:List Edit):Prop where
 asc:AscI v
 pos:PosI v
 vl:v.length≤8
 ll:l.length≤1000
 ee:∀ e∈l,OkE e∧e.deps.length≤12
theorem okE_small {e:Edit} (h:bigB e=false):OkE e∧e.deps.length≤12:=by
 unfold bigB at h
 simp only [Bool.or_eq_false_iff,decide_eq_false_iff_not,List.any_eq_false,decide_eq_true_eq] at h
 obtain ⟨h1,h2,h3,h4,h5⟩:=h
 exact ⟨⟨by omega,by omega,by omega,by omega,by omega,by omega,by omega,by omega,by omega,by omega,fun x hx=>by have:=h5 x hx; omega⟩,by omega⟩
theorem few_ok {v:List Id} {l:List Edit} (h:fewB v l=true):OkR v l:=by
 unfold fewB at h
 simp only [Bool.and_eq_true,decide_eq_true_eq,List.all_eq_true,Bool.not_eq_true'] at h
 obtain ⟨h1,h2,h3,h4⟩:=h
 obtain ⟨a,b⟩:=chk_asc h3
 exact ⟨a,b,h1,by omega,fun e he=>okE_small (h4 e he)⟩
theorem foldS_len:∀ (l:List Edit) (s:List Id),(foldS s l).length≤s.length+l.length
 | [],s=>by simp [foldS]
 | e :: l,s=>by
  have h1:=addI_len s e.id
  have h2:=foldS_len l (addI s e.id)
  show (foldS (addI s e.id) l).length≤_
  rw [List.length_cons]; omega
theorem okL {v:List Id} {l m:List Edit} {A:LogE} (h:OkR v l) (hr:Rec chkE v m A) (hm:∀ e∈m,e∈l):OkL A∧A.pen.length≤1000∧A.del.length≤1000∧∀ p∈A.pen,p.deps.length≤12:=by
 have hd:A.del.length≤l.length:=by
  refine nodup_le ?_ fun e he=>hm e (hr.dv e he).2
  exact (ord_ids A.del v h.asc h.pos hr.c.inv.ord fun e he=>chkE_val (hr.dv e he).1).imp fun hne heq=>hne (by rw [heq])
 have hp:A.pen.length≤l.length:=by
  refine nodup_le ?_ fun e he=>hm e (hr.pv e he).2
  exact hr.so.imp fun {a b} hlt heq=>by
   subst heq
   have:=cmpE_pre.rf a
   omega
 have hll:=h.ll
 have hsl:=foldS_len A.del v
 rw [← hr.c.inv.sn] at hsl
 have hvl:=h.vl
 refine ⟨⟨by omega,by omega,by omega,hr.c.inv.asc,hr.so,fun e he=>?_,fun e he=>?_⟩,by omega,by omega,fun e he=>?_⟩
 ·have:=(h.ee e (hm e (hr.dv e he).2)).2; omega
 ·have:=(h.ee e (hm e (hr.pv e he).2)).2; omega
 ·exact (h.ee e (hm e (hr.pv e he).2)).2
noncomputable abbrev recV (v:List Id) (l:List Edit):LogE:=recA chkE ⟨[],[],v⟩ l
theorem recV_rec {v:List Id} {l:List Edit} (h0:AscI v) (p0:PosI v) (m:List Edit):Rec chkE v m (recV v m):=by
 have:=rec_all (chk:=chkE) (fun e=>chkE_val) m (rec_nil (chk:=chkE) h0 p0)
 rwa [List.nil_append] at this
theorem recA_take {L:LogE} {l:List Edit} {i:Nat} (h:i<l.length):recA chkE L (l.take (i+1))=(delE chkE (recA chkE L (l.take i)) (nth l i)).1:=by
 rw [take_nth h]
 unfold recA
 rw [List.foldl_append]; rfl
def annE:Edit:=noteE sAnn 1 1
def bobE:Edit:={ noteE sBob 1 2 with deps:=[⟨sAnn,1⟩] }
theorem chk_ann:chkE annE=0:=by decide +kernel
theorem chk_bob:chkE bobE=0:=by decide +kernel
theorem del1:delE chkE ⟨[],[],[]⟩ bobE=(⟨[],[bobE],[]⟩,19):=by
 unfold delE
 rw [if_neg (by rw [chk_bob]; simp),if_neg (by simp [forkB]),if_neg (by simp [hasId,conI,hasN,bobE,noteE]),if_pos (by decide +kernel)]
 rfl
theorem del2:delE chkE ⟨[],[bobE],[]⟩ annE=(⟨[annE,bobE],[],[⟨sAnn,1⟩,⟨sBob,1⟩]⟩,0):=by
 have hne:bobE.id≠annE.id:=by decide +kernel
 have h1:conI [] annE.id=false:=by decide +kernel
 have h2:hasId [bobE] annE.id=false:=by simp [hasId,hne]
 unfold delE
 rw [if_neg (by rw [chk_ann]; simp),if_neg (by simp [forkB,List.find?,hne]),if_neg (by rw [h1,h2]; simp),if_neg (by decide +kernel)]
 have:runL 1 ⟨[],[bobE],[]⟩ annE=⟨[annE,bobE],[],[⟨sAnn,1⟩,⟨sBob,1⟩]⟩:=by kernel_rfl
 show (runL 1 ⟨[],[bobE],[]⟩ annE,(0:Int))=_
 rw [this]
theorem mis1:missL ⟨[],[bobE],[]⟩=[⟨sAnn,1⟩]:=by kernel_rfl
theorem nth_0 {x:List D} {l:List (List D)}:nth (x :: l) 0=x:=rfl
theorem nth_1 {x y:List D} {l:List (List D)}:nth (x :: y :: l) 1=y:=rfl
theorem k1010 (m:Int):ACalls Tryz.prog (GM m) 10 [] [] fun t H=>t = .bool true∧H=[]:=by
 have s1:(x1011 m).sc=false:=rfl
 have s2:x1015.sc=false:=rfl
 have okA:OkE annE:=(okE_small (by decide +kernel)).1
 have okB:OkE bobE:=(okE_small (by decide +kernel)).1
 have o1:OkL ⟨[],[],[]⟩:=⟨by simp,by simp,by simp,List.Pairwise.nil,List.Pairwise.nil,fun e h=>(nomatch h),fun e h=>(nomatch h)⟩
 have o2:OkL ⟨[],[bobE],[]⟩:=⟨by simp,by simp,by simp,List.Pairwise.nil,List.pairwise_singleton _ _,fun e h=>(nomatch h),fun e h=>by
  rcases List.mem_singleton.1 h with rfl; decide +kernel⟩
 have g1:=xg1011 m _ _ o1 okB
 rw [del1] at g1
 have g2:=xg1011 m _ _ o2 okA
 rw [del2] at g2
 have g3:=xg1015 ⟨[],[bobE],[]⟩ List.Pairwise.nil (by simp) (by simp) (fun p hp=>by rcases List.mem_singleton.1 hp with rfl; decide +kernel)
 rw [mis1] at g3
 have hb:bobE.row=[.v (.string ⟨#[98,111,98]⟩),.v (.int .i64 1),.v (.int .i64 2),.v (.int .i64 0),.sl [[.v (.string ⟨#[97,110,110]⟩),.v (.int .i64 1)]],.v (.int .i64 6),.v (.string ⟨#[]⟩),.v (.int .i64 0),.v (.string ⟨#[]⟩),.v (.int .i64 0),.v (.bool false),.v (.string ⟨#[]⟩),.v (.string ⟨#[]⟩),.v (.string ⟨#[]⟩),.v (.string ⟨#[]⟩),.v (.string ⟨#[]⟩),.v (.int .i64 0),.v (.string ⟨#[]⟩)]:=rfl
 have ha:annE.row=[.v (.string ⟨#[97,110,110]⟩),.v (.int .i64 1),.v (.int .i64 1),.v (.int .i64 0),.sl [],.v (.int .i64 6),.v (.string ⟨#[]⟩),.v (.int .i64 0),.v (.string ⟨#[]⟩),.v (.int .i64 0),.v (.bool false),.v (.string ⟨#[]⟩),.v (.string ⟨#[]⟩),.v (.string ⟨#[]⟩),.v (.string ⟨#[]⟩),.v (.string ⟨#[]⟩),.v (.int .i64 0),.v (.string ⟨#[]⟩)]:=rfl
 have i1:(⟨sAnn,1⟩:Id).row=[.v (.string ⟨#[97,110,110]⟩),.v (.int .i64 1)]:=rfl
 have i2:(⟨sBob,1⟩:Id).row=[.v (.string ⟨#[98,111,98]⟩),.v (.int .i64 1)]:=rfl
 simp only [logD,List.map_cons,List.map_nil,hb,ha,i1,i2] at g1 g2 g3
 refine acallsX (X:=[(11,x1011 m),(15,x1015)]) ⟨kx1011 m,kx1015.gm,trivial⟩ tab hmix Tryz.func10 c1010 (by rfl) fun hw=>?_
 simp (implicitDefEqProofs:=false) (disch:=omega) [gz,ir1010,b1010,b1010_0,b1010_1,b1010_2,b1010_3,b1010_4,b1010_5,b1010_6,b1010_7,s1,g1,s2,g3,g2,fillC,splice,fillR,toPVs,frzVs,osVs,toPV,wrap64,cellsEq,skEq,nth_0,nth_1]
 repeat' (with_reducible apply And.intro)
 all_goals first | omega | kernel_rfl | skip
 exact fin_nil ⟨rfl,rfl⟩
noncomputable def x1010:XE:=mkX true (fun (_:Unit)=>[]) (fun _=>True) (fun _=>.bool true)
theorem kx1010 (m:Int):Contract Tryz.prog (GM m) 10 x1010:=mkX_scal (fun _=>rfl) fun _ _=>k1010 m
theorem xg1010:x1010.g []=some (True,.bool true):=mkX_g (fun a b h=>rfl) () trivial
theorem trim_self:∀ {l:List UInt8},(∀ h:l≠[],l.getLast h≠0)→Nv.trimZ l=l
 | [],_=>rfl
 | [b],h=>by
  have:=h (by simp)
  simp at this
  simp [Nv.trimZ,this]
 | b :: c :: r,h=>by
  have ih:=trim_self (l:=c :: r) fun h'=>by have:=h (by simp); rwa [List.getLast_cons h'] at this
  have hne:Nv.trimZ (c :: r)≠[]:=by rw [ih]; simp
  rw [Nv.trimZ,if_neg (fun q=>hne q.1),ih]
theorem take_digs {l:List UInt8} {n:Nat} (hn:n≤l.length) (hv:Nv.valB (l.take n)=Nv.valB l) (hz:n=0∨l.getD (n-1) 0≠0):l.take n=Nv.digs (Nv.valB l):=by
 rw [← hv,Nv.digs_valB]
 symm
 refine trim_self fun h=>?_
 rcases hz with rfl | hz
 ·simp at h
 ·have hn0:0<n:=by
   rcases Nat.eq_zero_or_pos n with q | q
   ·subst q; simp at h
   ·exact q
  rw [List.getLast_eq_getElem,List.getElem_take]
  have e:(List.take n l).length-1=n-1:=by rw [List.length_take]; omega
  rw [List.getD_eq_getElem?_getD,List.getElem?_eq_getElem (by omega)] at hz
  have hz:l[n-1]'(by omega)≠0:=by simpa using hz
  simpa only [e] using hz
theorem ext_take (s:ByteArray) (n:Nat) (h:n≤s.size):s.extract 0 n=⟨((bl8 s).take n).toArray⟩:=by
 apply ByteArray.ext
 rw [ByteArray.data_extract]
 apply Array.toList_inj.1
 simp [bl8]
theorem k1149 (s:ByteArray) (h:s.size<4611686018427387904):ACalls Tryz.prog G0 149 [Sx s] [] fun t H=>t = .str (nB (nV s))∧H=[]:=by
 refine acallsX (X:=[]) trivial tab hmix Tryz.func149 c1149 (by rfl) fun hw=>?_
 simp (implicitDefEqProofs:=false) (disch:=omega) [gz,ir1149,b1149,wrap64]
 refine loopE (fun k st=>k≤s.size∧Nv.valB ((bl8 s).take k)=Nv.valB (bl8 s)∧st=⟨ofL [(0,.v (.c (.d (.v (.string s))))),(3,.int .i64 k)],[]⟩)
  (fun st=>∃ n,n≤s.size∧Nv.valB ((bl8 s).take n)=Nv.valB (bl8 s)∧(n=0∨(bl8 s).getD (n-1) 0≠0)∧AtS [(0,.v (.c (.d (.v (.string s))))),(3,.int .i64 n)] [] st) ?_ ?_ ?_
 ·refine wk_keep [0,3] ⟨s.size,Nat.le_refl _,by rw [List.take_of_length_le (by rw [bl8_len]; omega)],?_⟩
  simp
 ·rintro J L hJ hL k st ⟨hk,hv,rfl⟩
  by_cases hk0:k=0
  ·subst hk0
   simp (implicitDefEqProofs:=false) (disch:=omega) [gz,wrap64]
   subst hL
   exact ⟨0,by omega,hv,.inl rfl,at_mk (by simp) rfl⟩
  ·obtain ⟨q,rfl⟩:∃ q,k=q+1:=⟨k-1,by omega⟩
   have hq:q<s.size:=by omega
   have h1:(0:Int)<((q+1:Nat):Int):=by omega
   have h1':(0:Int)<(q:Int)+1:=by omega
   have h2:((q+1:Nat):Int)-1=(q:Int):=by omega
   have h2':(q:Int)+1-1=(q:Int):=by omega
   have hg:(s.data[q]?.getD 0)=(bl8 s)[q]'(by rw [bl8_len]; exact hq):=by rw [bl8_at]; exact bl8_get hq
   obtain ⟨y,hy⟩:∃ y,y=(s.data[q]?.getD 0).toNat:=⟨_,rfl⟩
   by_cases hz:y=0
   ·subst hz
    simp (implicitDefEqProofs:=false) (disch:=omega) [gz,wrap64,h1,h1',h2,h2',hq,← hy]
    subst hJ
    refine wk_keep [0,3] ⟨q,by omega,by omega,?_,?_⟩
    ·have:=Nv.valB_take (l:=bl8 s) (i:=q) (by rw [bl8_len]; exact hq)
     rw [hv,← hg,← hy] at this
     omega
    ·simp
   ·have hz':¬ (y:Int)=0:=by omega
    simp (implicitDefEqProofs:=false) (disch:=omega) [gz,wrap64,h1,h1',h2,h2',hq,← hy,hz,hz']
    subst hL
    refine ⟨q+1,by omega,hv,.inr fun e=>hz ?_,at_mk (by simp) rfl⟩
    rw [Nat.add_sub_cancel,← bl8_at] at e
    rw [hy,e]; rfl
 ·rintro _ ⟨n,hn,hv,hz,sl,rfl⟩
  have e:s.extract 0 n=nB (nV s):=by
   rw [ext_take s n hn,take_digs (by rw [bl8_len]; exact hn) hv hz]; rfl
  simp (implicitDefEqProofs:=false) (disch:=omega) [gz,wrap64,e,hn]
  exact fin_nil ⟨rfl,rfl⟩
noncomputable def x1149:XE:=mkX true (fun (s:ByteArray)=>[.c (.v (.string s))]) (fun s=>s.size<4611686018427387904) (fun s=>.str (nB (nV s)))
theorem kx1149:Contract Tryz.prog G0 149 x1149:=mkX_scal (fun _=>rfl) fun s h=>k1149 s h
theorem xg1149 (s:ByteArray) (h:s.size<4611686018427387904):x1149.g [.c (.v (.string s))]=some (True,.str (nB (nV s))):=mkX_g (fun a b h=>by simp at h; exact h) s h
def bt (s:ByteArray) (i:Nat):Nat:=(s.data[i]?.getD 0).toNat
theorem bt_lt (s:ByteArray) (i:Nat):bt s i<256:=UInt8.toNat_lt _
theorem k1169 (s:ByteArray) (i:Nat) (h:s.size<4611686018427387904):ACalls Tryz.prog G0 169 [Sx s,I i] [] fun t H=>t = .int .i64 (bt s i)∧H=[]:=by
 refine acallsX (X:=[]) trivial tab hmix Tryz.func169 c1169 (by rfl) fun hw=>?_
 obtain ⟨y,hy⟩:∃ y,y=(s.data[i]?.getD 0).toNat:=⟨_,rfl⟩
 have hy2:bt s i=y:=hy.symm
 have hyl:y<256:=by rw [← hy2]; exact bt_lt s i
 rw [hy2]
 by_cases c:i<s.size
 ·have c':(i:Int)<(s.size:Int):=by omega
  simp (implicitDefEqProofs:=false) (disch:=omega) [gz,ir1169,b1169,wrap64,c,c',← hy]
  exact fin_nil ⟨rfl,rfl⟩
 ·have c':¬ (i:Int)<(s.size:Int):=by omega
  have:y=0:=by rw [hy,Array.getElem?_eq_none (by exact Nat.le_of_not_lt c)]; rfl
  subst this
  simp (implicitDefEqProofs:=false) (disch:=omega) [gz,ir1169,b1169,wrap64,c,c']
  exact fin_nil ⟨rfl,rfl⟩
noncomputable def x1169:XE:=mkX true (fun (p:ByteArray×Nat)=>[.c (.v (.string p.1)),.c (.v (.int .i64 (p.2:Int)))]) (fun p=>p.1.size<4611686018427387904) (fun p=>.int .i64 (bt p.1 p.2))
theorem kx1169:Contract Tryz.prog G0 169 x1169:=mkX_scal (fun _=>rfl) fun p h=>k1169 p.1 p.2 h
theorem xg1169 (s:ByteArray) (i:Nat) (h:s.size<4611686018427387904):x1169.g [.c (.v (.string s)),.c (.v (.int .i64 (i:Int)))]=some (True,.int .i64 (bt s i)):=mkX_g (fun a b h=>by
 simp only [List.cons.injEq,PVo.c.injEq,D.v.injEq,Value.string.injEq,Value.int.injEq,true_and,and_true] at h
 exact Prod.ext h.1 (by omega)) (s,i) h
theorem k1150 (a b:ByteArray) (ha:a.size<4611686018427387904) (hb:b.size<4611686018427387904):ACalls Tryz.prog G0 150 [Sx a,Sx b] [] fun t H=>t = .int .i64 (cmpN (nV a) (nV b))∧H=[]:=by
 have s1:x1149.sc=true:=rfl
 have g1:=xg1149 a ha
 have g2:=xg1149 b hb
 have hsb:=nB_le (s:=a)
 have htb:=nB_le (s:=b)
 obtain ⟨m,hm⟩:∃ m,m=nV a:=⟨_,rfl⟩
 obtain ⟨n,hn⟩:∃ n,n=nV b:=⟨_,rfl⟩
 rw [← hm] at g1 hsb ⊢
 rw [← hn] at g2 htb ⊢
 have hls:(nB m).size=(Nv.digs m).length:=rfl
 have hlt:(nB n).size=(Nv.digs n).length:=rfl
 have hvs:Nv.valB (bl8 (nB m))=m:=Nv.valB_digs m
 have hvt:Nv.valB (bl8 (nB n))=n:=Nv.valB_digs n
 obtain ⟨s,hs⟩:∃ s,s=nB m:=⟨_,rfl⟩
 obtain ⟨t,ht⟩:∃ t,t=nB n:=⟨_,rfl⟩
 rw [← hs] at g1 hsb hls hvs
 rw [← ht] at g2 htb hlt hvt
 refine acallsX (X:=[(149,x1149)]) ⟨kx1149,trivial⟩ tab hmix Tryz.func150 c1150 (by rfl) fun hw=>?_
 by_cases hlen:s.size=t.size
 ·have hbase:=hlen
  simp (implicitDefEqProofs:=false) (disch:=omega) [gz,ir1150,b1150,wrap64,s1,g1,g2,hlen]
  refine loopE (fun k st=>∃ i,i≤t.size∧k=t.size-i∧(bl8 s).drop (t.size-i)=(bl8 t).drop (t.size-i) ∧
    st=⟨ofL [(5,.v (.c (.d (.v (.string s))))),(6,.v (.c (.d (.v (.string t))))),(7,.int .i64 ((t.size:Int)-1-(i:Int)))],[]⟩)
   (fun st=>m=n∧AtS [] [] st) ?_ ?_ ?_
  ·refine wk_keep [5,6,7] ⟨_,0,by omega,rfl,?_,?_⟩
   ·rw [Nat.sub_zero,List.drop_eq_nil_of_le (by rw [bl8_len]; omega),List.drop_eq_nil_of_le (by rw [bl8_len]; omega)]
   ·simp [hbase]
  ·rintro J L hJ hL k st ⟨i,hi,rfl,hd,rfl⟩
   by_cases hlti:i<t.size
   ·obtain ⟨q,hq⟩:∃ q,q=t.size-(i+1):=⟨_,rfl⟩
    have hqs:q<s.size:=by omega
    have hqt:q<t.size:=by omega
    have hqi:((t.size:Int)-1-(i:Int))=(q:Int):=by omega
    have hq1:t.size-i=q+1:=by omega
    have hq0:(0:Int)≤(q:Int):=by omega
    have hqn:((t.size:Int)-1-((i+1:Nat):Int))=(q:Int)-1:=by omega
    rw [hq1] at hd
    obtain ⟨x,hx⟩:∃ x,x=(s.data[q]?.getD 0).toNat:=⟨_,rfl⟩
    obtain ⟨y,hy⟩:∃ y,y=(t.data[q]?.getD 0).toNat:=⟨_,rfl⟩
    have ex:x=((bl8 s)[q]'hqs).toNat:=by rw [hx,bl8_at,bl8_get hqs]
    have ey:y=((bl8 t)[q]'hqt).toNat:=by rw [hy,bl8_at,bl8_get hqt]
    by_cases c1:x=y
    ·subst c1
     simp (implicitDefEqProofs:=false) (disch:=omega) [gz,wrap64,hqi,hq0,hqs,hqt,hlen,← hx,← hy]
     repeat' (with_reducible apply And.intro)
     all_goals first | kernel_rfl | skip
     subst hJ
     refine wk_keep [5,6,7] ⟨t.size-(i+1),by omega,i+1,by omega,rfl,?_,?_⟩
     ·rw [← hq,List.drop_eq_getElem_cons (l:=bl8 s) hqs,List.drop_eq_getElem_cons (l:=bl8 t) hqt,hd]
      congr 1
      exact UInt8.toNat_inj.1 (by rw [← ex,← ey])
     ·rw [hqn]; simp
    ·have c1':¬ (x:Int)=(y:Int):=by omega
     by_cases c2:x<y
     ·have c2':(x:Int)<(y:Int):=by omega
      have c3:True:=trivial
      have hmn:m<n:=by
       rw [← hvs,← hvt]
       exact top_lt (l:=bl8 s) (m:=bl8 t) hqs hqt hd (by rw [← ex,← ey]; exact c2)
      rw [show cmpN m n = -1 from by unfold cmpN; rw [if_pos hmn]]
      simp (implicitDefEqProofs:=false) (disch:=omega) [gz,wrap64,hqi,hq0,hqs,hqt,hlen,← hx,← hy,c1',c2',c3]
      repeat' (with_reducible apply And.intro)
      all_goals first | kernel_rfl | skip
      exact fin_nil ⟨rfl,rfl⟩
     ·have c2':¬ (x:Int)<(y:Int):=by omega
      have c3:(y:Int)<(x:Int):=by omega
      have hmn:n<m:=by
       rw [← hvs,← hvt]
       exact top_lt (l:=bl8 t) (m:=bl8 s) hqt hqs hd.symm (by rw [← ex,← ey]; omega)
      rw [show cmpN m n=1 from by unfold cmpN; rw [if_neg (by omega),if_pos hmn]]
      simp (implicitDefEqProofs:=false) (disch:=omega) [gz,wrap64,hqi,hq0,hqs,hqt,hlen,← hx,← hy,c1',c2',c3]
      repeat' (with_reducible apply And.intro)
      all_goals first | kernel_rfl | skip
      exact fin_nil ⟨rfl,rfl⟩
   ·have:i=t.size:=by omega
    subst this
    have hneg:¬ (0:Int)≤(t.size:Int)-1-(t.size:Int):=by omega
    have hneg2:¬ (t.size:Int)≤(t.size:Int)-1:=by omega
    simp (implicitDefEqProofs:=false) (disch:=omega) [gz,hneg,hneg2]
    subst hL
    refine ⟨?_,at_mk (by simp) rfl⟩
    rw [Nat.sub_self,List.drop_zero,List.drop_zero] at hd
    rw [← hvs,← hvt,hd]
  ·rintro _ ⟨hmn,sl,rfl⟩
   rw [show cmpN m n=0 from by unfold cmpN; rw [if_neg (by omega),if_neg (by omega)]]
   simp (implicitDefEqProofs:=false) (disch:=omega) [gz,wrap64]
   exact fin_nil ⟨rfl,rfl⟩
 ·have hlen':¬ (s.size:Int)=t.size:=by omega
  by_cases c1:s.size<t.size
  ·have hmn:m<n:=digs_short (by omega)
   rw [show cmpN m n = -1 from by unfold cmpN; rw [if_pos hmn]]
   simp (implicitDefEqProofs:=false) (disch:=omega) [gz,ir1150,b1150,wrap64,s1,g1,g2,hlen,hlen',c1]
   exact fin_nil ⟨rfl,rfl⟩
  ·have c1':t.size<s.size:=by omega
   have hmn:n<m:=digs_short (by omega)
   rw [show cmpN m n=1 from by unfold cmpN; rw [if_neg (by omega),if_pos hmn]]
   simp (implicitDefEqProofs:=false) (disch:=omega) [gz,ir1150,b1150,wrap64,s1,g1,g2,hlen,hlen',c1,c1']
   exact fin_nil ⟨rfl,rfl⟩
noncomputable def x1150:XE:=mkX true (fun (p:ByteArray×ByteArray)=>[.c (.v (.string p.1)),.c (.v (.string p.2))]) (fun p=>p.1.size<4611686018427387904∧p.2.size<4611686018427387904) (fun p=>.int .i64 (cmpN (nV p.1) (nV p.2)))
theorem kx1150:Contract Tryz.prog G0 150 x1150:=mkX_scal (fun _=>rfl) fun p h=>k1150 p.1 p.2 h.1 h.2
theorem xg1150 (a b:ByteArray) (ha:a.size<4611686018427387904) (hb:b.size<4611686018427387904):x1150.g [.c (.v (.string a)),.c (.v (.string b))]=some (True,.int .i64 (cmpN (nV a) (nV b))):=mkX_g inj2s (a,b) ⟨ha,hb⟩
def valD:List Nat→Nat
 | []=>0
 | x :: l=>x+256*valD l
theorem valD_set:∀ (l:List Nat) {j m:Nat},j<l.length→valD (l.set j m)+256^j*nth l j=valD l+256^j*m
 | x :: l,0,m,_=>by simp [valD,nth]; omega
 | x :: l,j+1,m,h=>by
  have ih:=valD_set l (j:=j) (m:=m) (by simpa using h)
  have e:nth (x :: l) (j+1)=nth l j:=rfl
  rw [e,List.set_cons_succ,valD,valD,Nat.pow_succ,Nat.mul_comm (256^j) 256,Nat.mul_assoc,Nat.mul_assoc]
  omega
theorem valD_bytes:∀ {l:List Nat},(∀ x∈l,x<256)→Nv.valB (l.map UInt8.ofNat)=valD l
 | [],_=>rfl
 | x :: l,h=>by
  rw [List.map_cons,Nv.valB,valD,valD_bytes fun y hy=>h y (List.mem_cons_of_mem _ hy),Nv.toNat_of (h x List.mem_cons_self)]
theorem valD_zero (n:Nat):valD (List.replicate n 0)=0:=by
 induction n with
 | zero=>rfl
 | succ n ih=>rw [List.replicate_succ,valD,ih]
def pv (s:ByteArray) (i:Nat):Nat:=Nv.valB ((bl8 s).take i)
theorem pv_all {s:ByteArray} {i:Nat} (h:s.size≤i):pv s i=nV s:=by
 unfold pv
 rw [List.take_of_length_le (by rw [bl8_len]; exact h)]; rfl
theorem pv_zero (s:ByteArray):pv s 0=0:=rfl
theorem pv_succ (s:ByteArray) (i:Nat):pv s (i+1)=pv s i+256^i*bt s i:=by
 by_cases h:i<s.size
 ·have:=Nv.valB_take (l:=bl8 s) (i:=i) (by rw [bl8_len]; exact h)
  have e:bt s i=((bl8 s)[i]'(by rw [bl8_len]; exact h)).toNat:=by unfold bt; rw [bl8_at]; exact congrArg UInt8.toNat (bl8_get h)
  unfold pv
  rw [this,e]
 ·rw [pv_all (by omega),pv_all (by omega)]
  have:bt s i=0:=by
   unfold bt
   rw [Array.getElem?_eq_none (by exact Nat.le_of_not_lt h)]; rfl
  rw [this]; omega
theorem pv_top {a b:ByteArray} (h:nV b≤nV a):pv b a.size=nV b:=by
 have ha:nV a<256^a.size:=Nv.valB_lt _
 have e:nV b=pv b a.size+256^((bl8 b).take a.size).length*Nv.valB ((bl8 b).drop a.size):=by
  show Nv.valB (bl8 b)=_
  conv=>lhs; rw [← List.take_append_drop a.size (bl8 b),Nv.valB_app]
  rfl
 rw [List.length_take,bl8_len] at e
 by_cases hs:a.size≤b.size
 ·rw [Nat.min_eq_left hs] at e
  obtain ⟨z,hz⟩:∃ z,z=Nv.valB ((bl8 b).drop a.size):=⟨_,rfl⟩
  rw [← hz] at e
  rcases Nat.eq_zero_or_pos z with q | q
  ·subst q; omega
  ·have:256^a.size*1≤256^a.size*z:=Nat.mul_le_mul_left _ q
   omega
 ·exact pv_all (by omega)
theorem sub8_step {P A Bv S b x y b' s:Nat} (h:A+P*b=S+Bv) (e:x+256*b'=s+y+b):(A+P*x)+P*(256*b')=(S+P*s)+(Bv+P*y):=by
 have h1:P*(x+256*b')=P*(s+y+b):=by rw [e]
 simp only [Nat.mul_add] at h1; omega
theorem valB_snoc (l:List UInt8) (b:UInt8):Nv.valB (l ++ [b])=Nv.valB l+256^l.length*b.toNat:=by
 rw [Nv.valB_app]
 simp [Nv.valB]
def rI (x:Nat):List D:=[.v (.int .i64 (x:Int))]
theorem k1152 (a b:ByteArray) (ha:a.size<1099511627776) (hb:b.size<1099511627776) (hle:nV b≤nV a):ACalls Tryz.prog G0 152 [Sx a,Sx b] [] fun t H=>t = .tup [Sx (nB (nV a-nV b)),.c (.d (.v (.bool true)))]∧H=[]:=by
 have s1:x1150.sc=true:=rfl
 have s2:x1169.sc=true:=rfl
 have s3:x1149.sc=true:=rfl
 have g1:=xg1150 a b (by omega) (by omega)
 have hc:¬ cmpN (nV a) (nV b)<0:=by unfold cmpN; rw [if_neg (by omega)]; split <;> omega
 obtain ⟨R,hR⟩:∃ R,R=nB (nV a-nV b):=⟨_,rfl⟩
 rw [← hR]
 refine acallsX (X:=[(150,x1150),(169,x1169),(149,x1149)]) ⟨kx1150,kx1169,kx1149,trivial⟩ tab hmix Tryz.func152 c1152 (by rfl) fun hw=>?_
 simp (implicitDefEqProofs:=false) (disch:=omega) [gz,ir1152,b1152,wrap64,s1,g1,hc,fillR]
 refine loopE (fun k st=>∃ (i lent:Nat) (out:List UInt8),i≤a.size∧k=a.size-i∧out.length=i∧lent≤1∧pv a i+256^i*lent=Nv.valB out+pv b i ∧
   st=⟨ofL [(0,.v (.c (.d (.v (.string a))))),(1,.v (.c (.d (.v (.string b))))),(6,.v (.c (.os 0 1 0 out.length))),(7,.int .i64 lent),(8,.int .i64 i)],[.row 1 (out.map u8R)]⟩)
  (fun st=>∃ (lent:Nat) (out:List UInt8),out.length=a.size∧lent≤1∧pv a a.size+256^a.size*lent=Nv.valB out+pv b a.size∧AtS [(6,.v (.c (.os 0 1 0 out.length)))] [.row 1 (out.map u8R)] st) ?_ ?_ ?_
 ·refine wk_nil [0] [0,1,6,7,8] rfl ⟨_,0,0,[],by omega,rfl,rfl,by omega,by simp [pv_zero,Nv.valB],?_⟩
  simp [phi,O.ren,C.ren]
 ·rintro J L hJ hL k st ⟨i,lent,out,hi,rfl,hol,hlent,hval,rfl⟩
  by_cases hlt:i<a.size
  ·have hlt':(i:Int)<(a.size:Int):=by omega
   have ga:=xg1169 a i (by omega)
   have gb:=xg1169 b i (by omega)
   have pa:=pv_succ a i
   have pb:=pv_succ b i
   have la:=bt_lt a i
   have lb:=bt_lt b i
   obtain ⟨x,hx⟩:∃ x,x=bt a i:=⟨_,rfl⟩
   obtain ⟨y,hy⟩:∃ y,y=bt b i:=⟨_,rfl⟩
   rw [← hx] at ga pa la
   rw [← hy] at gb pb lb
   have tC:(out.map u8R).take out.length=out.map u8R:=List.take_of_length_le (by simp)
   have fin:∀ (s l':Nat),s<256→l'≤1→x+256*l'=s+y+lent→pv a (i+1)+256^(i+1)*l'=Nv.valB (out ++ [UInt8.ofNat s])+pv b (i+1):=fun s l' hs hl' e=>by
    have:=sub8_step hval e
    rw [valB_snoc,hol,Nv.toNat_of hs,pa,pb,Nat.pow_succ,Nat.mul_assoc]
    exact this
   by_cases c:x<y+lent
   ·have c1:(x:Int)-(y:Int)-(lent:Int)<0:=by omega
    obtain ⟨s,hs⟩:∃ s,s=x+256-y-lent:=⟨_,rfl⟩
    have hsl:s<256:=by omega
    have hse:(x:Int)-(y:Int)-(lent:Int)+256=(s:Int):=by omega
    have hws:IntKind.u8.wrap (s:Int)=((UInt8.ofNat s).toNat:Int):=by rw [u8n,Nv.toNat_of hsl,Nat.mod_eq_of_lt hsl]
    simp (implicitDefEqProofs:=false) (disch:=omega) [gz,hlt,hlt',wrap64,s2,ga,gb,c1,hse,hws,elems,tC,maxLen47,fillR]
    repeat' (with_reducible apply And.intro)
    all_goals first | omega | kernel_rfl | skip
    subst hJ
    refine wk_nil [2] [0,1,6,7,8] rfl ⟨a.size-(i+1),by omega,i+1,1,out ++ [UInt8.ofNat s],by omega,rfl,by simp [hol],by omega,fin s 1 hsl (by omega) (by omega),?_⟩
    simp [phi,O.ren,u8R]
   ·have c1:¬ (x:Int)-(y:Int)-(lent:Int)<0:=by omega
    obtain ⟨s,hs⟩:∃ s,s=x-y-lent:=⟨_,rfl⟩
    have hsl:s<256:=by omega
    have hse:(x:Int)-(y:Int)-(lent:Int)=(s:Int):=by omega
    have hns:¬ (s:Int)<0:=by omega
    have hws:IntKind.u8.wrap (s:Int)=((UInt8.ofNat s).toNat:Int):=by rw [u8n,Nv.toNat_of hsl,Nat.mod_eq_of_lt hsl]
    simp (implicitDefEqProofs:=false) (disch:=omega) [gz,hlt,hlt',wrap64,s2,ga,gb,c1,hse,hns,hws,elems,tC,maxLen47,fillR]
    repeat' (with_reducible apply And.intro)
    all_goals first | omega | kernel_rfl | skip
    subst hJ
    refine wk_nil [2] [0,1,6,7,8] rfl ⟨a.size-(i+1),by omega,i+1,0,out ++ [UInt8.ofNat s],by omega,rfl,by simp [hol],by omega,fin s 0 hsl (by omega) (by omega),?_⟩
    simp [phi,O.ren,u8R]
  ·have hlt':¬ (i:Int)<(a.size:Int):=by omega
   have:i=a.size:=by omega
   subst this
   simp (implicitDefEqProofs:=false) (disch:=omega) [gz,hlt,hlt']
   subst hL
   exact ⟨lent,out,hol,hlent,hval,at_mk (by simp) rfl⟩
 ·rintro _ ⟨lent,out,hol,hlent,hval,sl,rfl⟩
  rw [pv_all (Nat.le_refl _),pv_top hle] at hval
  have hlo:=Nv.valB_lt out
  rw [hol] at hlo
  have hl0:lent=0:=by
   rcases Nat.eq_zero_or_pos lent with q | q
   ·exact q
   ·have:lent=1:=by omega
    subst this
    omega
  subst hl0
  have tC:(out.map u8R).take out.length=out.map u8R:=List.take_of_length_le (by simp)
  have g3:=xg1149 ⟨out.toArray⟩ (by show out.toArray.size<_; simp; omega)
  have hv:nV ⟨out.toArray⟩=nV a-nV b:=by
   show Nv.valB out.toArray.toList=_
   rw [List.toList_toArray]; omega
  rw [hv,← hR] at g3
  simp (implicitDefEqProofs:=false) (disch:=omega) [gz,wrap64,elems,tC,bytR_u8,s3,g3]
  exact fin_nil ⟨rfl,rfl⟩
noncomputable def x1152:XE:=mkX true (fun (p:ByteArray×ByteArray)=>[.c (.v (.string p.1)),.c (.v (.string p.2))]) (fun p=>p.1.size<1099511627776∧p.2.size<1099511627776∧nV p.2≤nV p.1) (fun p=>.tup [Sx (nB (nV p.1-nV p.2)),.c (.d (.v (.bool true)))])
theorem kx1152:Contract Tryz.prog G0 152 x1152:=mkX_scal (fun _=>rfl) fun p h=>k1152 p.1 p.2 h.1 h.2.1 h.2.2
theorem xg1152 (a b:ByteArray) (ha:a.size<1099511627776) (hb:b.size<1099511627776) (hle:nV b≤nV a):x1152.g [.c (.v (.string a)),.c (.v (.string b))]=some (True,.tup [Sx (nB (nV a-nV b)),.c (.d (.v (.bool true)))]):=mkX_g inj2s (a,b) ⟨ha,hb,hle⟩
theorem rI_map_set (S:List Nat) (j m:Nat):(S.map rI).set j [.v (.int .i64 (m:Int))]=(S.set j m).map rI:=by rw [List.map_set]; rfl
theorem mul8_step {V V' P T aP bk sj p o n o' m:Nat} (hset:V'+P*sj=V+P*m) (h:V+P*o=T+aP) (hn:n=sj+p+o) (hd:n=m+256*o'):V'+P*(256*o')=T+(aP+P*p):=by
 have h1:P*n=P*(sj+p+o):=by rw [hn]
 have h2:P*n=P*(m+256*o'):=by rw [hd]
 simp only [Nat.mul_add] at h1 h2
 omega
theorem k1168 (a b:ByteArray) (ha:a.size<1099511627776) (hb:b.size<1099511627776):ACalls Tryz.prog G0 168 [Sx a,Sx b] [] fun t H=>t = .str (nB (nV a*nV b))∧H=[]:=by
 have s2:x1169.sc=true:=rfl
 have s3:x1149.sc=true:=rfl
 obtain ⟨R,hR⟩:∃ R,R=nB (nV a*nV b):=⟨_,rfl⟩
 rw [← hR]
 refine acallsX (X:=[(169,x1169),(149,x1149)]) ⟨kx1169,kx1149,trivial⟩ tab hmix Tryz.func168 c1168 (by rfl) fun hw=>?_
 obtain ⟨N,hN⟩:∃ N,N=a.size+b.size+1:=⟨_,rfl⟩
 have hNi:(a.size:Int)+(b.size:Int)+1=(N:Int):=by omega
 simp (implicitDefEqProofs:=false) (disch:=omega) [gz,ir1168,b1168,b1168_0,b1168_1,b1168_2,wrap64,hNi,maxLen47]
 repeat' (with_reducible apply And.intro)
 all_goals first | omega | kernel_rfl | skip
 refine loopE (fun k st=>∃ (i:Nat) (S:List Nat),i≤a.size∧k=a.size-i∧S.length=N∧(∀ x∈S,x<256)∧(∀ j,i+b.size≤j→j<N→nth S j=0)∧valD S=pv a i*nV b ∧
   st=⟨ofL [(0,.v (.c (.d (.v (.string a))))),(1,.v (.c (.d (.v (.string b))))),(5,.v (.c (.os 0 1 0 N))),(6,.int .i64 i)],[.row 1 (S.map rI)]⟩)
  (fun st=>∃ S:List Nat,S.length=N∧(∀ x∈S,x<256)∧valD S=nV a*nV b∧AtS [(5,.v (.c (.os 0 1 0 N)))] [.row 1 (S.map rI)] st) ?_ ?_ ?_
 ·refine wk_nil [0] [0,1,5,6] rfl ⟨_,0,List.replicate N 0,by omega,rfl,by simp,fun x hx=>by rw [List.eq_of_mem_replicate hx]; omega,fun j _ hj=>by simp [nth,hj],by rw [valD_zero,pv_zero]; omega,?_⟩
  simp [phi,O.ren,C.ren,rI]
 ·rintro J L hJ hL k st ⟨i,S,hi,rfl,hSl,hS,htail,hval,rfl⟩
  by_cases hlt:i<a.size
  ·have hlt':(i:Int)<(a.size:Int):=by omega
   have ga:=xg1169 a i (by omega)
   have pa:=pv_succ a i
   have la:=bt_lt a i
   obtain ⟨x,hx⟩:∃ x,x=bt a i:=⟨_,rfl⟩
   rw [← hx] at ga pa la
   simp (implicitDefEqProofs:=false) (disch:=omega) [gz,hlt,hlt',wrap64]
   refine loopE (fun k st=>∃ (j o:Nat) (S:List Nat),j≤b.size+1∧k=b.size+1-j∧S.length=N∧(∀ x∈S,x<256)∧o<256∧((j≤b.size∧∀ q,i+b.size≤q→q<N→nth S q=0)∨(j=b.size+1∧o=0∧∀ q,i+1+b.size≤q→q<N→nth S q=0)) ∧
     valD S+256^(i+j)*o=pv a i*nV b+256^i*(x*pv b j) ∧
     st=⟨ofL [(0,.v (.c (.d (.v (.string a))))),(1,.v (.c (.d (.v (.string b))))),(5,.v (.c (.os 0 1 0 N))),(6,.int .i64 i),(7,.int .i64 o),(8,.int .i64 j)],[.row 1 (S.map rI)]⟩)
    (fun st=>∃ S:List Nat,S.length=N∧(∀ x∈S,x<256)∧(∀ q,i+1+b.size≤q→q<N→nth S q=0)∧valD S=pv a (i+1)*nV b ∧
     AtS [(0,.v (.c (.d (.v (.string a))))),(1,.v (.c (.d (.v (.string b))))),(5,.v (.c (.os 0 1 0 N))),(6,.int .i64 i)] [.row 1 (S.map rI)] st) ?_ ?_ ?_
   ·refine wk_nil [0] [0,1,5,6,7,8] rfl ⟨_,0,0,S,by omega,rfl,hSl,hS,by omega,.inl ⟨by omega,htail⟩,by rw [pv_zero,hval]; omega,?_⟩
    simp [phi,O.ren,C.ren]
   ·rintro J2 L2 hJ2 hL2 k2 st2 ⟨j,o,S,hj,rfl,hSl,hS,ho,htail,hval,rfl⟩
    by_cases hgo:j<b.size∨0<o
    ·have hjb:j≤b.size:=by
      rcases htail with ⟨q,_⟩ | ⟨q,q2,_⟩ <;> omega
     have hjN:i+j<N:=by omega
     obtain ⟨r,hr⟩:∃ r,r=i+j:=⟨_,rfl⟩
     rw [← hr] at hjN hval
     have hjNi:(i:Int)+(j:Int)=(r:Int):=by omega
     have hjS:r<S.length:=by omega
     have hjNI:(r:Int)<(N:Int):=by omega
     have gb:=xg1169 b j (by omega)
     have pb:=pv_succ b j
     have lb:=bt_lt b j
     obtain ⟨y,hy⟩:∃ y,y=bt b j:=⟨_,rfl⟩
     rw [← hy] at gb pb lb
     obtain ⟨sj,hsj⟩:∃ s,s=nth S r:=⟨_,rfl⟩
     have hsl:sj<256:=by rw [hsj]; exact hS _ (nth_mem hjS)
     obtain ⟨p,hp⟩:∃ p,p=x*y:=⟨_,rfl⟩
     have hpl:p≤65025:=by
      have:=Nat.mul_le_mul (show x≤255 by omega) (show y≤255 by omega)
      omega
     have hpi:(x:Int)*(y:Int)=(p:Int):=by rw [hp]; simp
     obtain ⟨n,hn⟩:∃ n,n=sj+p+o:=⟨_,rfl⟩
     have hni:(sj:Int)+(p:Int)+(o:Int)=(n:Int):=by omega
     have hnr:(n:Int).tmod 256=((n % 256:Nat):Int):=(Int.ofNat_tmod n 256).symm
     have hnq:(n:Int).tdiv 256=((n / 256:Nat):Int):=(Int.ofNat_tdiv n 256).symm
     have tS:(S.map rI).take N=S.map rI:=List.take_of_length_le (by simp [hSl])
     have hml:n % 256<256:=Nat.mod_lt _ (by decide)
     have hql:n / 256<256:=by omega
     have hstep:=mul8_step (V:=valD S) (V':=valD (S.set r (n % 256))) (P:=256^r) (T:=pv a i*nV b) (aP:=256^i*(x*pv b j)) (bk:=0) (sj:=sj) (p:=p) (o:=o) (n:=n) (o':=n / 256) (m:=n % 256)
      (by rw [hsj]; exact valD_set S hjS) hval hn (by omega)
     have hsum:256^i*(x*pv b (j+1))=256^i*(x*pv b j)+256^r*p:=by
      rw [pb,hp,hr,Nat.pow_add,Nat.mul_add,Nat.mul_add,Nat.mul_assoc]
      congr 2
      rw [← Nat.mul_assoc,← Nat.mul_assoc,Nat.mul_comm x (256^j)]
     have hpow:256^r*256=256^(i+(j+1)):=by rw [hr,← Nat.add_assoc,Nat.pow_succ]
     rw [← hsum,← Nat.mul_assoc,hpow] at hstep
     obtain ⟨m,hm⟩:∃ m,m=n % 256:=⟨_,rfl⟩
     obtain ⟨q,hq⟩:∃ q,q=n / 256:=⟨_,rfl⟩
     rw [← hm] at hnr hml hstep
     rw [← hq] at hnq hql hstep
     have hset:=rI_map_set S r m
     have hnext:∀ z∈S.set r m,z<256:=fun z hz=>by
      rcases List.mem_or_eq_of_mem_set hz with hz | rfl
      ·exact hS z hz
      ·exact hml
     have htl:(j+1≤b.size∧∀ t,i+b.size≤t→t<N→nth (S.set r m) t=0)∨(j+1=b.size+1∧q=0∧∀ t,i+1+b.size≤t→t<N→nth (S.set r m) t=0):=by
      rcases htail with ⟨_,ht⟩ | ⟨hj1,ho1,ht⟩
      ·by_cases hjl:j<b.size
       ·exact .inl ⟨by omega,fun t h1 h2=>by rw [nth_set_ne (by omega)]; exact ht t h1 h2⟩
       ·refine .inr ⟨by omega,?_,fun t h1 h2=>by rw [nth_set_ne (by omega)]; exact ht t (by omega) h2⟩
        have hy0:y=0:=by
         rw [hy]; unfold bt
         rw [Array.getElem?_eq_none (by exact Nat.le_of_not_lt hjl)]; rfl
        have hs0:sj=0:=by rw [hsj]; exact ht _ (by omega) (by omega)
        have hp0:p=0:=by rw [hp,hy0]; omega
        omega
      ·omega
     by_cases hjl:j<b.size
     ·have hjl':(j:Int)<(b.size:Int):=by omega
      simp (maxSteps:=1000000) (implicitDefEqProofs:=false) (disch:=omega) [gz,hlt',hjl,hjl',wrap64,hjNi,hjN,hjNI,hSl,tS,nth_map,← hsj,s2,ga,gb,hpi,hni,hnr,hnq,rI,fillC,splice]
      refine ⟨by kernel_rfl,?_⟩
      subst hJ2
      refine wk_nil [0] [0,1,5,6,7,8] rfl ⟨b.size+1-(j+1),by omega,j+1,q,S.set r m,by omega,rfl,by simp [hSl],hnext,hql,htl,hstep,?_⟩
      rw [← hset]
      simp [phi,O.ren,C.ren]
     ·have hjl':¬ (j:Int)<(b.size:Int):=by omega
      have ho0:0<o:=by omega
      have ho0':(0:Int)<(o:Int):=by omega
      simp (maxSteps:=1000000) (implicitDefEqProofs:=false) (disch:=omega) [gz,hlt',hjl,hjl',ho0,ho0',wrap64,hjNi,hjN,hjNI,hSl,tS,nth_map,← hsj,s2,ga,gb,hpi,hni,hnr,hnq,rI,fillC,splice]
      refine ⟨by kernel_rfl,?_⟩
      subst hJ2
      refine wk_nil [0] [0,1,5,6,7,8] rfl ⟨b.size+1-(j+1),by omega,j+1,q,S.set r m,by omega,rfl,by simp [hSl],hnext,hql,htl,hstep,?_⟩
      rw [← hset]
      simp [phi,O.ren,C.ren]
    ·have hjl:¬ j<b.size:=by omega
     have hjl':¬ (j:Int)<(b.size:Int):=by omega
     have ho0:o=0:=by omega
     subst ho0
     simp (implicitDefEqProofs:=false) (disch:=omega) [gz,hlt',hjl,hjl',wrap64]
     subst hL2
     refine ⟨S,hSl,hS,fun t h1 h2=>?_,?_,at_mk (by simp) rfl⟩
     ·rcases htail with ⟨_,ht⟩ | ⟨_,_,ht⟩
      ·exact ht t (by omega) h2
      ·exact ht t h1 h2
     ·have e:=pv_all (s:=b) (i:=j) (by omega)
      rw [Nat.mul_zero,Nat.add_zero,e] at hval
      rw [hval,pa,Nat.add_mul,Nat.mul_assoc]
   ·rintro _ ⟨S,hSl,hS,htail,hval,sl,rfl⟩
    simp (implicitDefEqProofs:=false) (disch:=omega) [gz,wrap64]
    subst hJ
    refine wk_nil [0] [0,1,5,6] rfl ⟨a.size-(i+1),by omega,i+1,S,by omega,rfl,hSl,hS,htail,hval,?_⟩
    simp [phi,O.ren,C.ren]
  ·have hlt':¬ (i:Int)<(a.size:Int):=by omega
   have:i=a.size:=by omega
   subst this
   simp (implicitDefEqProofs:=false) (disch:=omega) [gz,hlt,hlt']
   subst hL
   exact ⟨S,hSl,hS,by rw [hval,pv_all (Nat.le_refl _)],at_mk (by simp) rfl⟩
 ·rintro _ ⟨S,hSl,hS,hval,sl,rfl⟩
  simp (implicitDefEqProofs:=false) (disch:=omega) [gz,b1168_3,b1168_4,wrap64,fillR]
  obtain ⟨B,hB⟩:∃ B,B=S.map UInt8.ofNat:=⟨_,rfl⟩
  have hBl:B.length=N:=by rw [hB,List.length_map,hSl]
  have hBv:Nv.valB B=nV a*nV b:=by rw [hB,valD_bytes hS,hval]
  have tS:(S.map rI).take N=S.map rI:=List.take_of_length_le (by simp [hSl])
  refine loopE (fun k st=>∃ i,i≤N∧k=N-i ∧
    st=⟨ofL [(10,.v (.c (.os 1 1 0 i))),(62,.v (.c (.os 0 1 0 N))),(63,.int .i64 N),(64,.int .i64 i)],[.row 1 (S.map rI),.row 1 ((B.take i).map u8R)]⟩)
   (fun st=>AtS [(10,.v (.c (.os 1 1 0 N)))] [.row 1 (S.map rI),.row 1 (B.map u8R)] st) ?_ ?_ ?_
  ·refine wk_nil [0,1] [10,62,63,64] rfl ⟨_,0,by omega,rfl,?_⟩
   simp [phi,O.ren,C.ren]
  ·rintro J L hJ hL k st ⟨i,hi,rfl,rfl⟩
   by_cases hlt:i<N
   ·have hlt':(i:Int)<(N:Int):=by omega
    have hiS:i<S.length:=by omega
    obtain ⟨x,hx⟩:∃ x,x=nth S i:=⟨_,rfl⟩
    have hxl:x<256:=by rw [hx]; exact hS _ (nth_mem hiS)
    have hws:IntKind.u8.wrap (x:Int)=((UInt8.ofNat x).toNat:Int):=by rw [u8n,Nv.toNat_of hxl,Nat.mod_eq_of_lt hxl]
    have hnext:B.take (i+1)=B.take i ++ [UInt8.ofNat x]:=by
     rw [take_nth (by omega),hB,nth_map _ hiS,hx]
    have hBi:(B.take i).length=i:=by rw [List.length_take]; omega
    have tC:((B.take i).map u8R).take i=(B.take i).map u8R:=List.take_of_length_le (by rw [List.length_map,hBi]; exact Nat.le_refl _)
    obtain ⟨C,hC⟩:∃ C,C=B.take i:=⟨_,rfl⟩
    rw [← hC] at hnext hBi tC ⊢
    simp (maxSteps:=1000000) (implicitDefEqProofs:=false) (disch:=omega) [gz,hlt,hlt',wrap64,hSl,hBi,tS,nth_map,← hx,hws,elems,tC,maxLen47,fillR,rI]
    repeat' (with_reducible apply And.intro)
    all_goals first | omega | kernel_rfl | skip
    subst hJ
    refine wk_nil [0,3] [10,62,63,64] rfl ⟨N-(i+1),by omega,i+1,by omega,rfl,?_⟩
    rw [hnext]
    simp [phi,O.ren,u8R]
   ·have hlt':¬ (i:Int)<(N:Int):=by omega
    have:i=N:=by omega
    subst this
    simp (implicitDefEqProofs:=false) (disch:=omega) [gz,hlt,hlt']
    subst hL
    have e:List.take i (B.map u8R)=B.map u8R:=List.take_of_length_le (by rw [List.length_map]; omega)
    rw [e]
    exact at_mk (by simp) rfl
  ·rintro _ ⟨sl,rfl⟩
   have tC:(B.map u8R).take N=B.map u8R:=List.take_of_length_le (by simp [hBl])
   have g3:=xg1149 ⟨B.toArray⟩ (by show B.toArray.size<_; simp; omega)
   have hv:nV ⟨B.toArray⟩=nV a*nV b:=by
    show Nv.valB B.toArray.toList=_
    rw [List.toList_toArray,hBv]
   rw [hv,← hR] at g3
   simp (implicitDefEqProofs:=false) (disch:=omega) [gz,b1168_5,b1168_6,wrap64,hBl,elems,tC,bytR_u8,s3,g3]
   exact fin_nil ⟨rfl,rfl⟩
noncomputable def x1168:XE:=mkX true (fun (p:ByteArray×ByteArray)=>[.c (.v (.string p.1)),.c (.v (.string p.2))]) (fun p=>p.1.size<1099511627776∧p.2.size<1099511627776) (fun p=>.str (nB (nV p.1*nV p.2)))
theorem kx1168:Contract Tryz.prog G0 168 x1168:=mkX_scal (fun _=>rfl) fun p h=>k1168 p.1 p.2 h.1 h.2
theorem xg1168 (a b:ByteArray) (ha:a.size<1099511627776) (hb:b.size<1099511627776):x1168.g [.c (.v (.string a)),.c (.v (.string b))]=some (True,.str (nB (nV a*nV b))):=mkX_g inj2s (a,b) ⟨ha,hb⟩
theorem k1151 (a:ByteArray) (n:Nat) (ha:a.size<1099511627776) (hn:n<256):ACalls Tryz.prog G0 151 [Sx a,I n] [] fun t H=>t = .str (nB (nV a*n))∧H=[]:=by
 have s1:x1168.sc=true:=rfl
 have g1:=xg1168 a ⟨#[UInt8.ofNat n]⟩ ha (by show 1<_; decide)
 have hv:nV ⟨#[UInt8.ofNat n]⟩=n:=by
  show (UInt8.ofNat n).toNat+256*0=n
  rw [Nv.toNat_of hn]; omega
 rw [hv] at g1
 have hws:IntKind.u8.wrap (n:Int)=((UInt8.ofNat n).toNat:Int):=by rw [u8n,Nv.toNat_of hn,Nat.mod_eq_of_lt hn]
 have hb:=bytR_u8 [UInt8.ofNat n]
 obtain ⟨c,hc⟩:∃ c,c=UInt8.ofNat n:=⟨_,rfl⟩
 rw [← hc] at g1 hws hb
 simp only [List.map_cons,List.map_nil,u8R] at hb
 refine acallsX (X:=[(168,x1168)]) ⟨kx1168,trivial⟩ tab hmix Tryz.func151 c1151 (by rfl) fun hw=>?_
 simp (implicitDefEqProofs:=false) (disch:=omega) [gz,ir1151,b1151,wrap64,hws,elems,hb,s1,g1,fillR]
 exact fin_nil ⟨rfl,rfl⟩
noncomputable def x1151:XE:=mkX true (fun (p:ByteArray×Nat)=>[.c (.v (.string p.1)),.c (.v (.int .i64 (p.2:Int)))]) (fun p=>p.1.size<1099511627776∧p.2<256) (fun p=>.str (nB (nV p.1*p.2)))
theorem kx1151:Contract Tryz.prog G0 151 x1151:=mkX_scal (fun _=>rfl) fun p h=>k1151 p.1 p.2 h.1 h.2
theorem xg1151 (a:ByteArray) (n:Nat) (ha:a.size<1099511627776) (hn:n<256):x1151.g [.c (.v (.string a)),.c (.v (.int .i64 (n:Int)))]=some (True,.str (nB (nV a*n))):=mkX_g (fun a b h=>by
 simp only [List.cons.injEq,PVo.c.injEq,D.v.injEq,Value.string.injEq,Value.int.injEq,true_and,and_true] at h
 exact Prod.ext h.1 (by omega)) (a,n) ⟨ha,hn⟩
theorem bl8_app (s t:ByteArray):bl8 (s ++ t)=bl8 s ++ bl8 t:=by
 unfold bl8
 rw [ByteArray.data_append,Array.toList_append]
theorem natV_app (s t:ByteArray):nV (s ++ t)=nV s+256^s.size*nV t:=by
 show Nv.valB (bl8 (s ++ t))=_
 rw [bl8_app,Nv.valB_app]; rfl
theorem bl8_one {a:ByteArray} {i:Nat} (h:i<a.size):bl8 (a.extract i (i+1))=[a.data[i]?.getD 0]:=by
 unfold bl8
 rw [ByteArray.data_extract,Array.toList_extract]
 have hl:i<a.data.toList.length:=h
 rw [List.extract_eq_take_drop,show i+1-i=1 by omega,List.drop_eq_getElem_cons hl]
 have hz:a.data[i]?.getD 0=a.data.toList[i]:=by
  rw [Array.getElem?_eq_getElem (by exact h)]; rfl
 rw [hz]; rfl
theorem one_val {a:ByteArray} {i:Nat} (h:i<a.size) (t:ByteArray):nV (a.extract i (i+1) ++ t)=bt a i+256*nV t:=by
 rw [natV_app]
 have hs:(a.extract i (i+1)).size=1:=by show (bl8 (a.extract i (i+1))).length=1; rw [bl8_one h]; rfl
 have hv:nV (a.extract i (i+1))=bt a i:=by
  show Nv.valB (bl8 (a.extract i (i+1)))=_
  rw [bl8_one h]
  show (a.data[i]?.getD 0).toNat+256*0=_
  rfl
 rw [hs,hv,Nat.pow_one]
theorem one_size {a:ByteArray} {i:Nat} (h:i<a.size) (t:ByteArray):(a.extract i (i+1) ++ t).size=1+t.size:=by
 show (bl8 (a.extract i (i+1) ++ t)).length=_
 rw [bl8_app,bl8_one h]; simp [bl8_len]; omega
theorem nB_lt {x:Nat} {s:ByteArray} (h:x<nV s):(nB x).size≤s.size:=Nv.digs_len_le (Nat.lt_trans h (Nv.valB_lt _))
theorem nB_mul {m:Nat} {s:ByteArray} (h:m<256):(nB (nV s*m)).size≤s.size+1:=by
 refine Nv.digs_len_le ?_
 rw [Nat.pow_succ]
 have h1:nV s<256^s.size:=Nv.valB_lt _
 exact Nat.lt_of_le_of_lt (Nat.mul_le_mul_left _ (Nat.le_of_lt h)) (Nat.mul_lt_mul_of_pos_right h1 (by decide))
theorem valB_drop {l:List UInt8} {i:Nat} (h:i<l.length):Nv.valB (l.drop i)=l[i].toNat+256*Nv.valB (l.drop (i+1)):=by
 rw [List.drop_eq_getElem_cons h]; rfl
theorem u8R_set (Q:List UInt8) (i m:Nat) (hm:m<256):(Q.map u8R).set i [.v (.int .u8 (m:Int))]=(Q.set i (UInt8.ofNat m)).map u8R:=by
 rw [List.map_set]
 congr 1
 simp [u8R,Nat.mod_eq_of_lt hm]
theorem k1131 (a b:ByteArray) (ha:a.size<549755813888) (hb:b.size<549755813888) (hD:0<nV b):ACalls Tryz.prog G0 131 [Sx a,Sx b] [] fun t H=>t = .tup [Sx (nB (nV a / nV b)),Sx (nB (nV a % nV b)),.c (.d (.v (.bool true)))]∧H=[]:=by
 have s1:x1149.sc=true:=rfl
 have s2:x1150.sc=true:=rfl
 have s3:x1151.sc=true:=rfl
 have s4:x1152.sc=true:=rfl
 have g0:=xg1149 b (by omega)
 obtain ⟨D,hDd⟩:∃ D,D=nV b:=⟨_,rfl⟩
 have hne:¬ nB D=⟨#[]⟩:=fun q=>by
  have:Nv.natV (nB D)=D:=Nv.natV_natB D
  rw [q] at this
  have h0:Nv.natV ⟨#[]⟩=0:=rfl
  omega
 obtain ⟨bb,hbb⟩:∃ x,x=nB D:=⟨_,rfl⟩
 rw [← hDd,← hbb] at g0
 rw [← hbb] at hne
 obtain ⟨R1,hR1⟩:∃ R,R=nB (nV a / nV b):=⟨_,rfl⟩
 obtain ⟨R2,hR2⟩:∃ R,R=nB (nV a % nV b):=⟨_,rfl⟩
 rw [← hR1,← hR2]
 refine acallsX (X:=[(149,x1149),(150,x1150),(151,x1151),(152,x1152)]) ⟨kx1149,kx1150,kx1151,kx1152,trivial⟩ tab hmix Tryz.func131 c1131 (by rfl) fun hw=>?_
 simp (implicitDefEqProofs:=false) (disch:=omega) [gz,ir1131,b1131,b1131_0,b1131_1,b1131_2,b1131_3,b1131_4,wrap64,s1,g0,hne,binSF,maxLen47]
 repeat' (with_reducible apply And.intro)
 all_goals first | omega | kernel_rfl | skip
 refine loopE (fun k st=>∃ (t r:Nat) (Q:List UInt8),t≤a.size∧k=a.size-t∧Q.length=a.size∧r<D∧Nv.valB ((bl8 a).drop (a.size-t))=Nv.valB (Q.drop (a.size-t))*D+r ∧
   st=⟨ofL [(0,.v (.c (.d (.v (.string a))))),(1,.v (.c (.d (.v (.string b))))),(7,.v (.c (.os 0 1 0 a.size))),(8,.v (.c (.d (.v (.string (nB r)))))),(9,.int .i64 ((a.size:Int)-1-(t:Int)))],[.row 1 (Q.map u8R)]⟩)
  (fun st=>∃ (r:Nat) (Q:List UInt8),Q.length=a.size∧r<D∧nV a=Nv.valB Q*D+r∧AtS [(7,.v (.c (.os 0 1 0 a.size))),(8,.v (.c (.d (.v (.string (nB r))))))] [.row 1 (Q.map u8R)] st) ?_ ?_ ?_
 ·refine wk_nil [0] [0,1,7,8,9] rfl ⟨_,0,0,List.replicate a.size 0,by omega,rfl,by simp,by omega,?_,?_⟩
  ·rw [Nat.sub_zero,List.drop_eq_nil_of_le (by rw [bl8_len]; omega),List.drop_eq_nil_of_le (by simp)]
   simp [Nv.valB]
  ·have h0:nB 0=⟨#[]⟩:=Nv.natB_0
   simp [phi,O.ren,C.ren,u8R,h0]
 ·rintro J L hJ hL k st ⟨t,r,Q,ht,rfl,hQl,hrD,hval,rfl⟩
  by_cases hlt:t<a.size
  ·obtain ⟨i,hi⟩:∃ i,i=a.size-(t+1):=⟨_,rfl⟩
   have hia:i<a.size:=by omega
   have hii:(a.size:Int)-1-(t:Int)=(i:Int):=by omega
   have hi0:(0:Int)≤(i:Int):=by omega
   have hi1:(i:Int)≤(i:Int)+1:=by omega
   have hi2:(i:Int)+1≤(a.size:Int):=by omega
   have htn:((i:Int)+1).toNat=i+1:=by omega
   have hin:(a.size:Int)-1-((t+1:Nat):Int)=(i:Int)-1:=by omega
   rw [show a.size-t=i+1 from by omega] at hval
   have hrs:=nB_lt (x:=r) (s:=b) (by omega)
   have g1:=xg1149 (a.extract i (i+1) ++ nB r) (by rw [one_size hia]; omega)
   rw [one_val hia,show nV (nB r)=r from Nv.natV_natB r] at g1
   have hbl:=bt_lt a i
   obtain ⟨W,hW⟩:∃ W,W=bt a i+256*r:=⟨_,rfl⟩
   rw [← hW] at g1
   have hWD:W<256*D:=by omega
   have hWq:W / D<256:=by rw [Nat.div_lt_iff_lt_mul (by omega)]; exact hWD
   have hWs:(nB W).size≤b.size+1:=by
    refine Nv.digs_len_le ?_
    rw [Nat.pow_succ]
    have h1:nV b<256^b.size:=Nv.valB_lt _
    omega
   have hWv:nV (nB W)=W:=Nv.natV_natB W
   simp (implicitDefEqProofs:=false) (disch:=omega) [gz,wrap64,hii,hi0,hi1,hi2,htn,binSF,s1,g1]
   have hlow:0≤W / D:=Nat.zero_le _
   repeat' (with_reducible apply And.intro)
   all_goals first | omega | kernel_rfl | skip
   refine loopE (fun k st=>∃ lo hi:Nat,lo≤hi∧hi≤255∧lo≤W / D∧W / D≤hi∧k=hi-lo ∧
     st=⟨ofL [(0,.v (.c (.d (.v (.string a))))),(1,.v (.c (.d (.v (.string b))))),(7,.v (.c (.os 0 1 0 a.size))),(8,.v (.c (.d (.v (.string (nB W)))))),(9,.int .i64 i),(10,.int .i64 lo),(11,.int .i64 hi)],[.row 1 (Q.map u8R)]⟩)
    (fun st=>AtS [(0,.v (.c (.d (.v (.string a))))),(1,.v (.c (.d (.v (.string b))))),(7,.v (.c (.os 0 1 0 a.size))),(8,.v (.c (.d (.v (.string (nB W)))))),(9,.int .i64 i),(10,.int .i64 ((W / D:Nat):Int))] [.row 1 (Q.map u8R)] st) ?_ ?_ ?_
   ·refine wk_nil [0] [0,1,7,8,9,10,11] rfl ⟨_,0,255,by omega,by omega,hlow,by omega,rfl,?_⟩
    simp [phi,O.ren,C.ren]
   ·rintro J2 L2 hJ2 hL2 k2 st2 ⟨lo,hi,hlh,hh,h1,h2,rfl,rfl⟩
    by_cases hlt2:lo<hi
    ·have hlt2':(lo:Int)<(hi:Int):=by omega
     obtain ⟨sm,hsm⟩:∃ s,s=lo+hi+1:=⟨_,rfl⟩
     obtain ⟨mid,hmid⟩:∃ m,m=sm / 2:=⟨_,rfl⟩
     have hsi:(lo:Int)+(hi:Int)+1=(sm:Int):=by omega
     have hmi:(sm:Int).tdiv 2=(mid:Int):=by rw [hmid]; exact (Int.ofNat_tdiv sm 2).symm
     have hm256:mid<256:=by omega
     have g3:=xg1151 b mid (by omega) hm256
     have hms:=nB_mul (s:=b) hm256
     have g2:=xg1150 (nB (nV b*mid)) (nB W) (by omega) (by omega)
     rw [hWv,show nV (nB (nV b*mid))=nV b*mid from Nv.natV_natB _,← hDd] at g2
     rw [← hDd] at g3
     obtain ⟨z,hz⟩:∃ z,z=nB (D*mid):=⟨_,rfl⟩
     rw [← hz] at g2 g3
     by_cases hc:D*mid≤W
     ·have hle:mid≤W / D:=(Nat.le_div_iff_mul_le (by omega)).2 (by rw [Nat.mul_comm]; exact hc)
      have hcm:cmpN (D*mid) W≤0:=by unfold cmpN; split <;> (try split) <;> omega
      simp (implicitDefEqProofs:=false) (disch:=omega) [gz,hlt2,hlt2',wrap64,hsi,hmi,s3,g3,s2,g2,hcm]
      subst hJ2
      refine wk_nil [0] [0,1,7,8,9,10,11] rfl ⟨hi-mid,by omega,mid,hi,by omega,hh,hle,h2,rfl,?_⟩
      simp [phi,O.ren,C.ren]
     ·have hle:W / D<mid:=(Nat.div_lt_iff_lt_mul (by omega)).2 (by rw [Nat.mul_comm]; omega)
      have hcm:¬ cmpN (D*mid) W≤0:=by unfold cmpN; rw [if_neg (by omega),if_pos (by omega)]; omega
      have hcm2:0<cmpN (D*mid) W:=by omega
      have hm1:(mid:Int)-1=((mid-1:Nat):Int):=by omega
      simp (implicitDefEqProofs:=false) (disch:=omega) [gz,hlt2,hlt2',wrap64,hsi,hmi,s3,g3,s2,g2,hcm,hcm2]
      subst hJ2
      refine wk_nil [0] [0,1,7,8,9,10,11] rfl ⟨mid-1-lo,by omega,lo,mid-1,by omega,by omega,h1,by omega,rfl,?_⟩
      rw [← hm1]
      simp [phi,O.ren,C.ren]
    ·have:lo=hi:=by omega
     subst this
     have hlt2':¬ (lo:Int)<(lo:Int):=by omega
     have hq:W / D=lo:=by omega
     simp (implicitDefEqProofs:=false) (disch:=omega) [gz,hlt2,hlt2']
     subst hL2
     rw [hq]
     exact at_mk (by simp) rfl
   ·rintro _ ⟨sl,rfl⟩
    obtain ⟨q,hq⟩:∃ q,q=W / D:=⟨_,rfl⟩
    rw [← hq] at hWq ⊢
    have g3:=xg1151 b q (by omega) hWq
    have hms:=nB_mul (s:=b) hWq
    have hDq:D*q≤W:=by rw [hq]; exact Nat.mul_div_le W D
    have hmod:W-D*q=W % D:=by
     have:=Nat.div_add_mod W D
     rw [← hq] at this; omega
    have hdq:nV (nB (nV b*q))=nV b*q:=Nv.natV_natB _
    have g4:=xg1152 (nB W) (nB (nV b*q)) (by omega) (by omega) (by rw [hWv,hdq,← hDd]; exact hDq)
    rw [hWv,hdq,← hDd,hmod] at g4
    rw [← hDd] at g3
    obtain ⟨z,hz⟩:∃ z,z=nB (D*q):=⟨_,rfl⟩
    rw [← hz] at g3 g4
    have hws:IntKind.u8.wrap (q:Int)=(q:Int):=by rw [u8n,Nat.mod_eq_of_lt hWq]
    have hset:=u8R_set Q i q hWq
    have hia2:(i:Int)<(a.size:Int):=by omega
    have hiQ:i<Q.length:=by omega
    have tQ:(Q.map u8R).take a.size=Q.map u8R:=List.take_of_length_le (by simp [hQl])
    simp (implicitDefEqProofs:=false) (disch:=omega) [gz,wrap64,s3,g3,s4,g4,hws,hia,hia2,hiQ,hQl,tQ,fillC,splice,u8R]
    subst hJ
    refine wk_nil [0] [0,1,7,8,9] rfl ⟨a.size-(t+1),by omega,t+1,W % D,Q.set i (UInt8.ofNat q),by omega,rfl,by simp [hQl],Nat.mod_lt _ (by omega),?_,?_⟩
    ·rw [← hi,valB_drop (l:=bl8 a) (by rw [bl8_len]; exact hia),hval,valB_drop (l:=Q.set i (UInt8.ofNat q)) (by simp [hQl]; exact hia)]
     have e1:(Q.set i (UInt8.ofNat q))[i]'(by simp [hQl]; exact hia)=UInt8.ofNat q:=by simp
     have e2:(Q.set i (UInt8.ofNat q)).drop (i+1)=Q.drop (i+1):=by rw [List.drop_set_of_lt (by omega)]
     have e3:((bl8 a)[i]'(by rw [bl8_len]; exact hia)).toNat=bt a i:=by unfold bt; rw [bl8_at]; exact (congrArg UInt8.toNat (bl8_get hia)).symm
     rw [e1,e2,e3,Nv.toNat_of hWq,Nat.add_mul,Nat.mul_assoc]
     have:=Nat.div_add_mod W D
     rw [← hq,Nat.mul_comm] at this
     omega
    ·have hnt:(nth (Q.map u8R) i).tail=[]:=by rw [nth_map _ hiQ]; rfl
     rw [hin,← hset]
     simp [phi,O.ren,C.ren,hnt]
  ·have:t=a.size:=by omega
   subst this
   have hneg:¬ (0:Int)≤(a.size:Int)-1-(a.size:Int):=by omega
   have hneg2:¬ (a.size:Int)≤(a.size:Int)-1:=by omega
   rw [Nat.sub_self,List.drop_zero,List.drop_zero] at hval
   simp (implicitDefEqProofs:=false) (disch:=omega) [gz,hneg,hneg2]
   subst hL
   exact ⟨r,Q,hQl,hrD,hval,at_mk (by simp) rfl⟩
 ·rintro _ ⟨r,Q,hQl,hrD,hval,sl,rfl⟩
  have tC:(Q.map u8R).take a.size=Q.map u8R:=List.take_of_length_le (by simp [hQl])
  have g3:=xg1149 ⟨Q.toArray⟩ (by show Q.toArray.size<_; simp; omega)
  have hq:nV a / nV b=Nv.valB Q:=by
   rw [hval,← hDd,Nat.mul_comm,Nat.mul_add_div (by omega),Nat.div_eq_of_lt hrD,Nat.add_zero]
  have hr:nV a % nV b=r:=by
   rw [hval,← hDd,Nat.mul_comm,Nat.mul_add_mod,Nat.mod_eq_of_lt hrD]
  have hv:nV ⟨Q.toArray⟩=nV a / nV b:=by
   show Nv.valB Q.toArray.toList=_
   rw [List.toList_toArray,hq]
  rw [hv,← hR1] at g3
  rw [hr] at hR2
  rw [← hR2]
  simp (implicitDefEqProofs:=false) (disch:=omega) [gz,b1131_5,b1131_6,wrap64,hQl,elems,tC,bytR_u8,s1,g3]
  exact fin_nil ⟨rfl,rfl⟩
noncomputable def x1131:XE:=mkX true (fun (p:ByteArray×ByteArray)=>[.c (.v (.string p.1)),.c (.v (.string p.2))]) (fun p=>p.1.size<549755813888∧p.2.size<549755813888∧0<nV p.2) (fun p=>.tup [Sx (nB (nV p.1 / nV p.2)),Sx (nB (nV p.1 % nV p.2)),.c (.d (.v (.bool true)))])
theorem kx1131:Contract Tryz.prog G0 131 x1131:=mkX_scal (fun _=>rfl) fun p h=>k1131 p.1 p.2 h.1 h.2.1 h.2.2
theorem xg1131 (a b:ByteArray) (ha:a.size<549755813888) (hb:b.size<549755813888) (hD:0<nV b):x1131.g [.c (.v (.string a)),.c (.v (.string b))]=some (True,.tup [Sx (nB (nV a / nV b)),Sx (nB (nV a % nV b)),.c (.d (.v (.bool true)))]):=mkX_g inj2s (a,b) ⟨ha,hb,hD⟩
theorem nB_ne {n:Nat} (h:0<n):¬ nB n=⟨#[]⟩:=fun q=>by
 have:Nv.natV (nB n)=n:=Nv.natV_natB n
 rw [q] at this
 have h0:Nv.natV ⟨#[]⟩=0:=rfl
 omega
theorem k1130 (a b:ByteArray) (ha:a.size<549755813888) (hb:b.size<549755813888):ACalls Tryz.prog G0 130 [Sx a,Sx b] [] fun t H=>t = .str (nB (Nat.gcd (nV a) (nV b)))∧H=[]:=by
 have s1:x1149.sc=true:=rfl
 have s2:x1131.sc=true:=rfl
 have g1:=xg1149 a (by omega)
 have g2:=xg1149 b (by omega)
 have hsa:=nB_le (s:=a)
 have hsb:=nB_le (s:=b)
 obtain ⟨R,hR⟩:∃ R,R=Nat.gcd (nV a) (nV b):=⟨_,rfl⟩
 obtain ⟨A,hA⟩:∃ A,A=nV a:=⟨_,rfl⟩
 obtain ⟨B,hB⟩:∃ B,B=nV b:=⟨_,rfl⟩
 rw [← hR]
 rw [← hA] at g1 hsa hR
 rw [← hB] at g2 hsb hR
 refine acallsX (X:=[(149,x1149),(131,x1131)]) ⟨kx1149,kx1131,trivial⟩ tab hmix Tryz.func130 c1130 (by rfl) fun hw=>?_
 simp (implicitDefEqProofs:=false) (disch:=omega) [gz,ir1130,b1130,s1,g1,g2]
 refine loopE (fun k st=>∃ x:Nat,Nat.gcd x k=R∧(nB x).size<549755813888∧(nB k).size<549755813888 ∧
   st=⟨ofL [(5,.v (.c (.d (.v (.string (nB x)))))),(6,.v (.c (.d (.v (.string (nB k))))))],[]⟩)
  (fun st=>AtS [(5,.v (.c (.d (.v (.string (nB R))))))] [] st) ?_ ?_ ?_
 ·refine wk_keep [5,6] ⟨B,A,hR.symm,by omega,by omega,?_⟩
  simp
 ·rintro J L hJ hL k st ⟨x,hg,hx,hk,rfl⟩
  by_cases hk0:k=0
  ·subst hk0
   have h0:nB 0=⟨#[]⟩:=Nv.natB_0
   rw [Nat.gcd_zero_right] at hg
   subst hg
   simp (implicitDefEqProofs:=false) (disch:=omega) [gz,h0,binSF]
   subst hL
   exact at_mk (by simp) rfl
  ·have hkp:0<k:=by omega
   have hne:=nB_ne hkp
   have hv1:nV (nB x)=x:=Nv.natV_natB x
   have hv2:nV (nB k)=k:=Nv.natV_natB k
   have g3:=xg1131 (nB x) (nB k) hx hk (by omega)
   rw [hv1,hv2] at g3
   have hms:=nB_lt (x:=x % k) (s:=nB k) (by rw [hv2]; exact Nat.mod_lt _ hkp)
   obtain ⟨y,hy⟩:∃ y,y=nB k:=⟨_,rfl⟩
   rw [← hy] at g3 hne ⊢
   simp (implicitDefEqProofs:=false) (disch:=omega) [gz,hne,binSF,s2,g3]
   subst hJ
   refine wk_keep [5,6] ⟨x % k,Nat.mod_lt _ hkp,k,?_,by omega,by omega,?_⟩
   ·rw [← hg,Nat.gcd_comm x k,Nat.gcd_comm k (x % k),← Nat.gcd_rec]
   ·rw [← hy]; simp
 ·rintro _ ⟨sl,rfl⟩
  simp (implicitDefEqProofs:=false) (disch:=omega) [gz,wrap64]
  exact fin_nil ⟨rfl,rfl⟩
noncomputable def x1130:XE:=mkX true (fun (p:ByteArray×ByteArray)=>[.c (.v (.string p.1)),.c (.v (.string p.2))]) (fun p=>p.1.size<549755813888∧p.2.size<549755813888) (fun p=>.str (nB (Nat.gcd (nV p.1) (nV p.2))))
theorem kx1130:Contract Tryz.prog G0 130 x1130:=mkX_scal (fun _=>rfl) fun p h=>k1130 p.1 p.2 h.1 h.2
theorem xg1130 (a b:ByteArray) (ha:a.size<549755813888) (hb:b.size<549755813888):x1130.g [.c (.v (.string a)),.c (.v (.string b))]=some (True,.str (nB (Nat.gcd (nV a) (nV b)))):=mkX_g inj2s (a,b) ⟨ha,hb⟩
theorem nvB (n:Nat):nV (nB n)=n:=Nv.natV_natB n
theorem k1129 (neg:Bool) (mag:ByteArray) (h:mag.size<549755813888):ACalls Tryz.prog G0 129 [.c (.d (.v (.bool neg))),Sx mag] [] fun t H=>t = .v (iV neg (nV mag))∧H=[]:=by
 have s1:x1149.sc=true:=rfl
 have g1:=xg1149 mag (by omega)
 refine acallsX (X:=[(149,x1149)]) ⟨kx1149,trivial⟩ tab hmix Tryz.func129 c1129 (by rfl) fun hw=>?_
 obtain ⟨n,hn⟩:∃ n,n=nV mag:=⟨_,rfl⟩
 rw [← hn] at g1 ⊢
 unfold iV
 cases neg
 ·obtain ⟨m,hm⟩:∃ m,m=nB n:=⟨_,rfl⟩
  rw [← hm] at g1 ⊢
  simp (implicitDefEqProofs:=false) (disch:=omega) [gz,ir1129,b1129,s1,g1,fillC,splice,binSF]
  exact fin_nil ⟨by simp,rfl⟩
 ·by_cases c:n=0
  ·have hE:nB n=⟨#[]⟩:=nB_nil.2 c
   rw [hE] at g1 ⊢
   rw [decide_eq_true c]
   simp (implicitDefEqProofs:=false) (disch:=omega) [gz,ir1129,b1129,s1,g1,fillC,splice,binSF]
   exact fin_nil ⟨rfl,rfl⟩
  ·have hE:¬ nB n=⟨#[]⟩:=fun q=>c (nB_nil.1 q)
   obtain ⟨m,hm⟩:∃ m,m=nB n:=⟨_,rfl⟩
   rw [← hm] at g1 hE ⊢
   rw [decide_eq_false c]
   simp (implicitDefEqProofs:=false) (disch:=omega) [gz,ir1129,b1129,s1,g1,hE,fillC,splice,binSF]
   exact fin_nil ⟨rfl,rfl⟩
noncomputable def x1129:XE:=mkX true (fun (p:Bool×ByteArray)=>[.c (.v (.bool p.1)),.c (.v (.string p.2))]) (fun p=>p.2.size<549755813888) (fun p=>.v (iV p.1 (nV p.2)))
theorem kx1129:Contract Tryz.prog G0 129 x1129:=mkX_scal (fun _=>rfl) fun p h=>k1129 p.1 p.2 h
theorem xg1129 (neg:Bool) (mag:ByteArray) (h:mag.size<549755813888):x1129.g [.c (.v (.bool neg)),.c (.v (.string mag))]=some (True,.v (iV neg (nV mag))):=mkX_g injBS (neg,mag) h
theorem k1114 (neg:Bool) (mag:ByteArray) (h:mag.size<549755813888):ACalls Tryz.prog G0 114 [intV neg mag] [] fun t H=>t = .v (iV neg (nV mag))∧H=[]:=by
 have s1:x1129.sc=true:=rfl
 have g1:=xg1129 neg mag h
 refine acallsX (X:=[(129,x1129)]) ⟨kx1129,trivial⟩ tab hmix Tryz.func114 c1114 (by rfl) fun hw=>?_
 obtain ⟨n,hn⟩:∃ n,n=nV mag:=⟨_,rfl⟩
 rw [← hn] at g1 ⊢
 unfold iV at g1 ⊢
 obtain ⟨b,hb⟩:∃ b,b=(neg && !decide (n=0)):=⟨_,rfl⟩
 rw [← hb] at g1 ⊢
 simp (implicitDefEqProofs:=false) (disch:=omega) [gz,ir1114,b1114,s1,g1,fillC,splice]
 exact fin_nil ⟨rfl,rfl⟩
noncomputable def x1114:XE:=mkX true (fun (p:Bool×ByteArray)=>[intP p.1 p.2]) (fun p=>p.2.size<549755813888) (fun p=>.v (iV p.1 (nV p.2)))
theorem kx1114:Contract Tryz.prog G0 114 x1114:=mkX_scal (fun _=>rfl) fun p h=>k1114 p.1 p.2 h
theorem xg1114 (neg:Bool) (mag:ByteArray) (h:mag.size<549755813888):x1114.g [intP neg mag]=some (True,.v (iV neg (nV mag))):=mkX_g injIA (neg,mag) h
theorem k1132 (neg:Bool) (mag:ByteArray) (h:mag.size<549755813888):ACalls Tryz.prog G0 132 [intV neg mag] [] fun t H=>t = .int .i64 (sgnI neg (nV mag))∧H=[]:=by
 have s1:x1149.sc=true:=rfl
 have g1:=xg1149 mag (by omega)
 refine acallsX (X:=[(149,x1149)]) ⟨kx1149,trivial⟩ tab hmix Tryz.func132 c1132 (by rfl) fun hw=>?_
 obtain ⟨n,hn⟩:∃ n,n=nV mag:=⟨_,rfl⟩
 rw [← hn] at g1 ⊢
 unfold sgnI
 by_cases c:n=0
 ·rw [if_pos c]
  have hE:nB n=⟨#[]⟩:=nB_nil.2 c
  rw [hE] at g1
  simp (implicitDefEqProofs:=false) (disch:=omega) [gz,ir1132,b1132,s1,g1,fillC,splice,binSF]
  exact fin_nil ⟨rfl,rfl⟩
 ·rw [if_neg c]
  have hE:¬ nB n=⟨#[]⟩:=fun q=>c (nB_nil.1 q)
  obtain ⟨m,hm⟩:∃ m,m=nB n:=⟨_,rfl⟩
  rw [← hm] at hE g1
  cases neg
  ·simp (implicitDefEqProofs:=false) (disch:=omega) [gz,ir1132,b1132,s1,g1,hE,fillC,splice,binSF]
   exact fin_nil ⟨rfl,rfl⟩
  ·simp (implicitDefEqProofs:=false) (disch:=omega) [gz,ir1132,b1132,s1,g1,hE,fillC,splice,binSF]
   exact fin_nil ⟨rfl,rfl⟩
noncomputable def x1132:XE:=mkX true (fun (p:Bool×ByteArray)=>[intP p.1 p.2]) (fun p=>p.2.size<549755813888) (fun p=>.int .i64 (sgnI p.1 (nV p.2)))
theorem kx1132:Contract Tryz.prog G0 132 x1132:=mkX_scal (fun _=>rfl) fun p h=>k1132 p.1 p.2 h
theorem xg1132 (neg:Bool) (mag:ByteArray) (h:mag.size<549755813888):x1132.g [intP neg mag]=some (True,.int .i64 (sgnI neg (nV mag))):=mkX_g injIA (neg,mag) h
theorem k1155 (n:Nat) (h:n<18446744073709551616):ACalls Tryz.prog G0 155 [.c (.d (.v (.int .u64 (n:Int))))] [] fun t H=>t = .str (nB n)∧H=[]:=by
 have hlen:(Nv.digs n).length≤8:=Nv.digs_len_le (by omega)
 obtain ⟨Dn,hD⟩:∃ d,d=Nv.digs n:=⟨_,rfl⟩
 rw [← hD] at hlen
 refine acallsX (X:=[]) trivial tab hmix Tryz.func155 c1155 (by rfl) fun hw=>?_
 simp (implicitDefEqProofs:=false) (disch:=omega) [gz,ir1155,b1155,fillR]
 refine loopE (fun k st=>k<18446744073709551616∧∃ out:List UInt8,out ++ Nv.digs k=Dn ∧
   st=⟨ofL [(0,.v (.c (.d (.v (.int .u64 (k:Int)))))),(3,.v (.c (.os 0 1 0 out.length)))],[.row 1 (out.map u8R)]⟩)
  (fun st=>AtS [(3,.v (.c (.os 0 1 0 Dn.length)))] [.row 1 (Dn.map u8R)] st) ?_ ?_ ?_
 ·refine wk_nil [0] [0,3] rfl ⟨n,h,[],by rw [hD]; rfl,?_⟩
  simp [phi,O.ren,C.ren]
 ·rintro J L hJ hL k st ⟨hk,out,ho,rfl⟩
  by_cases hk0:k=0
  ·subst hk0
   rw [Nv.digs_zero,List.append_nil] at ho
   subst ho
   simp (implicitDefEqProofs:=false) (disch:=omega) [gz,wrap64]
   subst hL
   exact at_mk (by simp) rfl
  ·have hkp:(0:Int)<(k:Int):=by omega
   have hkn:0<k:=by omega
   have hrem:(k:Int).tmod 256=((k % 256:Nat):Int):=(Int.ofNat_tmod k 256).symm
   have hquo:(k:Int).tdiv 256=((k / 256:Nat):Int):=(Int.ofNat_tdiv k 256).symm
   have hml:k % 256<256:=Nat.mod_lt _ (by decide)
   have hol:out.length≤8:=by
    have:=congrArg List.length ho
    rw [List.length_append] at this; omega
   have hws:IntKind.u8.wrap ((k % 256:Nat):Int)=((UInt8.ofNat (k % 256)).toNat:Int):=by rw [u8n,Nv.toNat_of hml,Nat.mod_eq_of_lt hml]
   have hw64:IntKind.u64.wrap ((k % 256:Nat):Int)=((k % 256:Nat):Int):=u64w (by omega)
   have hw64b:IntKind.u64.wrap ((k / 256:Nat):Int)=((k / 256:Nat):Int):=u64w (by omega)
   have tC:(out.map u8R).take out.length=out.map u8R:=List.take_of_length_le (by simp)
   obtain ⟨d,hd⟩:∃ d,d=k % 256:=⟨_,rfl⟩
   obtain ⟨q,hq⟩:∃ q,q=k / 256:=⟨_,rfl⟩
   rw [← hd] at hrem hws hw64
   rw [← hq] at hquo hw64b
   obtain ⟨c,hc⟩:∃ c,c=UInt8.ofNat d:=⟨_,rfl⟩
   rw [← hc] at hws
   simp (implicitDefEqProofs:=false) (disch:=omega) [gz,hkp,hkn,hk0,hrem,hquo,hw64,hw64b,hws,elems,tC,maxLen47,fillR]
   repeat' (with_reducible apply And.intro)
   all_goals first | omega | kernel_rfl | skip
   subst hJ
   refine wk_nil [2] [0,3] rfl ⟨q,by omega,by omega,out ++ [c],?_,?_⟩
   ·rw [hc,hd,hq,List.append_assoc,← ho,Nv.digs_pos hk0]; rfl
   ·simp [phi,O.ren,C.ren,u8R]
 ·rintro _ ⟨sl,rfl⟩
  have tC:(Dn.map u8R).take Dn.length=Dn.map u8R:=List.take_of_length_le (by simp)
  simp (implicitDefEqProofs:=false) (disch:=omega) [gz,wrap64,elems,tC,bytR_u8]
  exact fin_nil ⟨by rw [hD]; rfl,rfl⟩
noncomputable def x1155:XE:=mkX true (fun (n:Nat)=>[.c (.v (.int .u64 (n:Int)))]) (fun n=>n<18446744073709551616) (fun n=>.str (nB n))
theorem kx1155:Contract Tryz.prog G0 155 x1155:=mkX_scal (fun _=>rfl) fun n h=>k1155 n h
theorem xg1155 (n:Nat) (h:n<18446744073709551616):x1155.g [.c (.v (.int .u64 (n:Int)))]=some (True,.str (nB n)):=mkX_g (fun a b h=>by simp at h; omega) n h
theorem k1135 (n:Nat) (h:n<9223372036854775808):ACalls Tryz.prog G0 135 [I n] [] fun t H=>t = .v (iV false n)∧H=[]:=by
 have s1:x1155.sc=true:=rfl
 have s2:x1129.sc=true:=rfl
 have g1:=xg1155 n (by omega)
 have hsz:(nB n).size≤8:=Nv.digs_len_le (by omega)
 have g2:=xg1129 false (nB n) (by omega)
 rw [nvB] at g2
 have w1:=u64w (n:=n) (by omega)
 have hn:¬ (n:Int)<0:=by omega
 refine acallsX (X:=[(155,x1155),(129,x1129)]) ⟨kx1155,kx1129,trivial⟩ tab hmix Tryz.func135 c1135 (by rfl) fun hw=>?_
 unfold iV at g2 ⊢
 obtain ⟨b,hb⟩:∃ b,b=(false && !decide (n=0)):=⟨_,rfl⟩
 rw [← hb] at g2 ⊢
 simp (implicitDefEqProofs:=false) (disch:=omega) [gz,ir1135,b1135,s1,s2,g1,g2,w1,hn,fillC,splice]
 exact fin_nil ⟨rfl,rfl⟩
noncomputable def x1135:XE:=mkX true (fun (n:Nat)=>[.c (.v (.int .i64 (n:Int)))]) (fun n=>n<9223372036854775808) (fun n=>.v (iV false n))
theorem kx1135:Contract Tryz.prog G0 135 x1135:=mkX_scal (fun _=>rfl) fun n h=>k1135 n h
theorem xg1135 (n:Nat) (h:n<9223372036854775808):x1135.g [.c (.v (.int .i64 (n:Int)))]=some (True,.v (iV false n)):=mkX_g (fun a b h=>by simp at h; omega) n h
theorem k1117:ACalls Tryz.prog G0 117 [] [] fun t H=>t = .v (intV false ⟨#[1]⟩)∧H=[]:=by
 have s1:x1135.sc=true:=rfl
 have g1:=xg1135 1 (by decide)
 unfold iV at g1
 rw [nB_one] at g1
 refine acallsX (X:=[(135,x1135)]) ⟨kx1135,trivial⟩ tab hmix Tryz.func117 c1117 (by rfl) fun hw=>?_
 have g1':x1135.g [.c (.v (.int .i64 1))]=some (True,.v (intV false ⟨#[1]⟩)):=g1
 simp (implicitDefEqProofs:=false) (disch:=omega) [gz,ir1117,b1117,s1,g1',fillC,splice]
 exact fin_nil ⟨rfl,rfl⟩
noncomputable def x1117:XE:=mkX true (fun (_:Unit)=>[]) (fun _=>True) (fun _=>.v (intV false ⟨#[1]⟩))
theorem kx1117:Contract Tryz.prog G0 117 x1117:=mkX_scal (fun _=>rfl) fun _ _=>k1117
theorem xg1117:x1117.g []=some (True,.v (intV false ⟨#[1]⟩)):=mkX_g (fun a b h=>rfl) () trivial
def iR (p:Bool×ByteArray):List D:=[.v (.bool p.1),.v (.string p.2)]
theorem gcd_le {g b:Nat}:(nB (Nat.gcd g b)).size≤(nB g).size∨(nB (Nat.gcd g b)).size≤(nB b).size:=by
 rcases Nat.eq_zero_or_pos b with q | q
 ·subst q; rw [Nat.gcd_zero_right]; exact .inl (Nat.le_refl _)
 ·exact .inr (nB_mono (Nat.gcd_le_right _ q))
theorem k1115 (p q:Bool×ByteArray) (hp:p.2.size<4000000000) (hq:q.2.size<4000000000):ACalls Tryz.prog G0 115 [.c (.d (.sl [iR p,iR q]))] [] fun t H=>t = .v (iV false (Nat.gcd (nV p.2) (nV q.2)))∧H=[]:=by
 have s1:x1130.sc=true:=rfl
 have s2:x1129.sc=true:=rfl
 have g1:=xg1130 ⟨#[]⟩ p.2 (by show 0<_; decide) (by omega)
 rw [show nV ⟨#[]⟩=0 from rfl,Nat.gcd_zero_left] at g1
 have hps:=nB_le (s:=p.2)
 have hqs:=nB_le (s:=q.2)
 have g2:=xg1130 (nB (nV p.2)) q.2 (by omega) (by omega)
 rw [nvB] at g2
 have hgs:(nB (Nat.gcd (nV p.2) (nV q.2))).size<549755813888:=by
  rcases gcd_le (g:=nV p.2) (b:=nV q.2) with h | h <;> omega
 have g3:=xg1129 false (nB (Nat.gcd (nV p.2) (nV q.2))) hgs
 rw [nvB] at g3
 obtain ⟨G,hG⟩:∃ G,G=Nat.gcd (nV p.2) (nV q.2):=⟨_,rfl⟩
 rw [← hG] at g2 g3 ⊢
 unfold iV at g3 ⊢
 obtain ⟨P,hP⟩:∃ P,P=nB (nV p.2):=⟨_,rfl⟩
 rw [← hP] at g1 g2
 obtain ⟨GB,hGB⟩:∃ G',G'=nB G:=⟨_,rfl⟩
 rw [← hGB] at g2 g3 ⊢
 obtain ⟨b,hb⟩:∃ b,b=(false && !decide (G=0)):=⟨_,rfl⟩
 rw [← hb] at g3 ⊢
 refine acallsX (X:=[(130,x1130),(129,x1129)]) ⟨kx1130,kx1129,trivial⟩ tab hmix Tryz.func115 c1115 (by rfl) fun hw=>?_
 have i1:iR p=[.v (.bool p.1),.v (.string p.2)]:=rfl
 have i2:iR q=[.v (.bool q.1),.v (.string q.2)]:=rfl
 have n0:nth [iR p,iR q] 0=[.v (.bool p.1),.v (.string p.2)]:=rfl
 have n1:nth [iR p,iR q] 1=[.v (.bool q.1),.v (.string q.2)]:=rfl
 simp (implicitDefEqProofs:=false) (disch:=omega) [gz,ir1115,b1115]
 refine loopE (fun k st=>∃ (i:Nat) (g:ByteArray),i≤2∧k=2-i∧((i=0∧g=⟨#[]⟩)∨(i=1∧g=P)∨(i=2∧g=GB)) ∧
   st=⟨ofL [(0,.v (.c (.d (.sl [iR p,iR q])))),(2,.v (.c (.ptr 0 0))),(3,.v (.c (.d (.v (.string g))))),(4,.int .i64 i)],[.cells [.d (.v (.bool false)),.d (.v (.string ⟨#[]⟩))]]⟩)
  (fun st=>AtS [(2,.v (.c (.ptr 0 0))),(3,.v (.c (.d (.v (.string GB)))))] [.cells [.d (.v (.bool false)),.d (.v (.string ⟨#[]⟩))]] st) ?_ ?_ ?_
 ·refine wk_nil [0] [0,2,3,4] rfl ⟨_,0,⟨#[]⟩,by omega,rfl,.inl ⟨rfl,rfl⟩,?_⟩
  simp [phi,O.ren,C.ren]
 ·rintro J L hJ hL k st ⟨i,g,hi,rfl,hc,rfl⟩
  rcases hc with ⟨rfl,rfl⟩ | ⟨rfl,rfl⟩ | ⟨rfl,rfl⟩
  ·simp (implicitDefEqProofs:=false) (disch:=omega) [gz,n0,s1,g1,wrap64,fillC,splice]
   subst hJ
   refine wk_nil [0] [0,2,3,4] rfl ⟨1,by omega,1,P,by omega,rfl,.inr (.inl ⟨rfl,rfl⟩),?_⟩
   simp [phi,O.ren,C.ren]
  ·simp (implicitDefEqProofs:=false) (disch:=omega) [gz,n1,s1,g2,wrap64,fillC,splice]
   subst hJ
   refine wk_nil [0] [0,2,3,4] rfl ⟨2,GB,by omega,rfl,.inr (.inr ⟨rfl,rfl⟩),?_⟩
   simp [phi,O.ren,C.ren]
  ·simp (implicitDefEqProofs:=false) (disch:=omega) [gz,wrap64]
   subst hL
   exact at_mk (by simp) rfl
 ·rintro _ ⟨sl,rfl⟩
  simp (implicitDefEqProofs:=false) (disch:=omega) [gz,s2,g3,fillC,splice]
  exact fin_nil ⟨rfl,rfl⟩
noncomputable def x1115:XE:=mkX true (fun (p:(Bool×ByteArray)×(Bool×ByteArray))=>[.c (.sl [iR p.1,iR p.2])]) (fun p=>p.1.2.size<4000000000∧p.2.2.size<4000000000) (fun p=>.v (iV false (Nat.gcd (nV p.1.2) (nV p.2.2))))
theorem kx1115:Contract Tryz.prog G0 115 x1115:=mkX_scal (fun _=>rfl) fun p h=>k1115 p.1 p.2 h.1 h.2
theorem iR_inj {a b:Bool×ByteArray} (h:iR a=iR b):a=b:=by
 simp [iR] at h; exact Prod.ext h.1 h.2
theorem xg1115 (p q:Bool×ByteArray) (hp:p.2.size<4000000000) (hq:q.2.size<4000000000):x1115.g [.c (.sl [iR p,iR q])]=some (True,.v (iV false (Nat.gcd (nV p.2) (nV q.2)))):=mkX_g (fun a b h=>by
 simp only [List.cons.injEq,PVo.c.injEq,D.sl.injEq,and_true] at h
 exact Prod.ext (iR_inj h.1) (iR_inj h.2)) (p,q) ⟨hp,hq⟩
theorem k1116 (a b:ByteArray) (ha:a.size<4000000000) (hb:b.size<4000000000) (h0:nV b≠0):ACalls Tryz.prog G0 116 [intV false a,intV false b] [] fun t H=>t = .tup [iV false (nV a / nV b),iV false (nV a % nV b),.c (.d (.v (.bool true)))]∧H=[]:=by
 have s1:x1131.sc=true:=rfl
 have s2:x1129.sc=true:=rfl
 have s3:x1132.sc=true:=rfl
 have g1:=xg1131 a b (by omega) (by omega) (by omega)
 have hqs:(nB (nV a / nV b)).size≤a.size:=Nat.le_trans (nB_mono (Nat.div_le_self _ _)) nB_le
 have hrs:=nB_lt (x:=nV a % nV b) (s:=b) (Nat.mod_lt _ (by omega))
 have g2:=xg1129 false (nB (nV a % nV b)) (by omega)
 have g3:=xg1129 false (nB (nV a / nV b)) (by omega)
 rw [nvB] at g2 g3
 obtain ⟨Q,hQ⟩:∃ Q,Q=nV a / nV b:=⟨_,rfl⟩
 obtain ⟨M,hM⟩:∃ M,M=nV a % nV b:=⟨_,rfl⟩
 rw [← hQ,← hM] at g1 ⊢
 rw [← hM] at g2 hrs
 rw [← hQ] at g3 hqs
 have g4:=xg1132 (false && !decide (M=0)) (nB M) (by omega)
 rw [nvB] at g4
 have hsg:¬ sgnI (false && !decide (M=0)) M<0:=by unfold sgnI; split <;> simp
 obtain ⟨z,hz⟩:∃ z,z=sgnI (false && !decide (M=0)) M:=⟨_,rfl⟩
 rw [← hz] at g4 hsg
 unfold iV at g2 g3 ⊢
 obtain ⟨b1,hb1⟩:∃ b,b=(false && !decide (M=0)):=⟨_,rfl⟩
 obtain ⟨b2,hb2⟩:∃ b,b=(false && !decide (Q=0)):=⟨_,rfl⟩
 rw [← hb1] at g2 g4
 rw [← hb2] at g3
 rw [← hb1,← hb2]
 obtain ⟨MB,hMB⟩:∃ x,x=nB M:=⟨_,rfl⟩
 obtain ⟨QB,hQB⟩:∃ x,x=nB Q:=⟨_,rfl⟩
 rw [← hMB,← hQB] at g1 ⊢
 rw [← hMB] at g2 g4
 rw [← hQB] at g3
 refine acallsX (X:=[(131,x1131),(129,x1129),(132,x1132)]) ⟨kx1131,kx1129,kx1132,trivial⟩ tab hmix Tryz.func116 c1116 (by rfl) fun hw=>?_
 simp (implicitDefEqProofs:=false) (disch:=omega) [gz,ir1116,b1116,b1116_0,b1116_1,b1116_2,b1116_3,b1116_4,b1116_5,b1116_6,b1116_7,s1,g1,s2,g2,g3,s3,g4,hsg,fillC,splice]
 repeat' (with_reducible apply And.intro)
 all_goals first | omega | kernel_rfl | skip
 exact fin_nil ⟨rfl,rfl⟩
noncomputable def x1116:XE:=mkX true (fun (p:ByteArray×ByteArray)=>[intP false p.1,intP false p.2]) (fun p=>p.1.size<4000000000∧p.2.size<4000000000∧nV p.2≠0) (fun p=>.tup [iV false (nV p.1 / nV p.2),iV false (nV p.1 % nV p.2),.c (.d (.v (.bool true)))])
theorem kx1116:Contract Tryz.prog G0 116 x1116:=mkX_scal (fun _=>rfl) fun p h=>k1116 p.1 p.2 h.1 h.2.1 h.2.2
theorem xg1116 (a b:ByteArray) (ha:a.size<4000000000) (hb:b.size<4000000000) (h0:nV b≠0):x1116.g [intP false a,intP false b]=some (True,.tup [iV false (nV a / nV b),iV false (nV a % nV b),.c (.d (.v (.bool true)))]):=mkX_g (fun a b h=>by
 simp at h; exact Prod.ext h.1 h.2) (a,b) ⟨ha,hb,h0⟩
theorem k1101 (x:Nv.Rt) (h1:x.num.size<4000000000):ACalls Tryz.prog G0 101 [ratV x] [] fun t H=>t = .v (iV x.neg (nV x.num))∧H=[]:=by
 have s1:x1114.sc=true:=rfl
 have g1:=xg1114 x.neg x.num (by omega)
 obtain ⟨xn,xa,xb⟩:=x
 refine acallsX (X:=[(114,x1114)]) ⟨kx1114,trivial⟩ tab hmix Tryz.func101 c1101 (by rfl) fun hw=>?_
 unfold iV at g1 ⊢
 obtain ⟨b,hb⟩:∃ b,b=(xn && !decide (nV xa=0)):=⟨_,rfl⟩
 obtain ⟨n,hn⟩:∃ n,n=nB (nV xa):=⟨_,rfl⟩
 simp only [← hb,← hn] at g1 ⊢
 simp (implicitDefEqProofs:=false) (disch:=omega) [gz,ir1101,b1101,s1,g1,fillC,splice]
 exact fin_nil ⟨rfl,rfl⟩
noncomputable def x1101:XE:=mkX true (fun (x:Nv.Rt)=>[ratP x]) (fun x=>x.num.size<4000000000) (fun x=>.v (iV x.neg (nV x.num)))
theorem kx1101:Contract Tryz.prog G0 101 x1101:=mkX_scal (fun _=>rfl) fun x h=>k1101 x h
theorem xg1101 (x:Nv.Rt) (h1:x.num.size<4000000000):x1101.g [ratP x]=some (True,.v (iV x.neg (nV x.num))):=mkX_g injRat x h1
theorem k1102 (x:Nv.Rt) (h2:x.den.size<4000000000):ACalls Tryz.prog G0 102 [ratV x] [] fun t H=>t = .v (iV false (Nv.denV x.den))∧H=[]:=by
 have s1:x1114.sc=true:=rfl
 have s2:x1117.sc=true:=rfl
 have g1:=xg1114 false x.den (by omega)
 have g2:=xg1117
 obtain ⟨xn,xa,xb⟩:=x
 refine acallsX (X:=[(114,x1114),(117,x1117)]) ⟨kx1114,kx1117,trivial⟩ tab hmix Tryz.func102 c1102 (by rfl) fun hw=>?_
 unfold Nv.denV
 simp only at g1 ⊢
 obtain ⟨n,hn⟩:∃ n,n=nV xb:=⟨_,rfl⟩
 rw [show Nv.natV xb=n from hn.symm]
 rw [← hn] at g1
 by_cases c:n=0
 ·rw [if_pos c]
  have hE:nB n=⟨#[]⟩:=nB_nil.2 c
  unfold iV at g1 ⊢
  rw [hE] at g1
  rw [nB_one]
  simp (implicitDefEqProofs:=false) (disch:=omega) [gz,ir1102,b1102,s1,g1,s2,g2,fillC,splice,binSF]
  exact fin_nil ⟨rfl,rfl⟩
 ·rw [if_neg c]
  have hE:¬ nB n=⟨#[]⟩:=fun q=>c (nB_nil.1 q)
  unfold iV at g1 ⊢
  obtain ⟨m,hm⟩:∃ m,m=nB n:=⟨_,rfl⟩
  rw [← hm] at g1 hE ⊢
  obtain ⟨b,hb⟩:∃ b,b=(false && !decide (n=0)):=⟨_,rfl⟩
  rw [← hb] at g1 ⊢
  simp (implicitDefEqProofs:=false) (disch:=omega) [gz,ir1102,b1102,s1,g1,hE,fillC,splice,binSF]
  exact fin_nil ⟨rfl,rfl⟩
noncomputable def x1102:XE:=mkX true (fun (x:Nv.Rt)=>[ratP x]) (fun x=>x.den.size<4000000000) (fun x=>.v (iV false (Nv.denV x.den)))
theorem kx1102:Contract Tryz.prog G0 102 x1102:=mkX_scal (fun _=>rfl) fun x h=>k1102 x h
theorem xg1102 (x:Nv.Rt) (h2:x.den.size<4000000000):x1102.g [ratP x]=some (True,.v (iV false (Nv.denV x.den))):=mkX_g injRat x h2
theorem k1100 (n1 n2:Bool) (a b:ByteArray) (h1:a.size<4000000000) (h2:b.size<4000000000):ACalls Tryz.prog G0 100 [intV n1 a,intV n2 b] [] fun t H=>t=makeT n1 n2 (nV a) (nV b)∧H=[]:=by
 have s1:x1114.sc=true:=rfl
 have s2:x1115.sc=true:=rfl
 have s3:x1116.sc=true:=rfl
 have s4:x1117.sc=true:=rfl
 have g1:=xg1114 n1 a (by omega)
 have g2:=xg1114 n2 b (by omega)
 have g7:=xg1117
 have hsa:=nB_le (s:=a)
 have hsb:=nB_le (s:=b)
 refine acallsX (X:=[(114,x1114),(115,x1115),(116,x1116),(117,x1117)]) ⟨kx1114,kx1115,kx1116,kx1117,trivial⟩ tab hmix Tryz.func100 c1100 (by rfl) fun hw=>?_
 obtain ⟨A,hA⟩:∃ A,A=nV a:=⟨_,rfl⟩
 obtain ⟨B,hB⟩:∃ B,B=nV b:=⟨_,rfl⟩
 rw [← hA] at g1 hsa ⊢
 rw [← hB] at g2 hsb ⊢
 unfold makeT
 unfold iV at g1 g2
 obtain ⟨b1,hb1⟩:∃ x,x=(n1 && !decide (A=0)):=⟨_,rfl⟩
 obtain ⟨b2,hb2⟩:∃ x,x=(n2 && !decide (B=0)):=⟨_,rfl⟩
 rw [← hb1] at g1
 rw [← hb2] at g2
 by_cases c0:B=0
 ·rw [if_pos c0]
  have hE:nB B=⟨#[]⟩:=nB_nil.2 c0
  rw [hE] at g2
  obtain ⟨ab,hab⟩:∃ x,x=nB A:=⟨_,rfl⟩
  rw [← hab] at g1
  simp (implicitDefEqProofs:=false) (disch:=omega) [gz,ir1100,b1100,b1100_0,b1100_1,b1100_2,s1,g1,g2,fillC,splice,binSF]
  repeat' (with_reducible apply And.intro)
  all_goals first | omega | kernel_rfl | skip
  exact fin_nil ⟨rfl,rfl⟩
 ·rw [if_neg c0]
  have hE:¬ nB B=⟨#[]⟩:=fun q=>c0 (nB_nil.1 q)
  have g3:=xg1115 (false,nB A) (false,nB B) (by show (nB A).size<_; omega) (by show (nB B).size<_; omega)
  rw [show nV (false,nB A).2=A from nvB A,show nV (false,nB B).2=B from nvB B] at g3
  have hg0:0<Nat.gcd A B:=Nat.gcd_pos_of_pos_right _ (Nat.pos_of_ne_zero c0)
  have hgB:Nat.gcd A B ∣ B:=Nat.gcd_dvd_right A B
  have hgA:Nat.gcd A B ∣ A:=Nat.gcd_dvd_left A B
  have hgs:(nB (Nat.gcd A B)).size<4000000000:=by
   rcases gcd_le (g:=A) (b:=B) with h | h <;> omega
  unfold Nv.mkR
  obtain ⟨g,hg⟩:∃ g,g=Nat.gcd A B:=⟨_,rfl⟩
  rw [← hg] at g3 hg0 hgB hgA hgs ⊢
  have g4:=xg1116 (nB A) (nB g) (by omega) hgs (by rw [nvB]; omega)
  have g5:=xg1116 (nB B) (nB g) (by omega) hgs (by rw [nvB]; omega)
  rw [nvB,nvB] at g4 g5
  unfold iV at g3 g4 g5
  have f1:(false && !decide (g=0))=false:=rfl
  have f2:(false && !decide (A / g=0))=false:=rfl
  have f3:(false && !decide (B / g=0))=false:=rfl
  have f4:(false && !decide (A % g=0))=false:=rfl
  have f5:(false && !decide (B % g=0))=false:=rfl
  rw [f1] at g3
  rw [f2,f4] at g4
  rw [f3,f5] at g5
  obtain ⟨m1,hm1⟩:∃ x,x=nB (A % g):=⟨_,rfl⟩
  obtain ⟨m2,hm2⟩:∃ x,x=nB (B % g):=⟨_,rfl⟩
  rw [← hm1] at g4
  rw [← hm2] at g5
  obtain ⟨gs,hgse⟩:∃ gs,gs=nB g:=⟨_,rfl⟩
  rw [← hgse] at g3 g4 g5
  have g3':x1115.g [.c (.sl [[.v (.bool false),.v (.string (nB A))],[.v (.bool false),.v (.string (nB B))]])]=some (True,.v (intV false gs)):=g3
  have hq1:B / g=1↔nB (B / g)=⟨#[1]⟩:=nB_is1.symm
  obtain ⟨bb,hbb⟩:∃ x,x=nB B:=⟨_,rfl⟩
  rw [← hbb] at g2 hE g5 g3'
  obtain ⟨qb,hqb⟩:∃ x,x=nB (B / g):=⟨_,rfl⟩
  rw [show Nv.natB (B / g)=qb from hqb.symm]
  rw [← hqb] at g5 hq1
  by_cases c1:A=0
  ·rw [if_pos c1]
   have hgB2:g=B:=by rw [hg,c1,Nat.gcd_zero_left]
   have hq:qb=⟨#[1]⟩:=hq1.1 (by rw [hgB2,Nat.div_self (by omega)])
   have hnA:nB A=⟨#[]⟩:=nB_nil.2 c1
   have hnq:nB (A / g)=⟨#[]⟩:=nB_nil.2 (by rw [c1,Nat.zero_div])
   rw [hnA] at g1 g3' g4
   rw [hnq] at g4
   rw [hq] at g5
   simp (implicitDefEqProofs:=false) (disch:=omega) [gz,ir1100,b1100,b1100_0,b1100_1,b1100_2,b1100_3,b1100_4,b1100_5,b1100_6,b1100_7,b1100_8,b1100_9,b1100_10,b1100_11,b1100_12,s1,g1,g2,hE,s2,g3',s3,g4,g5,s4,g7,fillC,splice,fillR,binSF,cellsEq,skEq,toBVs]
   repeat' (with_reducible apply And.intro)
   all_goals first | omega | kernel_rfl | skip
   exact fin_nil ⟨rfl,rfl⟩
  ·rw [if_neg c1]
   have e1:b1=n1:=by rw [hb1,decide_eq_false c1]; simp
   have e2:b2=n2:=by rw [hb2,decide_eq_false c0]; simp
   rw [e1] at g1
   rw [e2] at g2
   have hnq:¬ nB (A / g)=⟨#[]⟩:=fun q=>by
    have h0:=nB_nil.1 q
    have:=Nat.div_mul_cancel hgA
    rw [h0,Nat.zero_mul] at this
    exact c1 this.symm
   obtain ⟨na,hna⟩:∃ x,x=nB A:=⟨_,rfl⟩
   rw [← hna] at g1 g3' g4
   obtain ⟨nq,hnq2⟩:∃ x,x=nB (A / g):=⟨_,rfl⟩
   rw [show Nv.natB (A / g)=nq from hnq2.symm]
   rw [← hnq2] at g4 hnq
   have hA2:=hnq
   by_cases c2:B / g=1
   ·rw [if_pos c2]
    have hq:=hq1.1 c2
    rw [hq] at g5
    have hQ1:True:=trivial
    cases n1 <;> cases n2
    ·simp (implicitDefEqProofs:=false) (disch:=omega) [gz,ir1100,b1100,b1100_0,b1100_1,b1100_2,b1100_3,b1100_4,b1100_5,b1100_6,b1100_7,b1100_8,b1100_9,b1100_10,b1100_11,b1100_12,s1,g1,g2,hE,s2,g3',s3,g4,g5,s4,g7,hA2,hQ1,fillC,splice,fillR,binSF,cellsEq,skEq,toBVs]
     repeat' (with_reducible apply And.intro)
     all_goals first | omega | kernel_rfl | skip
     exact fin_nil ⟨rfl,rfl⟩
    ·simp (implicitDefEqProofs:=false) (disch:=omega) [gz,ir1100,b1100,b1100_0,b1100_1,b1100_2,b1100_3,b1100_4,b1100_5,b1100_6,b1100_7,b1100_8,b1100_9,b1100_10,b1100_11,b1100_12,s1,g1,g2,hE,s2,g3',s3,g4,g5,s4,g7,hA2,hQ1,fillC,splice,fillR,binSF,cellsEq,skEq,toBVs]
     repeat' (with_reducible apply And.intro)
     all_goals first | omega | kernel_rfl | skip
     exact fin_nil ⟨rfl,rfl⟩
    ·simp (implicitDefEqProofs:=false) (disch:=omega) [gz,ir1100,b1100,b1100_0,b1100_1,b1100_2,b1100_3,b1100_4,b1100_5,b1100_6,b1100_7,b1100_8,b1100_9,b1100_10,b1100_11,b1100_12,s1,g1,g2,hE,s2,g3',s3,g4,g5,s4,g7,hA2,hQ1,fillC,splice,fillR,binSF,cellsEq,skEq,toBVs]
     repeat' (with_reducible apply And.intro)
     all_goals first | omega | kernel_rfl | skip
     exact fin_nil ⟨rfl,rfl⟩
    ·simp (implicitDefEqProofs:=false) (disch:=omega) [gz,ir1100,b1100,b1100_0,b1100_1,b1100_2,b1100_3,b1100_4,b1100_5,b1100_6,b1100_7,b1100_8,b1100_9,b1100_10,b1100_11,b1100_12,s1,g1,g2,hE,s2,g3',s3,g4,g5,s4,g7,hA2,hQ1,fillC,splice,fillR,binSF,cellsEq,skEq,toBVs]
     repeat' (with_reducible apply And.intro)
     all_goals first | omega | kernel_rfl | skip
     exact fin_nil ⟨rfl,rfl⟩
   ·rw [if_neg c2]
    have hQ1:¬ qb=⟨#[1]⟩:=fun q=>c2 (hq1.2 q)
    cases n1 <;> cases n2
    ·simp (implicitDefEqProofs:=false) (disch:=omega) [gz,ir1100,b1100,b1100_0,b1100_1,b1100_2,b1100_3,b1100_4,b1100_5,b1100_6,b1100_7,b1100_8,b1100_9,b1100_10,b1100_11,b1100_12,s1,g1,g2,hE,s2,g3',s3,g4,g5,s4,g7,hA2,hQ1,fillC,splice,fillR,binSF,cellsEq,skEq,toBVs]
     repeat' (with_reducible apply And.intro)
     all_goals first | omega | kernel_rfl | skip
     exact fin_nil ⟨rfl,rfl⟩
    ·simp (implicitDefEqProofs:=false) (disch:=omega) [gz,ir1100,b1100,b1100_0,b1100_1,b1100_2,b1100_3,b1100_4,b1100_5,b1100_6,b1100_7,b1100_8,b1100_9,b1100_10,b1100_11,b1100_12,s1,g1,g2,hE,s2,g3',s3,g4,g5,s4,g7,hA2,hQ1,fillC,splice,fillR,binSF,cellsEq,skEq,toBVs]
     repeat' (with_reducible apply And.intro)
     all_goals first | omega | kernel_rfl | skip
     exact fin_nil ⟨rfl,rfl⟩
    ·simp (implicitDefEqProofs:=false) (disch:=omega) [gz,ir1100,b1100,b1100_0,b1100_1,b1100_2,b1100_3,b1100_4,b1100_5,b1100_6,b1100_7,b1100_8,b1100_9,b1100_10,b1100_11,b1100_12,s1,g1,g2,hE,s2,g3',s3,g4,g5,s4,g7,hA2,hQ1,fillC,splice,fillR,binSF,cellsEq,skEq,toBVs]
     repeat' (with_reducible apply And.intro)
     all_goals first | omega | kernel_rfl | skip
     exact fin_nil ⟨rfl,rfl⟩
    ·simp (implicitDefEqProofs:=false) (disch:=omega) [gz,ir1100,b1100,b1100_0,b1100_1,b1100_2,b1100_3,b1100_4,b1100_5,b1100_6,b1100_7,b1100_8,b1100_9,b1100_10,b1100_11,b1100_12,s1,g1,g2,hE,s2,g3',s3,g4,g5,s4,g7,hA2,hQ1,fillC,splice,fillR,binSF,cellsEq,skEq,toBVs]
     repeat' (with_reducible apply And.intro)
     all_goals first | omega | kernel_rfl | skip
     exact fin_nil ⟨rfl,rfl⟩
noncomputable def x1100:XE:=mkX true (fun (p:(Bool×ByteArray)×(Bool×ByteArray))=>[intP p.1.1 p.1.2,intP p.2.1 p.2.2]) (fun p=>p.1.2.size<4000000000∧p.2.2.size<4000000000) (fun p=>makeT p.1.1 p.2.1 (nV p.1.2) (nV p.2.2))
theorem kx1100:Contract Tryz.prog G0 100 x1100:=mkX_scal (fun _=>makeT_sc _ _ _ _) fun p h=>k1100 p.1.1 p.2.1 p.1.2 p.2.2 h.1 h.2
theorem xg1100 (n1 n2:Bool) (a b:ByteArray) (h1:a.size<4000000000) (h2:b.size<4000000000):x1100.g [intP n1 a,intP n2 b]=some (True,makeT n1 n2 (nV a) (nV b)):=mkX_g injII ((n1,a),(n2,b)) ⟨h1,h2⟩
theorem k1090 (x:Nv.Rt) (h1:x.num.size<4000000000) (h2:x.den.size<4000000000):ACalls Tryz.prog G0 90 [ratV x] [] fun t H=>t = .v (ratV (Nv.normR x))∧H=[]:=by
 have s1:x1101.sc=true:=rfl
 have s2:x1102.sc=true:=rfl
 have s3:x1100.sc=true:=rfl
 have g1:=xg1101 x h1
 have g3:=xg1102 x h2
 have hn:=nB_le (s:=x.num)
 have hd0:=Nv.denV_pos x.den
 have g2:=xg1100 (x.neg && !decide (nV x.num=0)) (false && !decide (Nv.denV x.den=0)) (nB (nV x.num)) (nB (Nv.denV x.den)) (by omega) (den_size h2)
 rw [nvB,nvB] at g2
 unfold makeT at g2
 rw [if_neg (by omega)] at g2
 have hnorm:Nv.mkR (!decide ((x.neg && !decide (nV x.num=0))=(false && !decide (Nv.denV x.den=0)))) (nV x.num) (Nv.denV x.den)=Nv.normR x:=by
  unfold Nv.normR
  by_cases c:nV x.num=0
  ·show Nv.mkR _ (nV x.num) _=Nv.mkR _ (nV x.num) _
   rw [c,Nv.mkR_zero,Nv.mkR_zero]
  ·rw [decide_eq_false c]
   cases x.neg <;> rfl
 rw [hnorm] at g2
 unfold iV at g1 g3
 refine acallsX (X:=[(101,x1101),(102,x1102),(100,x1100)]) ⟨kx1101,kx1102,kx1100,trivial⟩ tab hmix Tryz.func90 c1090 (by rfl) fun hw=>?_
 obtain ⟨b1,hb1⟩:∃ b1,b1=(x.neg && !decide (nV x.num=0)):=⟨_,rfl⟩
 obtain ⟨b2,hb2⟩:∃ b2,b2=(false && !decide (Nv.denV x.den=0)):=⟨_,rfl⟩
 rw [← hb1] at g1 g2
 rw [← hb2] at g3 g2
 obtain ⟨m1,hm1⟩:∃ m,m=nB (nV x.num):=⟨_,rfl⟩
 obtain ⟨m2,hm2⟩:∃ m,m=nB (Nv.denV x.den):=⟨_,rfl⟩
 rw [← hm1] at g1 g2
 rw [← hm2] at g3 g2
 obtain ⟨y,hy⟩:∃ y,y=Nv.normR x:=⟨_,rfl⟩
 rw [← hy] at g2 ⊢
 obtain ⟨xn,xa,xb⟩:=x
 simp (implicitDefEqProofs:=false) (disch:=omega) [gz,ir1090,b1090,s1,s2,s3,g1,g3,g2,fillC,splice]
 repeat' (with_reducible apply And.intro)
 all_goals first | omega | kernel_rfl | skip
 exact fin_nil ⟨rfl,rfl⟩
noncomputable def x1090:XE:=mkX true (fun (x:Nv.Rt)=>[ratP x]) (fun x=>x.num.size<4000000000∧x.den.size<4000000000) (fun x=>.v (ratV (Nv.normR x)))
theorem kx1090:Contract Tryz.prog G0 90 x1090:=mkX_scal (fun _=>rfl) fun x h=>k1090 x h.1 h.2
theorem xg1090 (x:Nv.Rt) (h1:x.num.size<4000000000) (h2:x.den.size<4000000000):x1090.g [ratP x]=some (True,.v (ratV (Nv.normR x))):=mkX_g injRat x ⟨h1,h2⟩
theorem k1091 (x:Nv.Rt) (n:Nat) (h1:x.num.size<4000000000) (h2:x.den.size<4000000000):ACalls Tryz.prog G0 91 [ratV x,I n] [] fun t H=>t = .bool (fitsR x n)∧H=[]:=by
 have s1:x1090.sc=true:=rfl
 have g1:=xg1090 x h1 h2
 refine acallsX (X:=[(90,x1090)]) ⟨kx1090,trivial⟩ tab hmix Tryz.func91 c1091 (by rfl) fun hw=>?_
 unfold fitsR
 obtain ⟨⟨yn,ya,yb⟩,hy⟩:∃ y,y=Nv.normR x:=⟨_,rfl⟩
 rw [← hy] at g1 ⊢
 obtain ⟨xn,xa,xb⟩:=x
 by_cases c1:ya.size≤n
 ·have c1':(ya.size:Int)≤(n:Int):=by omega
  by_cases c2:yb.size≤n
  ·have c2':(yb.size:Int)≤(n:Int):=by omega
   simp (implicitDefEqProofs:=false) (disch:=omega) [gz,ir1091,b1091,s1,g1,fillC,splice,c1',c2',c1,c2]
   exact fin_nil ⟨rfl,rfl⟩
  ·have c2':¬ (yb.size:Int)≤(n:Int):=by omega
   simp (implicitDefEqProofs:=false) (disch:=omega) [gz,ir1091,b1091,s1,g1,fillC,splice,c1',c2',c1,c2]
   exact fin_nil ⟨rfl,rfl⟩
 ·have c1':¬ (ya.size:Int)≤(n:Int):=by omega
  simp (implicitDefEqProofs:=false) (disch:=omega) [gz,ir1091,b1091,s1,g1,fillC,splice,c1',c1]
  exact fin_nil ⟨rfl,rfl⟩
noncomputable def x1091:XE:=mkX true (fun (p:Nv.Rt×Nat)=>[ratP p.1,.c (.v (.int .i64 (p.2:Int)))]) (fun p=>p.1.num.size<4000000000∧p.1.den.size<4000000000) (fun p=>.bool (fitsR p.1 p.2))
theorem kx1091:Contract Tryz.prog G0 91 x1091:=mkX_scal (fun _=>rfl) fun p h=>k1091 p.1 p.2 h.1 h.2
theorem xg1091 (x:Nv.Rt) (n:Nat) (h1:x.num.size<4000000000) (h2:x.den.size<4000000000):x1091.g [ratP x,.c (.v (.int .i64 (n:Int)))]=some (True,.bool (fitsR x n)):=mkX_g injRN (x,n) ⟨h1,h2⟩
theorem k1075 (x:Id) (hs:x.a.size<4611686018427387904):ACalls Tryz.prog G0 75 [.agg (x.row.map .d)] [] fun t H=>t = .bool (validI x)∧H=[]:=by
 have s1:x526.sc=true:=rfl
 have g1:=xg526 x.a hs
 have hxr:x.row=[.v (.string x.a),.v (.int .i64 x.n)]:=rfl
 refine acallsX (X:=[(52,x526)]) ⟨kx526,trivial⟩ tab hmix Tryz.func75 c1075 (by rfl) fun hw=>?_
 unfold validI
 obtain ⟨p,hp⟩:∃ p,p=authB x.a:=⟨_,rfl⟩
 rw [← hp] at g1 ⊢
 cases p
 ·simp (implicitDefEqProofs:=false) (disch:=omega) [gz,ir1075,b1075,hxr,s1,g1]
  exact fin_nil ⟨rfl,rfl⟩
 ·by_cases c1:1≤x.n
  ·by_cases c2:x.n≤1000000000
   ·simp (implicitDefEqProofs:=false) (disch:=omega) [gz,ir1075,b1075,hxr,s1,g1,c1,c2]
    exact fin_nil ⟨rfl,rfl⟩
   ·simp (implicitDefEqProofs:=false) (disch:=omega) [gz,ir1075,b1075,hxr,s1,g1,c1,c2]
    exact fin_nil ⟨rfl,rfl⟩
  ·simp (implicitDefEqProofs:=false) (disch:=omega) [gz,ir1075,b1075,hxr,s1,g1,c1]
   exact fin_nil ⟨rfl,rfl⟩
noncomputable def x1075:XE:=mkX true (fun (x:Id)=>[.agg x.row]) (fun x=>x.a.size<4611686018427387904) (fun x=>.bool (validI x))
theorem kx1075:Contract Tryz.prog G0 75 x1075:=mkX_scal (fun _=>rfl) fun x h=>k1075 x h
theorem xg1075 (x:Id) (h:x.a.size<4611686018427387904):x1075.g [.agg x.row]=some (True,.bool (validI x)):=mkX_g (fun a b h=>by simp at h; exact Id.row_inj h) x h
theorem mem_drop {α:Type} {p:α→Bool} {l:List α} {x:α} (hx:x∈l) (hp:p x=false):x∈l.dropWhile p:=by
 have h:x∈l.takeWhile p ++ l.dropWhile p:=by rw [List.takeWhile_append_dropWhile]; exact hx
 rcases List.mem_append.1 h with h | h
 ·rw [takeW_all h] at hp; cases hp
 ·exact h
theorem abc_has (b:UInt8):abc.data.toList.contains b=(decide (97≤b.toNat) && decide (b.toNat≤122)):=by
 have h:∀ n,n<256→abc.data.toList.contains (UInt8.ofNat n)=(decide (97≤(UInt8.ofNat n).toNat) && decide ((UInt8.ofNat n).toNat≤122)):=by decide +kernel
 have:=h b.toNat (UInt8.toNat_lt b)
 rwa [UInt8.ofNat_toNat] at this
theorem drop_nil {α:Type} {p:α→Bool} {l:List α} (h:∀ x∈l,p x=true):l.dropWhile p=[]:=by
 induction l with
 | nil=>rfl
 | cons x l ih =>
  rw [List.dropWhile_cons,if_pos (h x List.mem_cons_self)]
  exact ih fun y hy=>h y (List.mem_cons_of_mem _ hy)
theorem trimS_nil (l cs:List UInt8):Lib.trimS l cs=[]↔∀ b∈l,cs.contains b=true:=by
 unfold Lib.trimS Lib.trimLeftS Lib.trimRightS
 constructor
 ·intro h b hb
  cases hq:cs.contains b
  ·exfalso
   have h1:b∈((l.reverse.dropWhile (cs.contains ·)).reverse):=List.mem_reverse.2 (mem_drop (List.mem_reverse.2 hb) hq)
   have h2:=mem_drop (p:=(cs.contains ·)) h1 hq
   rw [h] at h2
   cases h2
  ·rfl
 ·intro h
  have e:l.reverse.dropWhile (cs.contains ·)=[]:=drop_nil fun b hb=>h b (List.mem_reverse.1 hb)
  rw [e]; rfl
def lowerB (s:ByteArray) (i:Nat):Bool:=decide (97≤byt s i) && decide (byt s i≤122)
theorem word_iff (s:ByteArray):wordB s=(decide (∀ j,j<s.size→lowerB s j=true) && (decide (1≤s.size) && decide (s.size≤24))):=by
 have h1:(trimA s=⟨#[]⟩)↔∀ j,j<s.size→lowerB s j=true:=by
  have h0:(trimA s=⟨#[]⟩)↔Lib.trimS (bl8 s) abc.data.toList=[]:=by
   unfold trimA
   constructor
   ·intro h
    have:=congrArg (fun b:ByteArray=>b.data.toList) h
    simpa [bl8] using this
   ·intro h
    show (⟨(Lib.trimS (bl8 s) abc.data.toList).toArray⟩:ByteArray)=_
    rw [h]
  rw [h0,trimS_nil]
  constructor
  ·intro h j hj
   have hb:=h ((bl8 s)[j]'hj) (List.getElem_mem _)
   rw [abc_has] at hb
   have e:byt s j=(((bl8 s)[j]'hj).toNat:Int):=by unfold byt; rw [bl8_at]; exact congrArg (fun x:UInt8=>(x.toNat:Int)) (bl8_get hj)
   unfold lowerB
   rw [e]
   simp only [Bool.and_eq_true,decide_eq_true_eq] at hb ⊢
   omega
  ·intro h b hb
   obtain ⟨j,hj,rfl⟩:=List.mem_iff_getElem.1 hb
   have hl:=h j hj
   have e:byt s j=(((bl8 s)[j]'hj).toNat:Int):=by unfold byt; rw [bl8_at]; exact congrArg (fun x:UInt8=>(x.toNat:Int)) (bl8_get hj)
   unfold lowerB at hl
   rw [e] at hl
   rw [abc_has]
   simp only [Bool.and_eq_true,decide_eq_true_eq] at hl ⊢
   omega
 have h2:(s=⟨#[]⟩)↔¬ 1≤s.size:=by
  constructor
  ·rintro rfl; decide
  ·intro h
   have:s.size=0:=by omega
   exact tl_inj (List.eq_nil_of_length_eq_zero (by rw [tl_len]; exact this))
 unfold wordB
 have e1:decide (trimA s=⟨#[]⟩)=decide (∀ j,j<s.size→lowerB s j=true):=decide_eq_decide.2 h1
 have e2:decide (s=⟨#[]⟩)=decide (¬ 1≤s.size):=decide_eq_decide.2 h2
 rw [e1,e2]
 by_cases c1:1≤s.size <;> by_cases c2:s.size≤24 <;> by_cases c3:∀ j,j<s.size→lowerB s j=true <;> simp [c1,c2]
theorem k1077 (s:ByteArray) (hs:s.size<4611686018427387904):ACalls Tryz.prog G0 77 [Sx s] [] fun t H=>t = .bool (wordB s)∧H=[]:=by
 rw [word_iff]
 obtain ⟨R,hR⟩:∃ R,R=(decide (∀ j,j<s.size→lowerB s j=true) && (decide (1≤s.size) && decide (s.size≤24))):=⟨_,rfl⟩
 rw [← hR]
 refine acallsX (X:=[]) trivial tab hmix Tryz.func77 c1077 (by rfl) fun hw=>?_
 simp (implicitDefEqProofs:=false) (disch:=omega) [gz,ir1077,b1077,wrap64]
 refine loopE (fun k st=>∃ i,i≤s.size∧k=s.size-i∧(∀ j,j<i→lowerB s j=true) ∧
   st=⟨ofL [(0,.v (.c (.d (.v (.string s))))),(3,.int .i64 i)],[]⟩)
  (fun st=>(∀ j,j<s.size→lowerB s j=true)∧AtS [(0,.v (.c (.d (.v (.string s)))))] [] st) ?_ ?_ ?_
 ·refine wk_keep [0,3] ⟨_,0,by omega,rfl,fun j hj=>by omega,?_⟩
  simp
 ·rintro J L hJ hL k st ⟨i,hi,rfl,hb,rfl⟩
  by_cases hlt:i<s.size
  ·have hby:((s.data[i]?.getD 0).toNat:Int)=byt s i:=rfl
   obtain ⟨b,hbb⟩:∃ b,b=byt s i:=⟨_,rfl⟩
   have hlow:lowerB s i=(decide (97≤b) && decide (b≤122)):=by rw [hbb]; rfl
   rw [← hbb] at hby
   have bad:lowerB s i=false→R=false:=fun h=>by rw [hR,decide_eq_false (fun q=>by rw [q i hlt] at h; cases h)]; rfl
   by_cases c1:97≤b
   ·have c1':¬ b<97:=by omega
    by_cases c2:b≤122
    ·have c2':¬ 122<b:=by omega
     simp (implicitDefEqProofs:=false) (disch:=omega) [gz,hlt,wrap64,hby,c1,c1',c2,c2']
     subst hJ
     refine wk_keep [0,3] ⟨s.size-(i+1),by omega,i+1,by omega,rfl,fun j hj=>?_,?_⟩
     ·by_cases e1:j=i
      ·subst e1; rw [hlow]; simp [c1,c2]
      ·exact hb j (by omega)
     ·simp
    ·have c2':122<b:=by omega
     rw [bad (by rw [hlow]; simp [c1,c2])]
     simp (implicitDefEqProofs:=false) (disch:=omega) [gz,hlt,wrap64,hby,c1,c1',c2,c2']
     exact fin_nil ⟨rfl,rfl⟩
   ·have c1':b<97:=by omega
    rw [bad (by rw [hlow]; simp [c1])]
    simp (implicitDefEqProofs:=false) (disch:=omega) [gz,hlt,wrap64,hby,c1,c1']
    exact fin_nil ⟨rfl,rfl⟩
  ·have:i=s.size:=by omega
   subst this
   simp (implicitDefEqProofs:=false) (disch:=omega) [gz,hlt]
   subst hL
   exact ⟨hb,at_mk (by simp) rfl⟩
 ·rintro _ ⟨hall,sl,rfl⟩
  rw [decide_eq_true hall,Bool.true_and] at hR
  rw [hR]
  by_cases c1:1≤s.size
  ·have c1':(1:Int)≤(s.size:Int):=by omega
   by_cases c2:s.size≤24
   ·have c2':(s.size:Int)≤24:=by omega
    simp (implicitDefEqProofs:=false) (disch:=omega) [gz,c1,c1',c2,c2']
    exact fin_nil ⟨rfl,rfl⟩
   ·have c2':¬ (s.size:Int)≤24:=by omega
    simp (implicitDefEqProofs:=false) (disch:=omega) [gz,c1,c1',c2,c2']
    exact fin_nil ⟨rfl,rfl⟩
  ·have c1':¬ (1:Int)≤(s.size:Int):=by omega
   simp (implicitDefEqProofs:=false) (disch:=omega) [gz,c1,c1']
   exact fin_nil ⟨rfl,rfl⟩
noncomputable def x1077:XE:=mkX true (fun (s:ByteArray)=>[.c (.v (.string s))]) (fun s=>s.size<4611686018427387904) (fun s=>.bool (wordB s))
theorem kx1077:Contract Tryz.prog G0 77 x1077:=mkX_scal (fun _=>rfl) fun s h=>k1077 s h
theorem xg1077 (s:ByteArray) (h:s.size<4611686018427387904):x1077.g [.c (.v (.string s))]=some (True,.bool (wordB s)):=mkX_g inj1s s h
theorem k1076 (x:Nv.Rt) (h1:x.num.size<4000000000) (h2:x.den.size<4000000000):ACalls Tryz.prog G0 76 [ratV x] [] fun t H=>t = .bool (plcB x)∧H=[]:=by
 have s1:x1090.sc=true:=rfl
 have s2:x1091.sc=true:=rfl
 have g1:=xg1090 x h1 h2
 have g2:x1091.g [ratP x,.c (.v (.int .i64 16))]=some (True,.bool (fitsR x 16)):=xg1091 x 16 h1 h2
 refine acallsX (X:=[(90,x1090),(91,x1091)]) ⟨kx1090,kx1091,trivial⟩ tab hmix Tryz.func76 c1076 (by rfl) fun hw=>?_
 unfold plcB
 obtain ⟨⟨yn,ya,yb⟩,hy⟩:∃ y,y=Nv.normR x:=⟨_,rfl⟩
 obtain ⟨f,hf⟩:∃ f,f=fitsR x 16:=⟨_,rfl⟩
 rw [← hy] at g1 ⊢
 rw [← hf] at g2 ⊢
 obtain ⟨xn,xa,xb⟩:=x
 by_cases c1:yn=xn
 ·by_cases c2:ya=xa
  ·by_cases c3:yb=xb
   ·subst c1; subst c2; subst c3
    simp (implicitDefEqProofs:=false) (disch:=omega) [gz,ir1076,b1076,s1,g1,s2,g2,fillC,splice,cellsEq,skEq]
    repeat' (with_reducible apply And.intro)
    all_goals first | omega | kernel_rfl | skip
    exact fin_nil ⟨by simp,rfl⟩
   ·simp (implicitDefEqProofs:=false) (disch:=omega) [gz,ir1076,b1076,s1,g1,s2,g2,c1,c2,c3,fillC,splice,cellsEq,skEq]
    repeat' (with_reducible apply And.intro)
    all_goals first | omega | kernel_rfl | skip
    exact fin_nil ⟨rfl,rfl⟩
  ·simp (implicitDefEqProofs:=false) (disch:=omega) [gz,ir1076,b1076,s1,g1,s2,g2,c1,c2,fillC,splice,cellsEq,skEq]
   repeat' (with_reducible apply And.intro)
   all_goals first | omega | kernel_rfl | skip
   exact fin_nil ⟨rfl,rfl⟩
 ·simp (implicitDefEqProofs:=false) (disch:=omega) [gz,ir1076,b1076,s1,g1,s2,g2,c1,fillC,splice,cellsEq,skEq]
  repeat' (with_reducible apply And.intro)
  all_goals first | omega | kernel_rfl | skip
  exact fin_nil ⟨rfl,rfl⟩
noncomputable def x1076:XE:=mkX true (fun (x:Nv.Rt)=>[ratP x]) (fun x=>x.num.size<4000000000∧x.den.size<4000000000) (fun x=>.bool (plcB x))
theorem kx1076:Contract Tryz.prog G0 76 x1076:=mkX_scal (fun _=>rfl) fun x h=>k1076 x h.1 h.2
theorem xg1076 (x:Nv.Rt) (h1:x.num.size<4000000000) (h2:x.den.size<4000000000):x1076.g [ratP x]=some (True,.bool (plcB x)):=mkX_g injRat x ⟨h1,h2⟩
theorem k1078:ACalls Tryz.prog G0 78 [] [] fun t H=>t = .v (.agg [.d (.v (.string ⟨#[45]⟩)),.d (.v (.int .i64 0))])∧H=[]:=by
 refine acallsX (X:=[]) trivial tab hmix Tryz.func78 c1078 (by rfl) fun hw=>?_
 simp (implicitDefEqProofs:=false) (disch:=omega) [gz,ir1078,b1078,fillC,splice]
 exact fin_nil ⟨rfl,rfl⟩
noncomputable def x1078:XE:=mkX true (fun (_:Unit)=>[]) (fun _=>True) (fun _=>.v (.agg [.d (.v (.string ⟨#[45]⟩)),.d (.v (.int .i64 0))]))
theorem kx1078:Contract Tryz.prog G0 78 x1078:=mkX_scal (fun _=>rfl) fun _ _=>k1078
theorem xg1078:x1078.g []=some (True,.v (.agg [.d (.v (.string ⟨#[45]⟩)),.d (.v (.int .i64 0))])):=mkX_g (fun a b h=>rfl) () trivial
theorem k1053 (v:List Id) (nm:ByteArray) (h1:v.length<4611686018427387904):ACalls Tryz.prog G0 53 [.c (.d (.sl (v.map Id.row))),Sx nm] [] fun t H=>t = .int .i64 (hasN v nm)∧H=[]:=by
 refine acallsX (X:=[]) trivial tab hmix Tryz.func53 c1053 (by rfl) fun hw=>?_
 simp (implicitDefEqProofs:=false) (disch:=omega) [gz,ir1053,b1053,wrap64]
 refine loopE (fun k st=>∃ i,i≤v.length∧k=v.length-i∧hasN v nm=hasN (v.drop i) nm ∧
   st=⟨ofL [(0,.v (.c (.d (.sl (v.map Id.row))))),(1,.v (.c (.d (.v (.string nm))))),(7,.int .i64 v.length),(8,.int .i64 i)],[]⟩)
  (fun st=>hasN v nm=0∧AtS [] [] st) ?_ ?_ ?_
 ·refine wk_nil [] [0,1,7,8] rfl ⟨_,0,by omega,rfl,rfl,?_⟩
  simp [Sx]
 ·rintro J L hJ hL k st ⟨i,hi,rfl,hb,rfl⟩
  by_cases hlt:i<v.length
  ·obtain ⟨x,hx⟩:∃ x,nth v i=x:=⟨_,rfl⟩
   have hxr:x.row=[.v (.string x.a),.v (.int .i64 x.n)]:=rfl
   have hd:v.drop i=x :: v.drop (i+1):=by rw [List.drop_eq_getElem_cons hlt,← nth_eq hlt,hx]
   rw [hd,hasN_step] at hb
   by_cases c1:x.a=nm
   ·rw [hb,if_pos c1]
    simp (implicitDefEqProofs:=false) (disch:=omega) [gz,hlt,wrap64,nth_map,hx,hxr,splice,fillC,binSF,c1]
    exact fin_nil ⟨rfl,rfl⟩
   ·rw [if_neg c1] at hb
    simp (implicitDefEqProofs:=false) (disch:=omega) [gz,hlt,wrap64,nth_map,hx,hxr,splice,fillC,binSF,c1]
    subst hJ
    refine wk_nil [] [0,1,7,8] rfl ⟨v.length-(i+1),by omega,i+1,by omega,rfl,hb,?_⟩
    simp
  ·have:i=v.length:=by omega
   subst this
   simp (implicitDefEqProofs:=false) (disch:=omega) [gz,hlt]
   subst hL
   exact ⟨by rw [hb,List.drop_length]; rfl,at_mk (by simp) rfl⟩
 ·rintro _ ⟨hb,sl,rfl⟩
  rw [hb]
  simp (implicitDefEqProofs:=false) (disch:=omega) [gz,wrap64]
  exact fin_nil ⟨rfl,rfl⟩
noncomputable def x1053:XE:=mkX true (fun (p:List Id×ByteArray)=>[.c (.sl (p.1.map Id.row)),.c (.v (.string p.2))]) (fun p=>p.1.length<4611686018427387904) (fun p=>.int .i64 (hasN p.1 p.2))
theorem kx1053:Contract Tryz.prog G0 53 x1053:=mkX_scal (fun _=>rfl) fun p h=>k1053 p.1 p.2 h
theorem xg1053 (v:List Id) (a:ByteArray) (h:v.length<4611686018427387904):x1053.g [.c (.sl (v.map Id.row)),.c (.v (.string a))]=some (True,.int .i64 (hasN v a)):=mkX_g injVS (v,a) h
def okN (P:List ByteArray) (j:Nat):Bool:=authB (nth P j) && (decide (j=0) || strLt (nth P (j-1)) (nth P j))
def namesOk (P:List ByteArray):Bool:=decide (∀ j,j<P.length→okN P j=true)
theorem nth_mid {out Y:List ByteArray} {w:ByteArray}:nth (out ++ w :: Y) out.length=w:=by
 unfold nth
 rw [List.getD_eq_getElem?_getD,List.getElem?_append_right (Nat.le_refl _),Nat.sub_self]; rfl
theorem okN_mid {out Y:List ByteArray} {w:ByteArray}:okN (out ++ w :: Y) out.length=(authB w && (decide (out.length=0) || strLt (nth out (out.length-1)) w)):=by
 unfold okN
 rw [nth_mid]
 by_cases h:out.length=0
 ·rw [decide_eq_true h]; rfl
 ·have e2:nth (out ++ w :: Y) (out.length-1)=nth out (out.length-1):=by unfold nth; rw [List.getD_eq_getElem?_getD,List.getD_eq_getElem?_getD,List.getElem?_append_left (by omega)]
  rw [e2]
theorem tl_ext2 (s:ByteArray) {a b:Nat}:tl (s.extract a b)=((tl s).drop a).take (b-a):=by
 simp [tl,List.drop_take]
theorem tl_ext_snoc {s:ByteArray} {a b:Nat} {c:UInt8} (hab:a≤b) (h:(tl s)[b]? = some c):tl (s.extract a (b+1))=tl (s.extract a b) ++ [c]:=by
 rw [tl_ext2,tl_ext2]
 have hb:b<(tl s).length:=lt_of_get h
 rw [show b+1-a=(b-a)+1 by omega,List.take_succ_eq_append_getElem (by rw [List.length_drop]; omega)]
 congr 2
 rw [List.getElem_drop]
 have e:a+(b-a)=b:=by omega
 have:=(List.getElem?_eq_some_iff.1 h).2
 simp only [e]
 exact this
abbrev namesT (P:List ByteArray):T:=if namesOk P=true then .tup [.c (.d (.sl (P.map srow))),.c (.d (.v (.bool true)))] else .tup [.c (.d (.sl [])),.c (.d (.v (.bool false)))]
theorem k1092 (s:ByteArray) (h:s.size<4294967281) (H:List O):ACalls Tryz.prog G0 92 [Sx s] H fun t H'=>t=namesT (parts s comma)∧H'=H:=by
 have s1:x526.sc=true:=rfl
 obtain ⟨P,hP⟩:∃ P,P=parts s comma:=⟨_,rfl⟩
 have hPl:=parts_le s
 have hPs:=parts_spl s
 rw [← hP] at hPl hPs ⊢
 refine acallsX (X:=[(52,x526)]) ⟨kx526,trivial⟩ tab hmix Tryz.func92 c1092 (by rfl) fun hw=>?_
 unfold namesT
 simp (implicitDefEqProofs:=false) (disch:=omega) [gz,ir1092,b1092,b1092_0,b1092_1,b1092_2,b1092_3,wrap64,fillR]
 refine loopE (fun k st=>∃ (i fr:Nat) (out:List ByteArray),i≤s.size+1∧fr≤i∧k=s.size+1-i∧InvP P (tl s) i out (s.extract fr i)∧(∀ j,j<out.length→okN P j=true) ∧
   st=⟨ofL [(0,.v (.c (.d (.v (.string s))))),(4,.v (.c (.os H.length 1 0 out.length))),(5,.int .i64 fr),(6,.int .i64 i)],H ++ [.row 1 (out.map srow)]⟩)
  (fun st=>namesOk P=true∧AtS [(4,.v (.c (.os H.length 1 0 P.length)))] (H ++ [.row 1 (P.map srow)]) st) ?_ ?_ ?_
 ·refine wk_pre [0] [0,4,5,6] hw rfl ⟨_,0,0,[],by omega,by omega,rfl,.inl ⟨by omega,?_,?_⟩,fun j hj=>by simp at hj,?_⟩
  ·rw [tl_ext2,List.drop_zero,Nat.sub_self,List.take_zero,hPs]; rfl
  ·rw [← tl_len,tl_ext2]; simp
  ·simp [phi,O.ren,C.ren]
 ·rintro J L hJ hL k st ⟨i,fr,out,hi,hfi,rfl,hinv,hok,rfl⟩
  by_cases hlt:i≤s.size
  ·have hlt':(i:Int)≤(s.size:Int):=by omega
   have h1:(fr:Int)≤(i:Int):=by omega
   have h2:(0:Int)≤(fr:Int):=by omega
   have h3:=hfi
   rcases hinv with ⟨_,hpm,hns⟩ | ⟨hbad,_⟩
   ·obtain ⟨w,hwd⟩:∃ w,w=s.extract fr i:=⟨_,rfl⟩
    have hwe:s.extract fr i=w:=hwd.symm
    rw [hwe] at hpm
    by_cases hl:i<s.size
    ·have hl':(i:Int)<(s.size:Int):=by omega
     have hil:i<(tl s).length:=by rw [tl_len]; exact hl
     obtain ⟨c,hc⟩:∃ c,c=(tl s)[i]'hil:=⟨_,rfl⟩
     have hcd:s.data[i]?.getD 0=c:=by rw [hc,Array.getElem?_eq_getElem (by exact hl)]; rfl
     have hdr:(tl s).drop i=c :: (tl s).drop (i+1):=by rw [List.drop_eq_getElem_cons hil,hc]
     rw [hdr] at hpm
     by_cases hcm:c=44
     ·have hcn:c.toNat=44:=by rw [hcm]; rfl
      have hspl:splC (tl w) (c :: (tl s).drop (i+1))=tl w :: splC [] ((tl s).drop (i+1)):=by rw [splC,if_pos hcm]
      rw [hspl] at hpm
      obtain ⟨Y,hPe,hY⟩:=map_pre hpm
      have hinv':∀ o,o=out ++ [w]→InvP P (tl s) (i+1) o (s.extract (i+1) (i+1)):=fun o ho=>by
       subst ho
       refine .inl ⟨by rw [tl_len]; omega,?_,by rw [← tl_len,tl_ext2]; simp⟩
       rw [tl_ext2,Nat.sub_self,List.take_zero,hPe,List.map_append,List.map_append,List.map_cons,List.map_cons,List.map_nil,hY]
       simp
      have hls:out.length<P.length:=by rw [hPe]; simp
      have hws:w.size<4611686018427387904:=by
       have hwm:w∈P:=by rw [hPe]; simp
       rw [hP] at hwm
       have:=part_le hwm
       omega
      have g2:=xg526 w hws
      have hmid:okN P out.length=(authB w && (decide (out.length=0) || strLt (nth out (out.length-1)) w)):=by rw [hPe]; exact okN_mid
      have bad:okN P out.length=false→namesOk P=false:=fun h=>decide_eq_false fun q=>by rw [q _ hls] at h; cases h
      obtain ⟨au,hau⟩:∃ b,b=authB w:=⟨_,rfl⟩
      rw [← hau] at g2 hmid
      have good:okN P out.length=true→(∀ j,j<(out ++ [w]).length→okN P j=true):=fun h j hj=>by
       rw [List.length_append,List.length_singleton] at hj
       by_cases q:j=out.length
       ·rw [q]; exact h
       ·exact hok j (by omega)
      cases au
      ·rw [bad (by rw [hmid]; rfl)]
       simp (implicitDefEqProofs:=false) (disch:=omega) [gz,hlt,hlt',hl,hl',hcd,hcn,hwe,wrap64,h1,h2,h3,s1,g2,binSF,fillR,Nat.add_assoc]
       repeat' (with_reducible apply And.intro)
       all_goals first | omega | kernel_rfl | skip
       exact fin_pre_pvs hw (by simp [toPVs,toPV]; rfl) (by simp [frzVs,frz,frz1]; rfl) ⟨rfl,rfl⟩
      ·by_cases c2:out.length=0
       ·have ho:out=[]:=List.length_eq_zero_iff.1 c2
        have hg:=good (by rw [hmid,decide_eq_true c2]; rfl)
        subst ho
        simp (implicitDefEqProofs:=false) (disch:=omega) [gz,hlt,hlt',hl,hl',hcd,hcn,hwe,wrap64,h1,h2,h3,s1,g2,binSF,fillR,elems,maxLen47,Nat.add_assoc]
        repeat' (with_reducible apply And.intro)
        all_goals first | omega | kernel_rfl | skip
        subst hJ
        refine wk_pre [2] [0,4,5,6] hw rfl ⟨s.size+1-(i+1),by omega,i+1,i+1,[w],by omega,by omega,rfl,hinv' [w] rfl,hg,?_⟩
        simp [phi,O.ren,C.ren,srow]
       ·have hp0:(0:Int)<(out.length:Int):=by omega
        have hp0n:0<out.length:=by omega
        have hl1:(out.length:Int)-1=((out.length-1:Nat):Int):=by omega
        have hl2:out.length-1<out.length:=by omega
        obtain ⟨y,hy⟩:∃ y,nth out (out.length-1)=y:=⟨_,rfl⟩
        rw [hy,decide_eq_false c2,Bool.false_or] at hmid
        have tC:(out.map srow).take out.length=out.map srow:=List.take_of_length_le (by simp)
        obtain ⟨lt,hlt2⟩:∃ b,b=strLt y w:=⟨_,rfl⟩
        rw [← hlt2] at hmid
        cases lt
        ·rw [bad (by rw [hmid]; rfl)]
         simp (implicitDefEqProofs:=false) (disch:=omega) [gz,hlt,hlt',hl,hl',hcd,hcn,hwe,wrap64,h1,h2,h3,s1,g2,hp0,hp0n,hl1,hl2,c2,nth_map,hy,← hlt2,srow,tC,binSF,fillR,Nat.add_assoc]
         repeat' (with_reducible apply And.intro)
         all_goals first | omega | kernel_rfl | skip
         exact fin_pre_pvs hw (by simp [toPVs,toPV]; rfl) (by simp [frzVs,frz,frz1]; rfl) ⟨rfl,rfl⟩
        ·have hg:=good (by rw [hmid]; rfl)
         simp (implicitDefEqProofs:=false) (disch:=omega) [gz,hlt,hlt',hl,hl',hcd,hcn,hwe,wrap64,h1,h2,h3,s1,g2,hp0,hp0n,hl1,hl2,c2,nth_map,hy,← hlt2,srow,tC,binSF,fillR,elems,maxLen47,Nat.add_assoc]
         repeat' (with_reducible apply And.intro)
         all_goals first | omega | kernel_rfl | skip
         subst hJ
         refine wk_pre [2] [0,4,5,6] hw rfl ⟨s.size+1-(i+1),by omega,i+1,i+1,out ++ [w],by omega,by omega,rfl,hinv' (out ++ [w]) rfl,hg,?_⟩
         simp [phi,O.ren,C.ren,srow]
     ·have hcn:¬ c.toNat=44:=fun q=>hcm (UInt8.toNat_inj.1 q)
      have hcn':¬ (c.toNat:Int)=44:=by omega
      have hspl:splC (tl w) (c :: (tl s).drop (i+1))=splC (tl w ++ [c]) ((tl s).drop (i+1)):=by rw [splC,if_neg hcm]
      have hsn:tl (s.extract fr (i+1))=tl w ++ [c]:=by
       rw [hwd]
       exact tl_ext_snoc hfi (by rw [List.getElem?_eq_getElem hil,hc])
      simp (implicitDefEqProofs:=false) (disch:=omega) [gz,hlt,hlt',hl,hl',hcd,hcn,hcn',wrap64]
      subst hJ
      refine wk_pre [0] [0,4,5,6] hw rfl ⟨s.size+1-(i+1),by omega,i+1,fr,out,by omega,by omega,rfl,.inl ⟨by rw [tl_len]; omega,?_,?_⟩,hok,?_⟩
      ·rw [hsn,← hspl]; exact hpm
      ·rw [← tl_len,tl_ext2]; simp; omega
      ·simp [phi,O.ren,C.ren]
    ·have hie:i=s.size:=by omega
     have hl':¬ (i:Int)<(s.size:Int):=by omega
     have hdr:(tl s).drop i=[]:=List.drop_eq_nil_of_le (by rw [tl_len]; omega)
     rw [hdr] at hpm
     have hspl:splC (tl w) []=tl w :: []:=rfl
     rw [hspl] at hpm
     obtain ⟨Y,hPe,hY⟩:=map_pre hpm
     have hY0:Y=[]:=List.map_eq_nil_iff.1 hY
     have hinv':∀ o,o=out ++ [w]→InvP P (tl s) (i+1) o (s.extract (i+1) (i+1)):=fun o ho=>by
      subst ho
      exact .inr ⟨by rw [tl_len]; omega,by rw [hPe,hY0],by rw [← tl_len,tl_ext2]; simp⟩
     have hls:out.length<P.length:=by rw [hPe]; simp
     have hws:w.size<4611686018427387904:=by
      have hwm:w∈P:=by rw [hPe]; simp
      rw [hP] at hwm
      have:=part_le hwm
      omega
     have g2:=xg526 w hws
     have hmid:okN P out.length=(authB w && (decide (out.length=0) || strLt (nth out (out.length-1)) w)):=by rw [hPe]; exact okN_mid
     have bad:okN P out.length=false→namesOk P=false:=fun h=>decide_eq_false fun q=>by rw [q _ hls] at h; cases h
     obtain ⟨au,hau⟩:∃ b,b=authB w:=⟨_,rfl⟩
     rw [← hau] at g2 hmid
     have good:okN P out.length=true→(∀ j,j<(out ++ [w]).length→okN P j=true):=fun h j hj=>by
      rw [List.length_append,List.length_singleton] at hj
      by_cases q:j=out.length
      ·rw [q]; exact h
      ·exact hok j (by omega)
     cases au
     ·rw [bad (by rw [hmid]; rfl)]
      simp (implicitDefEqProofs:=false) (disch:=omega) [gz,hlt,hlt',hl,hl',hwe,wrap64,h1,h2,h3,s1,g2,binSF,fillR,Nat.add_assoc]
      repeat' (with_reducible apply And.intro)
      all_goals first | omega | kernel_rfl | skip
      exact fin_pre_pvs hw (by simp [toPVs,toPV]; rfl) (by simp [frzVs,frz,frz1]; rfl) ⟨rfl,rfl⟩
     ·by_cases c2:out.length=0
      ·have ho:out=[]:=List.length_eq_zero_iff.1 c2
       have hg:=good (by rw [hmid,decide_eq_true c2]; rfl)
       subst ho
       simp (implicitDefEqProofs:=false) (disch:=omega) [gz,hlt,hlt',hl,hl',hwe,wrap64,h1,h2,h3,s1,g2,binSF,fillR,elems,maxLen47,Nat.add_assoc]
       repeat' (with_reducible apply And.intro)
       all_goals first | omega | kernel_rfl | skip
       subst hJ
       refine wk_pre [2] [0,4,5,6] hw rfl ⟨s.size+1-(i+1),by omega,i+1,i+1,[w],by omega,by omega,rfl,hinv' [w] rfl,hg,?_⟩
       simp [phi,O.ren,C.ren,srow]
      ·have hp0:(0:Int)<(out.length:Int):=by omega
       have hp0n:0<out.length:=by omega
       have hl1:(out.length:Int)-1=((out.length-1:Nat):Int):=by omega
       have hl2:out.length-1<out.length:=by omega
       obtain ⟨y,hy⟩:∃ y,nth out (out.length-1)=y:=⟨_,rfl⟩
       rw [hy,decide_eq_false c2,Bool.false_or] at hmid
       have tC:(out.map srow).take out.length=out.map srow:=List.take_of_length_le (by simp)
       obtain ⟨lt,hlt2⟩:∃ b,b=strLt y w:=⟨_,rfl⟩
       rw [← hlt2] at hmid
       cases lt
       ·rw [bad (by rw [hmid]; rfl)]
        simp (implicitDefEqProofs:=false) (disch:=omega) [gz,hlt,hlt',hl,hl',hwe,wrap64,h1,h2,h3,s1,g2,hp0,hp0n,hl1,hl2,c2,nth_map,hy,← hlt2,srow,tC,binSF,fillR,Nat.add_assoc]
        repeat' (with_reducible apply And.intro)
        all_goals first | omega | kernel_rfl | skip
        exact fin_pre_pvs hw (by simp [toPVs,toPV]; rfl) (by simp [frzVs,frz,frz1]; rfl) ⟨rfl,rfl⟩
       ·have hg:=good (by rw [hmid]; rfl)
        simp (implicitDefEqProofs:=false) (disch:=omega) [gz,hlt,hlt',hl,hl',hwe,wrap64,h1,h2,h3,s1,g2,hp0,hp0n,hl1,hl2,c2,nth_map,hy,← hlt2,srow,tC,binSF,fillR,elems,maxLen47,Nat.add_assoc]
        repeat' (with_reducible apply And.intro)
        all_goals first | omega | kernel_rfl | skip
        subst hJ
        refine wk_pre [2] [0,4,5,6] hw rfl ⟨s.size+1-(i+1),by omega,i+1,i+1,out ++ [w],by omega,by omega,rfl,hinv' (out ++ [w]) rfl,hg,?_⟩
        simp [phi,O.ren,C.ren,srow]
   ·rw [tl_len] at hbad; omega
  ·have hie:i=s.size+1:=by omega
   have hlt':¬ (i:Int)≤(s.size:Int):=by omega
   have hPo:P=out:=by
    rcases hinv with ⟨h1,_⟩ | ⟨_,h2,_⟩
    ·rw [tl_len] at h1; omega
    ·exact h2
   subst hPo
   simp (implicitDefEqProofs:=false) (disch:=omega) [gz,hlt,hlt']
   subst hL
   exact ⟨decide_eq_true hok,at_mk (by simp) rfl⟩
 ·rintro _ ⟨hok,sl,rfl⟩
  rw [hok]
  simp (implicitDefEqProofs:=false) (disch:=omega) [gz,b1092_4,b1092_5]
  have tC:(P.map srow).take P.length=P.map srow:=List.take_of_length_le (by simp)
  exact fin_pre_pvs hw (by simp [toPVs,toPV,tC]; rfl) (by simp [frzVs,frz,frz1]; rfl) ⟨rfl,rfl⟩
noncomputable def x1092:XE:=mkX false (fun (s:ByteArray)=>[.c (.v (.string s))]) (fun s=>s.size<4294967281) (fun s=>namesT (parts s comma))
theorem kx1092:Contract Tryz.prog G0 92 x1092:=mkX_data fun s h H=>k1092 s h H
theorem xg1092 (s:ByteArray) (h:s.size<4294967281):x1092.g [.c (.v (.string s))]=some (True,namesT (parts s comma)):=mkX_g inj1s s h
theorem oth_names (author who:ByteArray):othB author who=(namesOk (parts who comma) && decide (∀ j,j<(parts who comma).length→¬ nth (parts who comma) j=author)):=by
 obtain ⟨P,hP⟩:∃ P,P=parts who comma:=⟨_,rfl⟩
 unfold othB namesOk
 rw [← hP]
 apply bool_ext
 simp only [Bool.and_eq_true,decide_eq_true_eq]
 constructor
 ·intro h
  refine ⟨fun j hj=>?_,fun j hj e=>?_⟩
  ·have:=h j hj
   unfold badO at this
   unfold okN
   simp only [Bool.or_eq_false_iff,Bool.and_eq_false_iff,Bool.not_eq_false',decide_eq_false_iff_not] at this
   obtain ⟨⟨q1,q2⟩,q3⟩:=this
   rw [q1,Bool.true_and]
   rcases q3 with q3 | q3
   ·have:j=0:=by omega
    subst this; rfl
   ·rw [q3]; simp
  ·have:=h j hj
   unfold badO at this
   rw [decide_eq_true e] at this
   simp at this
 ·rintro ⟨h1,h2⟩ j hj
  have q1:=h1 j hj
  have q2:=h2 j hj
  unfold okN at q1
  unfold badO
  simp only [Bool.and_eq_true,Bool.or_eq_true,decide_eq_true_eq] at q1
  rw [q1.1,decide_eq_false q2]
  rcases q1.2 with q | q
  ·subst q; rfl
  ·rw [q]; simp
theorem k1079 (author who:ByteArray) (h:who.size<4294967281):ACalls Tryz.prog G0 79 [Sx author,Sx who] [] fun t H=>t = .bool (othB author who)∧H=[]:=by
 have s1:x1092.sc=false:=rfl
 have g1:=xg1092 who h
 have hPl:=parts_le who
 rw [oth_names]
 refine acallsX (X:=[(92,x1092)]) ⟨kx1092,trivial⟩ tab hmix Tryz.func79 c1079 (by rfl) fun hw=>?_
 obtain ⟨P,hP⟩:∃ P,P=parts who comma:=⟨_,rfl⟩
 rw [← hP] at g1 hPl ⊢
 cases hok:namesOk P
 ·rw [show namesT P = .tup [.c (.d (.sl [])),.c (.d (.v (.bool false)))] from by unfold namesT; rw [if_neg (by rw [hok]; simp)]] at g1
  simp (implicitDefEqProofs:=false) (disch:=omega) [gz,ir1079,b1079,s1,g1,toPVs,frzVs,osVs,toPV]
  refine loopE (fun k st=>st=⟨ofL [(6,.bool false),(14,.int .i64 0),(15,.int .i64 0)],[]⟩) (fun st=>AtS [(6,.bool false)] [] st) ?_ ?_ ?_
  ·refine wk_keep [6,14,15] ⟨0,?_⟩
   simp
  ·rintro J L hJ hL k st rfl
   simp (implicitDefEqProofs:=false) (disch:=omega) [gz,wrap64]
   subst hL
   exact at_mk (by simp) rfl
  ·rintro _ ⟨sl,rfl⟩
   simp (implicitDefEqProofs:=false) (disch:=omega) [gz,wrap64]
   exact fin_nil ⟨rfl,rfl⟩
 ·rw [show namesT P = .tup [.c (.d (.sl (P.map srow))),.c (.d (.v (.bool true)))] from by unfold namesT; rw [if_pos hok]] at g1
  rw [Bool.true_and]
  obtain ⟨R,hR⟩:∃ R,R=decide (∀ j,j<P.length→¬ nth P j=author):=⟨_,rfl⟩
  rw [← hR]
  simp (implicitDefEqProofs:=false) (disch:=omega) [gz,ir1079,b1079,s1,g1,toPVs,frzVs,osVs,toPV]
  refine loopE (fun k st=>∃ i,i≤P.length∧k=P.length-i∧(∀ j,j<i→¬ nth P j=author) ∧
    st=⟨ofL [(0,.v (.c (.d (.v (.string author))))),(5,.v (.c (.d (.sl (P.map srow))))),(6,.bool true),(14,.int .i64 P.length),(15,.int .i64 i)],[]⟩)
   (fun st=>(∀ j,j<P.length→¬ nth P j=author)∧AtS [(6,.bool true)] [] st) ?_ ?_ ?_
  ·refine wk_keep [0,5,6,14,15] ⟨_,0,by omega,rfl,fun j hj=>by omega,?_⟩
   simp
  ·rintro J L hJ hL k st ⟨i,hi,rfl,hb,rfl⟩
   by_cases hlt:i<P.length
   ·obtain ⟨x,hx⟩:∃ x,nth P i=x:=⟨_,rfl⟩
    by_cases c:x=author
    ·have:R=false:=by rw [hR]; exact decide_eq_false fun q=>q i hlt (by rw [hx]; exact c)
     rw [this]
     simp (implicitDefEqProofs:=false) (disch:=omega) [gz,hlt,wrap64,nth_map,hx,srow,c,binSF]
     exact fin_nil ⟨rfl,rfl⟩
    ·simp (implicitDefEqProofs:=false) (disch:=omega) [gz,hlt,wrap64,nth_map,hx,srow,c,binSF]
     subst hJ
     refine wk_keep [0,5,6,14,15] ⟨P.length-(i+1),by omega,i+1,by omega,rfl,fun j hj=>?_,?_⟩
     ·by_cases q:j=i
      ·subst q; rw [hx]; exact c
      ·exact hb j (by omega)
     ·simp
   ·have:i=P.length:=by omega
    subst this
    simp (implicitDefEqProofs:=false) (disch:=omega) [gz,hlt]
    subst hL
    exact ⟨hb,at_mk (by simp) rfl⟩
  ·rintro _ ⟨hb,sl,rfl⟩
   rw [hR,decide_eq_true hb]
   simp (implicitDefEqProofs:=false) (disch:=omega) [gz,wrap64]
   exact fin_nil ⟨rfl,rfl⟩
noncomputable def x1079:XE:=mkX true (fun (p:ByteArray×ByteArray)=>[.c (.v (.string p.1)),.c (.v (.string p.2))]) (fun p=>p.2.size<4294967281) (fun p=>.bool (othB p.1 p.2))
theorem kx1079:Contract Tryz.prog G0 79 x1079:=mkX_scal (fun _=>rfl) fun p h=>k1079 p.1 p.2 h
theorem xg1079 (a w:ByteArray) (h:w.size<4294967281):x1079.g [.c (.v (.string a)),.c (.v (.string w))]=some (True,.bool (othB a w)):=mkX_g inj2s (a,w) h
def restB (e:Edit):Bool :=
 if e.kind=1 then zI e.node && (zS e.field && (zI e.target && zS e.who))
 else if e.kind=2 then zS e.field && (zS e.value && (zI e.target && zS e.who))
 else if e.kind=3 then zI e.parent && (zP (plc e) && (zI e.target && zS e.who))
 else if e.kind=4 then zI e.node && (zI e.parent && (zP (plc e) && (zS e.field && (zS e.value && zS e.who))))
 else if e.kind=5 then zI e.node && (zI e.parent && (zP (plc e) && (zS e.field && (zS e.value && zI e.target))))
 else zI e.node && (zI e.parent && (zP (plc e) && (zS e.field && (zS e.value && (zI e.target && zS e.who)))))
noncomputable def hasB (e:Edit):Bool :=
 if e.kind=1 then parI e.parent && (plcB (plc e) && wordB e.value)
 else if e.kind=2 then validI e.node && ((parI e.parent || (decide (e.parent.a=⟨#[45]⟩) && decide (e.parent.n=0))) && plcB (plc e))
 else if e.kind=3 then validI e.node && wordB e.field
 else if e.kind=4 then validI e.target && (decide (e.target.a=e.id.a) && decide (e.target.n<e.id.n))
 else if e.kind=5 then othB e.id.a e.who
 else true
theorem car_split (e:Edit):carB e=(restB e && hasB e):=by
 unfold carB restB hasB
 apply bool_ext
 repeat' split
 all_goals first | (simp only [Bool.and_eq_true,and_true]; done) | (simp only [Bool.and_eq_true,and_true]; grind) | grind
theorem k1054 (e:Edit):ACalls Tryz.prog G0 54 [.agg (e.row.map .d)] [] fun t H=>t = .bool (restB e)∧H=[]:=by
 have hee:=Edit.row_eq e
 refine acallsX (X:=[]) trivial tab hmix Tryz.func54 c1054 (by rfl) fun hw=>?_
 unfold restB
 by_cases q1:e.kind=1
 ·rw [if_pos q1]
  simp (implicitDefEqProofs:=false) (disch:=omega) [gz,ir1054,b1054,b1054_0,b1054_1,b1054_2,b1054_3,b1054_4,b1054_5,b1054_6,hee,q1,fillC,splice,cellsEq,skEq,binSF]
  repeat' (first | (with_reducible apply And.intro) | intro _)
  all_goals first | kernel_rfl | (refine fin_nil ⟨tb ?_,rfl⟩; simp [zI,zS,zP,plc]; try grind)
 ·skip
  by_cases q2:e.kind=2
  ·rw [if_neg q1,if_pos q2]
   clear q1
   simp (implicitDefEqProofs:=false) (disch:=omega) [gz,ir1054,b1054,b1054_0,b1054_1,b1054_2,b1054_3,b1054_4,b1054_5,b1054_6,hee,q2,fillC,splice,cellsEq,skEq,binSF]
   repeat' (first | (with_reducible apply And.intro) | intro _)
   all_goals first | kernel_rfl | (refine fin_nil ⟨tb ?_,rfl⟩; simp [zI,zS,zP,plc]; try grind)
  ·skip
   by_cases q3:e.kind=3
   ·rw [if_neg q1,if_neg q2,if_pos q3]
    clear q1 q2
    simp (implicitDefEqProofs:=false) (disch:=omega) [gz,ir1054,b1054,b1054_0,b1054_1,b1054_2,b1054_3,b1054_4,b1054_5,b1054_6,hee,q3,fillC,splice,cellsEq,skEq,binSF]
    repeat' (first | (with_reducible apply And.intro) | intro _)
    all_goals first | kernel_rfl | (refine fin_nil ⟨tb ?_,rfl⟩; simp [zI,zS,zP,plc]; try grind)
   ·skip
    by_cases q4:e.kind=4
    ·rw [if_neg q1,if_neg q2,if_neg q3,if_pos q4]
     clear q1 q2 q3
     simp (implicitDefEqProofs:=false) (disch:=omega) [gz,ir1054,b1054,b1054_0,b1054_1,b1054_2,b1054_3,b1054_4,b1054_5,b1054_6,hee,q4,fillC,splice,cellsEq,skEq,binSF]
     repeat' (first | (with_reducible apply And.intro) | intro _)
     all_goals first | kernel_rfl | (refine fin_nil ⟨tb ?_,rfl⟩; simp [zI,zS,zP,plc]; try grind)
    ·skip
     by_cases q5:e.kind=5
     ·rw [if_neg q1,if_neg q2,if_neg q3,if_neg q4,if_pos q5]
      clear q1 q2 q3 q4
      simp (implicitDefEqProofs:=false) (disch:=omega) [gz,ir1054,b1054,b1054_0,b1054_1,b1054_2,b1054_3,b1054_4,b1054_5,b1054_6,hee,q5,fillC,splice,cellsEq,skEq,binSF]
      repeat' (first | (with_reducible apply And.intro) | intro _)
      all_goals first | kernel_rfl | (refine fin_nil ⟨tb ?_,rfl⟩; simp [zI,zS,zP,plc]; try grind)
     ·skip
      rw [if_neg q1,if_neg q2,if_neg q3,if_neg q4,if_neg q5]
      simp (implicitDefEqProofs:=false) (disch:=omega) [gz,ir1054,b1054,b1054_0,b1054_1,b1054_2,b1054_3,b1054_4,b1054_5,b1054_6,hee,q1,q2,q3,q4,q5,fillC,splice,cellsEq,skEq,binSF]
      repeat' (first | (with_reducible apply And.intro) | intro _)
      all_goals first | kernel_rfl | (refine fin_nil ⟨tb ?_,rfl⟩; simp [zI,zS,zP,plc]; try grind)
noncomputable def x1054:XE:=mkX true (fun (e:Edit)=>[.agg e.row]) (fun _=>True) (fun e=>.bool (restB e))
theorem kx1054:Contract Tryz.prog G0 54 x1054:=mkX_scal (fun _=>rfl) fun e _=>k1054 e
theorem xg1054 (e:Edit):x1054.g [.agg e.row]=some (True,.bool (restB e)):=mkX_g injE1 e trivial
theorem k1055 (e:Edit) (h:OkE e):ACalls Tryz.prog G0 55 [.agg (e.row.map .d)] [] fun t H=>t = .bool (hasB e)∧H=[]:=by
 have s1:x1075.sc=true:=rfl
 have s2:x1076.sc=true:=rfl
 have s3:x1077.sc=true:=rfl
 have s4:x1078.sc=true:=rfl
 have s5:x1079.sc=true:=rfl
 have g1n:=xg1075 e.node h.node
 have g1p:=xg1075 e.parent h.parent
 have g1t:=xg1075 e.target h.target
 have g2:x1076.g [.agg [.v (.bool e.neg),.v (.string e.num),.v (.string e.den)]]=some (True,.bool (plcB (plc e))):=xg1076 (plc e) h.num h.den
 have g3v:=xg1077 e.value h.value
 have g3f:=xg1077 e.field h.field
 have g4:=xg1078
 have g5:=xg1079 e.id.a e.who h.who
 have hee:=Edit.row_eq e
 rw [show e.parent.row=[.v (.string e.parent.a),.v (.int .i64 e.parent.n)] from rfl] at g1p
 rw [show e.node.row=[.v (.string e.node.a),.v (.int .i64 e.node.n)] from rfl] at g1n
 rw [show e.target.row=[.v (.string e.target.a),.v (.int .i64 e.target.n)] from rfl] at g1t
 unfold hasB parI
 obtain ⟨pp,hpp⟩:∃ p,p=validI e.parent:=⟨_,rfl⟩
 obtain ⟨pl,hpl⟩:∃ p,p=plcB (plc e):=⟨_,rfl⟩
 obtain ⟨wv,hwv⟩:∃ p,p=wordB e.value:=⟨_,rfl⟩
 obtain ⟨pn,hpn⟩:∃ p,p=validI e.node:=⟨_,rfl⟩
 obtain ⟨wf,hwf⟩:∃ p,p=wordB e.field:=⟨_,rfl⟩
 obtain ⟨pt,hpt⟩:∃ p,p=validI e.target:=⟨_,rfl⟩
 obtain ⟨ov,hov⟩:∃ p,p=othB e.id.a e.who:=⟨_,rfl⟩
 rw [← hpp] at g1p ⊢
 rw [← hpl] at g2 ⊢
 rw [← hwv] at g3v ⊢
 rw [← hpn] at g1n ⊢
 rw [← hwf] at g3f ⊢
 rw [← hpt] at g1t ⊢
 rw [← hov] at g5 ⊢
 clear hpp hpl hwv hpn hwf hpt hov
 refine acallsX (X:=[(75,x1075),(76,x1076),(77,x1077),(78,x1078),(79,x1079)]) ⟨kx1075,kx1076,kx1077,kx1078,kx1079,trivial⟩ tab hmix Tryz.func55 c1055 (by rfl) fun hw=>?_
 by_cases q1:e.kind=1
 ·rw [if_pos q1]
  cases pp <;> cases pl <;> cases wv
  all_goals (
   simp (implicitDefEqProofs:=false) (disch:=omega) [gz,ir1055,b1055,b1055_0,b1055_1,b1055_2,b1055_3,b1055_4,hee,q1,s1,s2,s3,s4,s5,g1n,g1p,g1t,g2,g3v,g3f,g4,g5,fillC,splice,cellsEq,skEq,binSF]
   repeat' (first | (with_reducible apply And.intro) | intro _)
   all_goals first | kernel_rfl | (refine fin_nil ⟨tb ?_,rfl⟩; simp [zI,zS,zP,plc]; try grind))
 ·skip
  by_cases q2:e.kind=2
  ·rw [if_neg q1,if_pos q2]
   clear q1
   cases pn <;> cases pp <;> cases pl
   all_goals (
    simp (implicitDefEqProofs:=false) (disch:=omega) [gz,ir1055,b1055,b1055_0,b1055_1,b1055_2,b1055_3,b1055_4,hee,q2,s1,s2,s3,s4,s5,g1n,g1p,g1t,g2,g3v,g3f,g4,g5,fillC,splice,cellsEq,skEq,binSF]
    repeat' (first | (with_reducible apply And.intro) | intro _)
    all_goals first | kernel_rfl | (refine fin_nil ⟨tb ?_,rfl⟩; simp [zI,zS,zP,plc]; try grind))
  ·skip
   by_cases q3:e.kind=3
   ·rw [if_neg q1,if_neg q2,if_pos q3]
    clear q1 q2
    cases pn <;> cases wf
    all_goals (
     simp (implicitDefEqProofs:=false) (disch:=omega) [gz,ir1055,b1055,b1055_0,b1055_1,b1055_2,b1055_3,b1055_4,hee,q3,s1,s2,s3,s4,s5,g1n,g1p,g1t,g2,g3v,g3f,g4,g5,fillC,splice,cellsEq,skEq,binSF]
     repeat' (first | (with_reducible apply And.intro) | intro _)
     all_goals first | kernel_rfl | (refine fin_nil ⟨tb ?_,rfl⟩; simp [zI,zS,zP,plc]; try grind))
   ·skip
    by_cases q4:e.kind=4
    ·rw [if_neg q1,if_neg q2,if_neg q3,if_pos q4]
     clear q1 q2 q3
     cases pt
     all_goals (
      simp (implicitDefEqProofs:=false) (disch:=omega) [gz,ir1055,b1055,b1055_0,b1055_1,b1055_2,b1055_3,b1055_4,hee,q4,s1,s2,s3,s4,s5,g1n,g1p,g1t,g2,g3v,g3f,g4,g5,fillC,splice,cellsEq,skEq,binSF]
      repeat' (first | (with_reducible apply And.intro) | intro _)
      all_goals first | kernel_rfl | (refine fin_nil ⟨tb ?_,rfl⟩; simp [zI,zS,zP,plc]; try grind))
    ·skip
     by_cases q5:e.kind=5
     ·rw [if_neg q1,if_neg q2,if_neg q3,if_neg q4,if_pos q5]
      clear q1 q2 q3 q4
      cases ov
      all_goals (
       simp (implicitDefEqProofs:=false) (disch:=omega) [gz,ir1055,b1055,b1055_0,b1055_1,b1055_2,b1055_3,b1055_4,hee,q5,s1,s2,s3,s4,s5,g1n,g1p,g1t,g2,g3v,g3f,g4,g5,fillC,splice,cellsEq,skEq,binSF]
       repeat' (first | (with_reducible apply And.intro) | intro _)
       all_goals first | kernel_rfl | (refine fin_nil ⟨tb ?_,rfl⟩; simp [zI,zS,zP,plc]; try grind))
     ·skip
      rw [if_neg q1,if_neg q2,if_neg q3,if_neg q4,if_neg q5]
      simp (implicitDefEqProofs:=false) (disch:=omega) [gz,ir1055,b1055,b1055_0,b1055_1,b1055_2,b1055_3,b1055_4,hee,q1,q2,q3,q4,q5,s1,s2,s3,s4,s5,g1n,g1p,g1t,g2,g3v,g3f,g4,g5,fillC,splice,cellsEq,skEq,binSF]
      repeat' (first | (with_reducible apply And.intro) | intro _)
      all_goals first | kernel_rfl | (refine fin_nil ⟨tb ?_,rfl⟩; simp [zI,zS,zP,plc]; try grind)
noncomputable def x1055:XE:=mkX true (fun (e:Edit)=>[.agg e.row]) OkE (fun e=>.bool (hasB e))
theorem kx1055:Contract Tryz.prog G0 55 x1055:=mkX_scal (fun _=>rfl) fun e h=>k1055 e h
theorem xg1055 (e:Edit) (h:OkE e):x1055.g [.agg e.row]=some (True,.bool (hasB e)):=mkX_g injE1 e h
theorem k1025 (e:Edit) (h:OkE e):ACalls Tryz.prog G0 25 [.agg (e.row.map .d)] [] fun t H=>t = .int .i64 (chkE e)∧H=[]:=by
 have s1:x526.sc=true:=rfl
 have s3:x528.sc=true:=rfl
 have s4:x1053.sc=true:=rfl
 have s5:x1054.sc=true:=rfl
 have s6:x1055.sc=true:=rfl
 have hdl:=h.dl
 have g1:=xg526 e.id.a h.id
 have g3:=xg528 e.deps (by omega) h.ds
 have g4:=xg1053 e.deps e.id.a (by omega)
 have g5:=xg1054 e
 have g6:=xg1055 e h
 have hee:=Edit.row_eq e
 rw [hee] at g5 g6
 refine acallsX (X:=[(52,x526),(27,x528),(53,x1053),(54,x1054),(55,x1055)]) ⟨kx526,kx528,kx1053,kx1054,kx1055,trivial⟩ tab hmix Tryz.func25 c1025 (by rfl) fun hw=>?_
 obtain ⟨R,hR⟩:∃ R,R=chkE e:=⟨_,rfl⟩
 have hR2:=hR
 unfold chkE at hR2
 rw [← hR]
 obtain ⟨p1,hp1⟩:∃ p,p=authB e.id.a:=⟨_,rfl⟩
 rw [← hp1] at g1 hR2
 cases p1
 ·rw [hR2]
  simp (implicitDefEqProofs:=false) (disch:=omega) [gz,ir1025,b1025,b1025_0,b1025_1,hee,s1,g1]
  exact fin_nil ⟨rfl,rfl⟩
 ·rw [if_neg (by simp)] at hR2
  have hrng:rngB e=((decide (e.id.n<1) || decide (1000000000<e.id.n)) || (decide (e.clock<e.id.n) || (decide (1000000000<e.clock) || (decide (e.floor<0) || decide (e.clock≤e.floor))))):=by
   unfold rngB validI
   rw [← hp1]
   apply bool_ext
   simp only [Bool.or_eq_true,Bool.not_eq_true',Bool.and_eq_false_iff,Bool.true_and,decide_eq_true_eq,decide_eq_false_iff_not]
   omega
  by_cases r1:e.id.n<1
  ·rw [if_pos (by rw [hrng]; simp [r1])] at hR2
   rw [hR2]
   simp (implicitDefEqProofs:=false) (disch:=omega) [gz,ir1025,b1025,b1025_0,b1025_1,b1025_2,hee,s1,g1,r1]
   exact fin_nil ⟨rfl,rfl⟩
  ·skip
   by_cases r2:1000000000<e.id.n
   ·rw [if_pos (by rw [hrng]; simp [r1,r2])] at hR2
    rw [hR2]
    simp (implicitDefEqProofs:=false) (disch:=omega) [gz,ir1025,b1025,b1025_0,b1025_1,b1025_2,hee,s1,g1,r1,r2]
    exact fin_nil ⟨rfl,rfl⟩
   ·skip
    by_cases r3:e.clock<e.id.n
    ·rw [if_pos (by rw [hrng]; simp [r1,r2,r3])] at hR2
     rw [hR2]
     simp (implicitDefEqProofs:=false) (disch:=omega) [gz,ir1025,b1025,b1025_0,b1025_1,b1025_2,hee,s1,g1,r1,r2,r3]
     exact fin_nil ⟨rfl,rfl⟩
    ·skip
     by_cases r4:1000000000<e.clock
     ·rw [if_pos (by rw [hrng]; simp [r1,r2,r3,r4])] at hR2
      rw [hR2]
      simp (implicitDefEqProofs:=false) (disch:=omega) [gz,ir1025,b1025,b1025_0,b1025_1,b1025_2,hee,s1,g1,r1,r2,r3,r4]
      exact fin_nil ⟨rfl,rfl⟩
     ·skip
      by_cases r5:e.floor<0
      ·rw [if_pos (by rw [hrng]; simp [r1,r2,r3,r4,r5])] at hR2
       rw [hR2]
       simp (implicitDefEqProofs:=false) (disch:=omega) [gz,ir1025,b1025,b1025_0,b1025_1,b1025_2,hee,s1,g1,r1,r2,r3,r4,r5]
       exact fin_nil ⟨rfl,rfl⟩
      ·skip
       by_cases r6:e.clock≤e.floor
       ·rw [if_pos (by rw [hrng]; simp [r1,r2,r3,r4,r5,r6])] at hR2
        rw [hR2]
        simp (implicitDefEqProofs:=false) (disch:=omega) [gz,ir1025,b1025,b1025_0,b1025_1,b1025_2,hee,s1,g1,r1,r2,r3,r4,r5,r6]
        exact fin_nil ⟨rfl,rfl⟩
       ·skip
        rw [if_neg (by rw [hrng]; simp [r1,r2,r3,r4,r5,r6])] at hR2
        have r1':1≤e.id.n:=by omega
        have r6':e.floor<e.clock:=by omega
        obtain ⟨f,hf⟩:∃ f,f=chkV e.deps 0 e.deps.length:=⟨_,rfl⟩
        rw [← hf] at hR2 g3
        by_cases c5:f=0
        ·rw [if_neg (by simp [c5])] at hR2
         rw [c5] at g3
         simp (implicitDefEqProofs:=false) (disch:=omega) [gz,ir1025,b1025,b1025_0,b1025_1,b1025_2,b1025_3,b1025_4,b1025_5,hee,s1,g1,r1,r2,r3,r4,r5,r6,s3,g3,wrap64]
         refine loopE (fun k st=>∃ i,i≤e.deps.length∧k=e.deps.length-i∧(∀ j,j<i→¬ 1000000000<(nth e.deps j).n) ∧
           st=⟨ofL [(1,.v (.c (.ptr 0 0))),(53,.int .i64 e.deps.length),(54,.int .i64 i)],[.cells (e.row.map .d)]⟩)
          (fun st=>farB e.deps=false∧AtS [(1,.v (.c (.ptr 0 0)))] [.cells (e.row.map .d)] st) ?_ ?_ ?_
         ·refine wk_nil [0] [1,53,54] rfl ⟨_,0,by omega,rfl,fun j hj=>by omega,?_⟩
          simp [phi,O.ren,hee,C.ren]
         ·rintro J L hJ hL k st ⟨i,hi,rfl,hb,rfl⟩
          by_cases hlt:i<e.deps.length
          ·obtain ⟨x,hx⟩:∃ x,nth e.deps i=x:=⟨_,rfl⟩
           have hxr:x.row=[.v (.string x.a),.v (.int .i64 x.n)]:=rfl
           by_cases c6:1000000000<x.n
           ·have hfar:farB e.deps=true:=by
             unfold farB
             rw [List.any_eq_true]
             exact ⟨x,by rw [← hx]; exact nth_mem hlt,by simp [c6]⟩
            rw [if_pos hfar] at hR2
            rw [hR2]
            simp (implicitDefEqProofs:=false) (disch:=omega) [gz,hlt,nth_map,hx,hxr,hee,c6,wrap64]
            exact fin_nil ⟨rfl,rfl⟩
           ·simp (implicitDefEqProofs:=false) (disch:=omega) [gz,hlt,nth_map,hx,hxr,hee,c6,wrap64]
            subst hJ
            refine wk_nil [0] [1,53,54] rfl ⟨e.deps.length-(i+1),by omega,i+1,by omega,rfl,fun j hj=>?_,?_⟩
            ·by_cases q:j=i
             ·subst q; rw [hx]; exact c6
             ·exact hb j (by omega)
            ·simp [phi,O.ren,hee,C.ren]
          ·have:i=e.deps.length:=by omega
           subst this
           simp (implicitDefEqProofs:=false) (disch:=omega) [gz,hlt]
           subst hL
           refine ⟨?_,at_mk (by simp) rfl⟩
           unfold farB
           rw [List.any_eq_false]
           intro x hx
           obtain ⟨j,hj,rfl⟩:=List.mem_iff_getElem.1 hx
           have:=hb j hj
           rw [nth_eq hj] at this
           simpa using this
         ·rintro _ ⟨hfar,sl,rfl⟩
          rw [if_neg (by rw [hfar]; simp)] at hR2
          obtain ⟨own,how⟩:∃ o,o=hasN e.deps e.id.a:=⟨_,rfl⟩
          rw [← how] at hR2 g4
          by_cases d1:own=e.id.n-1
          ·rw [if_neg (by simp [d1])] at hR2
           rw [d1] at g4
           by_cases d2:e.kind<1
           ·rw [if_pos (.inl d2)] at hR2
            rw [hR2]
            simp (implicitDefEqProofs:=false) (disch:=omega) [gz,b1025_6,b1025_7,hee,s4,g4,d2,wrap64]
            repeat' (with_reducible apply And.intro)
            all_goals first | omega | kernel_rfl | skip
            exact fin_nil ⟨rfl,rfl⟩
           ·by_cases d3:6<e.kind
            ·rw [if_pos (.inr d3)] at hR2
             rw [hR2]
             simp (implicitDefEqProofs:=false) (disch:=omega) [gz,b1025_6,b1025_7,hee,s4,g4,d2,d3,wrap64]
             repeat' (with_reducible apply And.intro)
             all_goals first | omega | kernel_rfl | skip
             exact fin_nil ⟨rfl,rfl⟩
            ·rw [if_neg (by omega),car_split] at hR2
             obtain ⟨rb,hrb⟩:∃ c,c=restB e:=⟨_,rfl⟩
             obtain ⟨hb2,hhb⟩:∃ c,c=hasB e:=⟨_,rfl⟩
             rw [← hrb] at hR2 g5
             rw [← hhb] at hR2 g6
             by_cases d4:e.kind=3
             ·rw [d4] at g5 g6
              by_cases d5:2000<(e.value.size:Int)
              ·rw [if_pos ⟨d4,d5⟩] at hR2
               rw [hR2]
               simp (implicitDefEqProofs:=false) (disch:=omega) [gz,b1025_6,b1025_7,b1025_8,hee,s4,g4,d4,d5,wrap64]
               repeat' (with_reducible apply And.intro)
               all_goals first | omega | kernel_rfl | skip
               exact fin_nil ⟨rfl,rfl⟩
              ·rw [if_neg (fun q=>d5 q.2)] at hR2
               cases rb <;> cases hb2
               all_goals (
                rw [hR2]
                simp (implicitDefEqProofs:=false) (disch:=omega) [gz,b1025_6,b1025_7,b1025_8,b1025_9,b1025_10,b1025_11,hee,s4,g4,s5,g5,s6,g6,d4,d5,wrap64]
                repeat' (with_reducible apply And.intro)
                all_goals first | omega | kernel_rfl | exact fin_nil ⟨rfl,rfl⟩)
             ·rw [if_neg (fun q=>d4 q.1)] at hR2
              cases rb <;> cases hb2
              all_goals (
               rw [hR2]
               simp (implicitDefEqProofs:=false) (disch:=omega) [gz,b1025_6,b1025_7,b1025_8,b1025_9,b1025_10,b1025_11,hee,s4,g4,s5,g5,s6,g6,d2,d3,d4,wrap64]
               repeat' (with_reducible apply And.intro)
               all_goals first | omega | kernel_rfl | exact fin_nil ⟨rfl,rfl⟩)
          ·rw [if_pos d1] at hR2
           rw [hR2]
           simp (implicitDefEqProofs:=false) (disch:=omega) [gz,b1025_6,hee,s4,g4,d1,wrap64]
           repeat' (with_reducible apply And.intro)
           all_goals first | omega | kernel_rfl | skip
           exact fin_nil ⟨rfl,rfl⟩
        ·rw [if_pos c5] at hR2
         rw [hR2]
         simp (implicitDefEqProofs:=false) (disch:=omega) [gz,ir1025,b1025,b1025_0,b1025_1,b1025_2,b1025_3,b1025_4,b1025_5,hee,s1,g1,r1,r2,r3,r4,r5,r6,s3,g3,c5]
         exact fin_nil ⟨rfl,rfl⟩
noncomputable def x1025:XE:=mkX true (fun (e:Edit)=>[.agg e.row]) OkE (fun e=>.int .i64 (chkE e))
theorem kx1025:Contract Tryz.prog G0 25 x1025:=mkX_scal (fun _=>rfl) fun e h=>k1025 e h
theorem xg1025 (e:Edit) (h:OkE e):x1025.g [.agg e.row]=some (True,.int .i64 (chkE e)):=mkX_g injE1 e h
theorem k1041 (v d:List Id) (h1:v.length<4611686018427387904) (h2:d.length<4611686018427387904):ACalls Tryz.prog G0 41 [.c (.d (.sl (v.map Id.row))),.c (.d (.sl (d.map Id.row)))] [] fun t H=>t = .bool (covB v d)∧H=[]:=by
 have s1:x622.sc=true:=rfl
 refine acallsX (X:=[(26,x622)]) ⟨kx622,trivial⟩ tab hmix Tryz.func41 c1041 (by rfl) fun hw=>?_
 simp (implicitDefEqProofs:=false) (disch:=omega) [gz,ir1041,b1041,wrap64]
 refine loopE (fun k st=>∃ i,i≤d.length∧k=d.length-i∧covB v d=covB v (d.drop i) ∧
   st=⟨ofL [(0,.v (.c (.d (.sl (v.map Id.row))))),(1,.v (.c (.d (.sl (d.map Id.row))))),(5,.int .i64 i)],[]⟩)
  (fun st=>covB v d=true∧AtS [] [] st) ?_ ?_ ?_
 ·refine wk_nil [] [0,1,5] rfl ⟨_,0,by omega,rfl,rfl,?_⟩
  simp
 ·rintro J L hJ hL k st ⟨i,hi,rfl,hb,rfl⟩
  by_cases hlt:i<d.length
  ·obtain ⟨x,hx⟩:∃ x,nth d i=x:=⟨_,rfl⟩
   have hxr:x.row=[.v (.string x.a),.v (.int .i64 x.n)]:=rfl
   have hd:d.drop i=x :: d.drop (i+1):=by rw [List.drop_eq_getElem_cons hlt,← nth_eq hlt,hx]
   have g1:=xg622 v x h1
   rw [hxr] at g1
   have hb2:covB v d=(conI v x && covB v (d.drop (i+1))):=by rw [hb,hd]; rfl
   obtain ⟨c,hc⟩:∃ c,c=conI v x:=⟨_,rfl⟩
   rw [← hc] at g1 hb2
   cases c
   ·rw [hb2]
    simp (implicitDefEqProofs:=false) (disch:=omega) [gz,hlt,wrap64,nth_map,hx,hxr,splice,fillC,s1,g1]
    exact fin_nil ⟨rfl,rfl⟩
   ·rw [Bool.true_and] at hb2
    simp (implicitDefEqProofs:=false) (disch:=omega) [gz,hlt,wrap64,nth_map,hx,hxr,splice,fillC,s1,g1]
    subst hJ
    refine wk_nil [] [0,1,5] rfl ⟨d.length-(i+1),by omega,i+1,by omega,rfl,hb2,?_⟩
    simp
  ·have:i=d.length:=by omega
   subst this
   simp (implicitDefEqProofs:=false) (disch:=omega) [gz,hlt]
   subst hL
   exact ⟨by rw [hb,List.drop_length]; rfl,at_mk (by simp) rfl⟩
 ·rintro _ ⟨hb,sl,rfl⟩
  rw [hb]
  simp (implicitDefEqProofs:=false) (disch:=omega) [gz,wrap64]
  exact fin_nil ⟨rfl,rfl⟩
noncomputable def x1041:XE:=mkX true (fun (p:List Id×List Id)=>[.c (.sl (p.1.map Id.row)),.c (.sl (p.2.map Id.row))]) (fun p=>p.1.length<4611686018427387904∧p.2.length<4611686018427387904) (fun p=>.bool (covB p.1 p.2))
theorem kx1041:Contract Tryz.prog G0 41 x1041:=mkX_scal (fun _=>rfl) fun p h=>k1041 p.1 p.2 h.1 h.2
theorem xg1041 (a b:List Id) (h:a.length<4611686018427387904) (h2:b.length<4611686018427387904):x1041.g [.c (.sl (a.map Id.row)),.c (.sl (b.map Id.row))]=some (True,.bool (covB a b)):=mkX_g (fun a b h=>by
 simp only [List.cons.injEq,PVo.c.injEq,D.sl.injEq] at h
 exact Prod.ext (ids_inj h.1) (ids_inj h.2.1)) (a,b) ⟨h,h2⟩
def stA (s:Id×List Id×Bool) (y:Id):Id×List Id×Bool :=
 if y.a=s.1.a then (if s.1.n<y.n then y else s.1,s.2.1,s.2.2)
 else if (!(strLt y.a s.1.a || decide (y.a=s.1.a)) && !s.2.2)=true then (s.1,s.2.1 ++ [s.1,y],true) else (s.1,s.2.1 ++ [y],s.2.2)
def fiA (s:Id×List Id×Bool):List Id:=if s.2.2=true then s.2.1 else s.2.1 ++ [s.1]
theorem gt_str {x y:Id} (h:cmpS x.a y.a<0):y.a≠x.a∧strLt y.a x.a=false:=by
 have hne:y.a≠x.a:=fun e=>by rw [e,(cmpS_eq _ _).2 rfl] at h; omega
 refine ⟨hne,?_⟩
 rw [strLt_eq,decide_eq_false_iff_not]
 intro q
 have:=cmpS_trans h q
 rw [(cmpS_eq _ _).2 rfl] at this; omega
theorem foldA_laid (x:Id):∀ (w out:List Id),(∀ y∈w,cmpS x.a y.a<0)→w.foldl stA (x,out,true)=(x,out ++ w,true)
 | [],out,_=>by simp
 | y :: w,out,h=>by
  obtain ⟨q1,q2⟩:=gt_str (h y (List.mem_cons_self ..))
  have e:stA (x,out,true) y=(x,out ++ [y],true):=by
   unfold stA
   rw [if_neg q1,if_neg (by simp)]
  rw [List.foldl_cons,e,foldA_laid x w _ fun z hz=>h z (List.mem_cons_of_mem _ hz)]
  simp
theorem foldA_gt (x:Id):∀ (w out:List Id),(∀ y∈w,cmpS x.a y.a<0)→fiA (w.foldl stA (x,out,false))=out ++ x :: w
 | [],out,_=>by simp [fiA]
 | y :: w,out,h=>by
  obtain ⟨q1,q2⟩:=gt_str (h y (List.mem_cons_self ..))
  have e:stA (x,out,false) y=(x,out ++ [x,y],true):=by
   unfold stA
   rw [if_neg q1,if_pos (by simp [q1,q2])]
  rw [List.foldl_cons,e,foldA_laid x w _ fun z hz=>h z (List.mem_cons_of_mem _ hz)]
  simp [fiA]
theorem addI_cons_lt {y x:Id} {w:List Id} (h:cmpS y.a x.a<0):addI (y :: w) x=y :: addI w x:=by
 unfold addI
 have e1:lowB (y :: w) x.a=lowB w x.a+1:=by rw [lowB_cons,if_pos h]
 have e2:nth (y :: w) (lowB w x.a+1)=nth w (lowB w x.a):=rfl
 rw [e1,e2]
 by_cases c:lowB w x.a<w.length∧(nth w (lowB w x.a)).a=x.a
 ·rw [if_pos c,if_pos ⟨by simp only [List.length_cons]; omega,c.2⟩]; rfl
 ·rw [if_neg c,if_neg (fun q=>c ⟨by have:=q.1; simp only [List.length_cons] at this; omega,q.2⟩)]; rfl
theorem foldA_add:∀ (w out:List Id) (x:Id),AscI w→fiA (w.foldl stA (x,out,false))=out ++ addI w x
 | [],out,x,_=>by simp [fiA,addI,lowB,insAt]
 | y :: w,out,x,h=>by
  obtain ⟨h1,h2⟩:=List.pairwise_cons.1 h
  rw [List.foldl_cons]
  by_cases c1:y.a=x.a
  ·have e0:cmpS y.a x.a=0:=(cmpS_eq _ _).2 c1
   have e:stA (x,out,false) y=(if x.n<y.n then y else x,out,false):=by
    unfold stA
    rw [if_pos c1]
   obtain ⟨x',hx'⟩:∃ x',x'=if x.n<y.n then y else x:=⟨_,rfl⟩
   have hxa:x'.a=y.a:=by rw [hx']; split <;> simp [c1]
   rw [e,← hx',foldA_gt x' w out fun z hz=>by rw [hxa]; exact h1 z hz]
   have hlow:lowB (y :: w) x.a=0:=by rw [lowB_cons,if_neg (by omega)]
   unfold addI
   rw [hlow,if_pos ⟨by simp,c1⟩]
   have hn0:nth (y :: w) 0=y:=rfl
   rw [hn0]
   have:x'=⟨y.a,if y.n<x.n then x.n else y.n⟩:=by
    rw [hx']
    split
    ·rename_i q; rw [if_neg (by omega)]
    ·rename_i q
     split
     ·cases x; simp only at c1; simp [c1]
     ·have:x.n=y.n:=by omega
      cases x; cases y; simp only at c1 this; simp [c1,this]
   rw [this]; simp
  ·by_cases c2:cmpS y.a x.a<0
   ·have hs:strLt y.a x.a=true:=by rw [strLt_eq]; exact decide_eq_true c2
    have e:stA (x,out,false) y=(x,out ++ [y],false):=by
     unfold stA
     rw [if_neg c1,if_neg (by simp [hs])]
    rw [e,foldA_add w _ x h2,addI_cons_lt c2]
    simp
   ·have hgt:=cmp_total c2 c1
    have hw:∀ z∈y :: w,cmpS x.a z.a<0:=fun z hz=>by
     rcases List.mem_cons.1 hz with rfl | hz
     ·exact hgt
     ·exact cmpS_trans hgt (h1 z hz)
    have:=foldA_gt x (y :: w) out hw
    rw [List.foldl_cons] at this
    rw [this]
    unfold addI
    have hlow:lowB (y :: w) x.a=0:=by rw [lowB_cons,if_neg c2]
    rw [hlow,if_neg (fun q=>c1 q.2)]
    simp [insAt]
theorem stA_len (s:Id×List Id×Bool) (y:Id):(stA s y).2.1.length≤s.2.1.length+2:=by
 unfold stA
 split
 ·show s.2.1.length≤_; omega
 ·split
  ·show (s.2.1 ++ [s.1,y]).length≤_; simp
  ·show (s.2.1 ++ [y]).length≤_; simp
theorem foldA_len:∀ (w:List Id) (s:Id×List Id×Bool),(w.foldl stA s).2.1.length≤s.2.1.length+2*w.length
 | [],s=>by simp
 | y :: w,s=>by
  have h1:=stA_len s y
  have h2:=foldA_len w (stA s y)
  rw [List.foldl_cons,List.length_cons]; omega
theorem k1069 (v:List Id) (x:Id) (ha:AscI v) (hl:v.length<268435456) (H:List O):ACalls Tryz.prog G0 69 [.c (.d (.sl (v.map Id.row))),.agg (x.row.map .d)] H (Own H 2 ((addI v x).map Id.row)):=by
 have hxr0:x.row=[.v (.string x.a),.v (.int .i64 x.n)]:=rfl
 refine acallsX (X:=[]) trivial tab hmix Tryz.func69 c1069 (by rfl) fun hw=>?_
 simp (implicitDefEqProofs:=false) (disch:=omega) [gz,ir1069,b1069,b1069_0,b1069_1,b1069_2,b1069_3,hxr0,wrap64,fillR]
 refine loopE (fun k st=>∃ (i:Nat) (z:Id) (out:List Id) (ld:Bool),i≤v.length∧k=v.length-i∧(v.take i).foldl stA (x,[],false)=(z,out,ld) ∧
   st=⟨ofL [(0,.v (.c (.d (.sl (v.map Id.row))))),(3,.v (.c (.ptr H.length 0))),(5,.v (.c (.os (H.length+1) 2 0 out.length))),(6,.bool ld),(7,.int .i64 i)],H ++ [.cells (z.row.map .d),.row 2 (out.map Id.row)]⟩)
  (fun st=>∃ (z:Id) (out:List Id) (ld:Bool),v.foldl stA (x,[],false)=(z,out,ld) ∧
   AtS [(3,.v (.c (.ptr H.length 0))),(5,.v (.c (.os (H.length+1) 2 0 out.length))),(6,.bool ld)] (H ++ [.cells (z.row.map .d),.row 2 (out.map Id.row)]) st) ?_ ?_ ?_
 ·refine wk_pre [0,1] [0,3,5,6,7] hw rfl ⟨_,0,x,[],false,by omega,rfl,rfl,?_⟩
  simp [phi,O.ren,C.ren,Id.row]
 ·rintro J L hJ hL k st ⟨i,z,out,ld,hi,rfl,hf,rfl⟩
  have hol:out.length≤2*i:=by
   have:=foldA_len (v.take i) (x,[],false)
   rw [hf,List.length_take] at this
   simp only [List.length_nil] at this
   omega
  have hzr:z.row=[.v (.string z.a),.v (.int .i64 z.n)]:=rfl
  by_cases hlt:i<v.length
  ·obtain ⟨y,hy⟩:∃ y,nth v i=y:=⟨_,rfl⟩
   have hyr:y.row=[.v (.string y.a),.v (.int .i64 y.n)]:=rfl
   have hf2:(v.take (i+1)).foldl stA (x,[],false)=stA (z,out,ld) y:=by
    rw [take_nth hlt,List.foldl_append,hf,hy]; rfl
   by_cases c1:y.a=z.a
   ·have e1:stA (z,out,ld) y=(if z.n<y.n then y else z,out,ld):=by
     unfold stA
     rw [if_pos c1]
    rw [e1] at hf2
    by_cases c2:z.n<y.n
    ·rw [if_pos c2] at hf2
     simp (implicitDefEqProofs:=false) (disch:=omega) [gz,hlt,wrap64,nth_map,hy,hyr,hzr,splice,fillC,binSF,c1,c2,Nat.add_assoc]
     repeat' (with_reducible apply And.intro)
     all_goals first | omega | kernel_rfl | exact fun _ _=>rfl | skip
     subst hJ
     refine wk_pre [0,1] [0,3,5,6,7] hw rfl ⟨v.length-(i+1),by omega,i+1,y,out,ld,by omega,rfl,hf2,?_⟩
     simp [phi,O.ren,C.ren,Id.row,c1]
    ·rw [if_neg c2] at hf2
     simp (implicitDefEqProofs:=false) (disch:=omega) [gz,hlt,wrap64,nth_map,hy,hyr,hzr,splice,fillC,binSF,c1,c2,Nat.add_assoc]
     repeat' (with_reducible apply And.intro)
     all_goals first | omega | kernel_rfl | exact fun _ _=>rfl | skip
     subst hJ
     refine wk_pre [0,1] [0,3,5,6,7] hw rfl ⟨v.length-(i+1),by omega,i+1,z,out,ld,by omega,rfl,hf2,?_⟩
     simp [phi,O.ren,C.ren,Id.row,c1]
   ·have tO:(out.map Id.row).take out.length=out.map Id.row:=List.take_of_length_le (by simp)
    obtain ⟨lt,hlt2⟩:∃ b,b=strLt y.a z.a:=⟨_,rfl⟩
    have e1:stA (z,out,ld) y=if (!lt && !ld)=true then (z,out ++ [z,y],true) else (z,out ++ [y],ld):=by
     unfold stA
     rw [if_neg c1,hlt2,decide_eq_false c1,Bool.or_false]
    rw [e1] at hf2
    cases lt
    ·cases ld
     ·rw [if_pos (by rfl)] at hf2
      simp (implicitDefEqProofs:=false) (disch:=omega) [gz,hlt,wrap64,nth_map,hy,hyr,hzr,splice,fillC,fillR,elems,maxLen47,tO,binSF,c1,← hlt2,Nat.add_assoc]
      repeat' (with_reducible apply And.intro)
      all_goals first | omega | kernel_rfl | exact fun _ _=>rfl | skip
      subst hJ
      refine wk_pre [0,5] [0,3,5,6,7] hw rfl ⟨v.length-(i+1),by omega,i+1,z,out ++ [z,y],true,by omega,rfl,hf2,?_⟩
      simp [phi,O.ren,C.ren,Id.row]
     ·rw [if_neg (by simp)] at hf2
      simp (implicitDefEqProofs:=false) (disch:=omega) [gz,hlt,wrap64,nth_map,hy,hyr,hzr,splice,fillC,fillR,elems,maxLen47,tO,binSF,c1,← hlt2,Nat.add_assoc]
      repeat' (with_reducible apply And.intro)
      all_goals first | omega | kernel_rfl | exact fun _ _=>rfl | skip
      subst hJ
      refine wk_pre [0,3] [0,3,5,6,7] hw rfl ⟨v.length-(i+1),by omega,i+1,z,out ++ [y],true,by omega,rfl,hf2,?_⟩
      simp [phi,O.ren,C.ren,Id.row]
    ·rw [if_neg (by simp)] at hf2
     simp (implicitDefEqProofs:=false) (disch:=omega) [gz,hlt,wrap64,nth_map,hy,hyr,hzr,splice,fillC,fillR,elems,maxLen47,tO,binSF,c1,← hlt2,Nat.add_assoc]
     repeat' (with_reducible apply And.intro)
     all_goals first | omega | kernel_rfl | exact fun _ _=>rfl | skip
     subst hJ
     refine wk_pre [0,3] [0,3,5,6,7] hw rfl ⟨v.length-(i+1),by omega,i+1,z,out ++ [y],ld,by omega,rfl,hf2,?_⟩
     simp [phi,O.ren,C.ren,Id.row]
  ·have:i=v.length:=by omega
   subst this
   rw [List.take_length] at hf
   simp (implicitDefEqProofs:=false) (disch:=omega) [gz,hlt,hzr]
   subst hL
   exact ⟨z,out,ld,hf,at_mk (by simp) rfl⟩
 ·rintro _ ⟨z,out,ld,hf,sl,rfl⟩
  have hzr:z.row=[.v (.string z.a),.v (.int .i64 z.n)]:=rfl
  have hr:=foldA_add v [] x ha
  rw [hf,List.nil_append] at hr
  have hol:out.length≤2*v.length:=by
   have:=foldA_len v (x,[],false)
   rw [hf] at this
   simp only [List.length_nil] at this
   omega
  have tO:(out.map Id.row).take out.length=out.map Id.row:=List.take_of_length_le (by simp)
  cases ld
  ·have hr2:out ++ [z]=addI v x:=by rw [← hr]; rfl
   simp (implicitDefEqProofs:=false) (disch:=omega) [gz,b1069_4,b1069_5,b1069_6,wrap64,hzr,splice,fillC,fillR,elems,maxLen47,tO,Nat.add_assoc]
   repeat' (with_reducible apply And.intro)
   all_goals first | omega | kernel_rfl | exact fun _ _=>rfl | skip
   rw [← hr2]
   refine fin_own (k:=3) hw ?_ (by simp)
   simp [Id.row]
  ·have hr2:out=addI v x:=by rw [← hr]; rfl
   simp (implicitDefEqProofs:=false) (disch:=omega) [gz,b1069_4,b1069_5,b1069_6,wrap64,hzr,splice,fillC,fillR,elems,maxLen47,tO,Nat.add_assoc]
   rw [← hr2]
   refine fin_own (k:=1) hw ?_ (by simp)
   simp
noncomputable def x1069:XE:=mkX false (fun (p:List Id×Id)=>[.c (.sl (p.1.map Id.row)),.agg p.2.row]) (fun p=>AscI p.1∧p.1.length<268435456) (fun p=>.v (.c (.d (.sl ((addI p.1 p.2).map Id.row)))))
theorem kx1069:Contract Tryz.prog G0 69 x1069:=mkX_data fun p h H=>own_data (k1069 p.1 p.2 h.1 h.2 H)
theorem xg1069 (v:List Id) (x:Id) (ha:AscI v) (h:v.length<268435456):x1069.g [.c (.sl (v.map Id.row)),.agg x.row]=some (True,.v (.c (.d (.sl ((addI v x).map Id.row))))):=mkX_g injVI (v,x) ⟨ha,h⟩
theorem k1047 (a b:List Id) (ha:AscI a) (hl:a.length+b.length<268435456) (H:List O):ACalls Tryz.prog G0 47 [.c (.d (.sl (a.map Id.row))),.c (.d (.sl (b.map Id.row)))] H fun t H'=>t = .v (.c (.d (.sl ((mergeI a b).map Id.row))))∧H'=H:=by
 have s2:x1069.sc=false:=rfl
 refine acallsX (X:=[(69,x1069)]) ⟨kx1069,trivial⟩ tab hmix Tryz.func47 c1047 (by rfl) fun hw=>?_
 simp (implicitDefEqProofs:=false) (disch:=omega) [gz,ir1047,b1047,wrap64,toPVs,frzVs,osVs,toPV,fillR,elems,maxLen47]
 have tA:(a.map Id.row).take a.length=a.map Id.row:=List.take_of_length_le (by simp)
 refine ⟨⟨by omega,fun _ _=>rfl⟩,?_⟩
 refine loopE (fun k st=>∃ i,i≤b.length∧k=b.length-i ∧
   st=⟨ofL [(1,.v (.c (.d (.sl (b.map Id.row))))),(5,.v (.c (.d (.sl ((mergeI a (b.take i)).map Id.row))))),(6,.int .i64 i)],H⟩)
  (fun st=>AtS [(5,.v (.c (.d (.sl ((mergeI a b).map Id.row)))))] H st) ?_ ?_ ?_
 ·refine wk_tell 5 (u:=.c (.os (H.length+1) 2 0 a.length)) (p:=.c (.sl (a.map Id.row))) (by simp) (by simp [toPV,tA]) ?_
  rw [show frz (H ++ [O.dead,O.row 2 (a.map Id.row)]) (V.cells (.c (.os (H.length+1) 2 0 a.length)))=H ++ [O.dead,.frow 2 (a.map Id.row)] from by simp [frz,frz1,V.cells]]
  refine wk_pre [] [1,5,6] hw rfl ⟨_,0,by omega,rfl,?_⟩
  simp [mergeI,PV.toV]
 ·rintro J L hJ hL k st ⟨i,hi,rfl,rfl⟩
  by_cases hlt:i<b.length
  ·obtain ⟨x,hx⟩:∃ x,nth b i=x:=⟨_,rfl⟩
   have hxr:x.row=[.v (.string x.a),.v (.int .i64 x.n)]:=rfl
   have hst:mergeI a (b.take (i+1))=addI (mergeI a (b.take i)) x:=by
    unfold mergeI; rw [take_nth hlt,List.foldl_append,hx]; rfl
   have hm:=mergeI_len a (b.take i)
   rw [List.length_take] at hm
   have g2:=xg1069 (mergeI a (b.take i)) x (mergeI_asc ha _) (by omega)
   rw [← hst,hxr] at g2
   obtain ⟨m,hm2⟩:∃ m,m=mergeI a (b.take i):=⟨_,rfl⟩
   rw [← hm2] at g2 ⊢
   simp (implicitDefEqProofs:=false) (disch:=omega) [gz,hlt,wrap64,nth_map,hx,hxr,splice,fillC,s2,g2,toPVs,frzVs,osVs,toPV]
   subst hJ
   refine wk_keep [1,5,6] ⟨b.length-(i+1),by omega,i+1,by omega,rfl,?_⟩
   simp
  ·have:i=b.length:=by omega
   subst this
   rw [List.take_length]
   simp (implicitDefEqProofs:=false) (disch:=omega) [gz,hlt]
   subst hL
   exact at_mk (by simp) rfl
 ·rintro _ ⟨sl,rfl⟩
  simp (implicitDefEqProofs:=false) (disch:=omega) [gz,wrap64]
  exact fin_here (Nat.le_refl _) ⟨rfl,rfl⟩
noncomputable def x1047:XE:=mkX false (fun (p:List Id×List Id)=>[.c (.sl (p.1.map Id.row)),.c (.sl (p.2.map Id.row))]) (fun p=>AscI p.1∧p.1.length+p.2.length<268435456) (fun p=>.v (.c (.d (.sl ((mergeI p.1 p.2).map Id.row)))))
theorem kx1047:Contract Tryz.prog G0 47 x1047:=mkX_data fun p h H=>k1047 p.1 p.2 h.1 h.2 H
theorem xg1047 (a b:List Id) (ha:AscI a) (h:a.length+b.length<268435456):x1047.g [.c (.sl (a.map Id.row)),.c (.sl (b.map Id.row))]=some (True,.v (.c (.d (.sl ((mergeI a b).map Id.row))))):=mkX_g (fun a b h=>by
 simp only [List.cons.injEq,PVo.c.injEq,D.sl.injEq] at h
 exact Prod.ext (ids_inj h.1) (ids_inj h.2.1)) (a,b) ⟨ha,h⟩
theorem k1040 (l:List Edit) (x:Id) (hl:l.length<4611686018427387904):ACalls Tryz.prog G0 40 [.c (.d (.sl (l.map Edit.row))),.agg (x.row.map .d)] [] fun t H=>t = .int .i64 (idxF (fun e=>decide (e.id=x)) 0 l)∧H=[]:=by
 have hxr:x.row=[.v (.string x.a),.v (.int .i64 x.n)]:=rfl
 refine acallsX (X:=[]) trivial tab hmix Tryz.func40 c1040 (by rfl) fun hw=>?_
 simp (implicitDefEqProofs:=false) (disch:=omega) [gz,ir1040,b1040,wrap64,hxr]
 refine loopE (fun k st=>∃ i:Nat,i≤l.length∧k=l.length-i∧idxF (fun e=>decide (e.id=x)) 0 l=idxF (fun e=>decide (e.id=x)) i (l.drop i) ∧
   st=⟨ofL [(0,.v (.c (.d (.sl (l.map Edit.row))))),(3,.v (.c (.ptr 0 0))),(7,.int .i64 l.length),(8,.int .i64 i)],[.cells (x.row.map .d)]⟩)
  (fun st=>idxF (fun e=>decide (e.id=x)) 0 l = -1∧AtS [] [.cells (x.row.map .d)] st) ?_ ?_ ?_
 ·refine wk_nil [0] [0,3,7,8] rfl ⟨_,0,by omega,rfl,rfl,?_⟩
  simp [phi,O.ren,C.ren,Id.row]
 ·rintro J L hJ hL k st ⟨i,hi,rfl,hb,rfl⟩
  by_cases hlt:i<l.length
  ·obtain ⟨e,he⟩:∃ e,nth l i=e:=⟨_,rfl⟩
   have hee:=Edit.row_eq e
   rw [idxF_step _ hlt,he] at hb
   by_cases c1:e.id=x
   ·rw [decide_eq_true c1,if_pos rfl] at hb
    subst c1
    rw [hb]
    simp (implicitDefEqProofs:=false) (disch:=omega) [gz,hlt,wrap64,nth_map,he,hee,hxr,splice,fillC,cellsEq,skEq,binSF]
    repeat' (with_reducible apply And.intro)
    all_goals first | omega | kernel_rfl | exact fun _ _=>rfl | skip
    exact fin_nil ⟨rfl,rfl⟩
   ·rw [decide_eq_false c1,if_neg (by simp)] at hb
    have c2:¬ (e.id.a=x.a∧e.id.n=x.n):=fun ⟨q1,q2⟩=>c1 (by cases x; cases hid:e.id; rw [hid] at q1 q2; simp only at q1 q2; rw [q1,q2])
    by_cases q1:e.id.a=x.a
    ·have q2:¬ e.id.n=x.n:=fun q=>c2 ⟨q1,q⟩
     simp (implicitDefEqProofs:=false) (disch:=omega) [gz,hlt,wrap64,nth_map,he,hee,hxr,splice,fillC,cellsEq,skEq,binSF,q1,q2]
     repeat' (with_reducible apply And.intro)
     all_goals first | omega | kernel_rfl | exact fun _ _=>rfl | skip
     subst hJ
     refine wk_nil [0] [0,3,7,8] rfl ⟨l.length-(i+1),by omega,i+1,by omega,rfl,hb,?_⟩
     simp [phi,O.ren,C.ren,Id.row]
    ·skip
     simp (implicitDefEqProofs:=false) (disch:=omega) [gz,hlt,wrap64,nth_map,he,hee,hxr,splice,fillC,cellsEq,skEq,binSF,q1]
     repeat' (with_reducible apply And.intro)
     all_goals first | omega | kernel_rfl | exact fun _ _=>rfl | skip
     subst hJ
     refine wk_nil [0] [0,3,7,8] rfl ⟨l.length-(i+1),by omega,i+1,by omega,rfl,hb,?_⟩
     simp [phi,O.ren,C.ren,Id.row]
  ·have:i=l.length:=by omega
   subst this
   simp (implicitDefEqProofs:=false) (disch:=omega) [gz,hlt,hxr]
   subst hL
   exact ⟨by rw [hb,List.drop_length]; rfl,at_mk (by simp) rfl⟩
 ·rintro _ ⟨hb,sl,rfl⟩
  rw [hb]
  simp (implicitDefEqProofs:=false) (disch:=omega) [gz,wrap64]
  exact fin_nil ⟨rfl,rfl⟩
theorem injLI (a b:List Edit×Id) (h:[PVo.c (D.sl (a.1.map Edit.row)),PVo.agg a.2.row]=[PVo.c (.sl (b.1.map Edit.row)),.agg b.2.row]):a=b:=by
 simp only [List.cons.injEq,PVo.c.injEq,D.sl.injEq,PVo.agg.injEq] at h
 exact Prod.ext (rows_inj h.1) (injId1 _ _ (by rw [h.2.1]))
noncomputable def x1040:XE:=mkX true (fun (p:List Edit×Id)=>[.c (.sl (p.1.map Edit.row)),.agg p.2.row]) (fun p=>p.1.length<4611686018427387904) (fun p=>.int .i64 (idxF (fun e=>decide (e.id=p.2)) 0 p.1))
theorem kx1040:Contract Tryz.prog G0 40 x1040:=mkX_scal (fun _=>rfl) fun p h=>k1040 p.1 p.2 h
theorem xg1040 (l:List Edit) (x:Id) (h:l.length<4611686018427387904):x1040.g [.c (.sl (l.map Edit.row)),.agg x.row]=some (True,.int .i64 (idxF (fun e=>decide (e.id=x)) 0 l)):=mkX_g injLI (l,x) h
theorem filter_take {α:Type} [Inhabited α] (p:α→Bool) {l:List α} {i:Nat} (h:i<l.length):(l.take (i+1)).filter p=(l.take i).filter p ++ if p (nth l i)=true then [nth l i] else []:=by
 rw [take_nth h,List.filter_append]
 congr 1
 by_cases q:p (nth l i)=true
 ·rw [if_pos q]; simp [q]
 ·rw [if_neg q]; simp [q]
theorem k1016 (L:LogE) (h:AscI L.seen) (hsl:L.seen.length<1048576) (hp:L.pen.length≤65536) (hd:∀ p∈L.pen,p.deps.length≤1024) (H:List O) :
  ACalls Tryz.prog G0 16 [.agg ((logD L).map .d)] H fun t H'=>t = .v (.c (.d (.sl ((missL L).map Id.row))))∧H'=H:=by
 have s1:x1047.sc=false:=rfl
 have s2:x622.sc=true:=rfl
 have hall:=fun i=>allI_len (i:=i) 1024 hd
 refine acallsX (X:=[(47,x1047),(26,x622)]) ⟨kx1047,kx622,trivial⟩ tab hmix Tryz.func16 c1016 (by rfl) fun hw=>?_
 simp (implicitDefEqProofs:=false) (disch:=omega) [gz,ir1016,b1016,fillC,fillR,splice]
 refine loopE (fun k st=>∃ i,i≤L.pen.length∧k=L.pen.length-i ∧
   st=⟨ofL [(1,.v (.c (.ptr H.length 0))),(3,.v (.c (.d (.sl ((allI (L.pen.take i)).map Id.row))))),(10,.int .i64 L.pen.length),(11,.int .i64 i)],H ++ [.cells ((logD L).map .d)]⟩)
  (fun st=>AtS [(1,.v (.c (.ptr H.length 0))),(3,.v (.c (.d (.sl ((allI L.pen).map Id.row)))))] (H ++ [.cells ((logD L).map .d)]) st) ?_ ?_ ?_
 ·refine wk_tell 3 (u:=.c (.os (H.length+1) 2 0 0)) (p:=.c (.sl [])) (by simp) (by simp [toPV]) ?_
  rw [show frz (H ++ [O.cells [.d (.sl (L.del.map Edit.row)),.d (.sl (L.pen.map Edit.row)),.d (.sl (L.seen.map Id.row))],O.row 2 []]) (V.cells (.c (.os (H.length+1) 2 0 0)))=H ++ [O.cells [.d (.sl (L.del.map Edit.row)),.d (.sl (L.pen.map Edit.row)),.d (.sl (L.seen.map Id.row))],.frow 2 []] from by simp [frz,frz1,V.cells]]
  refine wk_pre [0] [1,3,10,11] hw rfl ⟨_,0,by omega,rfl,?_⟩
  simp [phi,O.ren,C.ren,allI,PV.toV]
 ·rintro J M hJ hM k st ⟨i,hi,rfl,rfl⟩
  by_cases hlt:i<L.pen.length
  ·obtain ⟨e,he⟩:∃ e,nth L.pen i=e:=⟨_,rfl⟩
   have hee:=Edit.row_eq e
   have hnext:=allI_take hlt
   rw [he] at hnext
   have hde:=hd _ (nth_mem hlt)
   rw [he] at hde
   have g1:=xg1047 (allI (L.pen.take i)) e.deps (allI_asc hi) (by have:=hall i hi; omega)
   rw [← hnext] at g1
   simp (implicitDefEqProofs:=false) (disch:=omega) [gz,hlt,nth_map,he,hee,s1,g1,fillC,splice,wrap64,toPVs,frzVs,osVs,toPV]
   subst hJ
   refine wk_pre [0] [1,3,10,11] hw rfl ⟨L.pen.length-(i+1),by omega,i+1,by omega,rfl,?_⟩
   simp [phi,O.ren,C.ren]
  ·have:i=L.pen.length:=by omega
   subst this
   simp (implicitDefEqProofs:=false) (disch:=omega) [gz,hlt]
   subst hM
   exact at_mk (by simp) rfl
 ·rintro _ ⟨sl,rfl⟩
  have hal:(allI L.pen).length<1073741824:=by
   have:=hall L.pen.length (by omega)
   rw [List.take_length] at this
   omega
  unfold missL
  obtain ⟨A,hA⟩:∃ A,A=allI L.pen:=⟨_,rfl⟩
  rw [← hA] at hal ⊢
  obtain ⟨pr,hpr⟩:∃ pr,pr=fun x=>!conI L.seen x:=⟨_,rfl⟩
  rw [← hpr]
  simp (implicitDefEqProofs:=false) (disch:=omega) [gz,wrap64,fillC,fillR,splice]
  refine loopE (fun k st=>∃ i,i≤A.length∧k=A.length-i ∧
    st=⟨ofL [(1,.v (.c (.ptr H.length 0))),(3,.v (.c (.d (.sl (A.map Id.row))))),(5,.v (.c (.os (H.length+1) 2 0 ((A.take i).filter pr).length))),(25,.int .i64 A.length),(26,.int .i64 i)],
     H ++ [.cells ((logD L).map .d),.row 2 (((A.take i).filter pr).map Id.row)]⟩)
   (fun st=>AtS [(5,.v (.c (.os (H.length+1) 2 0 (A.filter pr).length)))] (H ++ [.cells ((logD L).map .d),.row 2 ((A.filter pr).map Id.row)]) st) ?_ ?_ ?_
  ·refine wk_pre [0,1] [1,3,5,25,26] hw rfl ⟨_,0,by omega,rfl,?_⟩
   simp [phi,O.ren,C.ren]
  ·rintro J M hJ hM k st ⟨i,hi,rfl,rfl⟩
   by_cases hlt:i<A.length
   ·obtain ⟨x,hx⟩:∃ x,nth A i=x:=⟨_,rfl⟩
    have hxr:x.row=[.v (.string x.a),.v (.int .i64 x.n)]:=rfl
    have hnext:=filter_take pr hlt
    have hfl:((A.take i).filter pr).length≤i:=by
     have:=List.length_filter_le pr (A.take i)
     rw [List.length_take] at this; omega
    have hpx:pr x = !conI L.seen x:=by rw [hpr]
    rw [hx,hpx] at hnext
    have g2:=xg622 L.seen x (by omega)
    obtain ⟨F,hF⟩:∃ F,F=(A.take i).filter pr:=⟨_,rfl⟩
    rw [← hF] at hnext hfl ⊢
    have tF:(F.map Id.row).take F.length=F.map Id.row:=List.take_of_length_le (by simp)
    rw [hxr] at g2
    obtain ⟨c,hc⟩:∃ c,c=conI L.seen x:=⟨_,rfl⟩
    rw [← hc] at g2 hnext
    cases c
    ·rw [if_pos (by rfl)] at hnext
     simp (implicitDefEqProofs:=false) (disch:=omega) [gz,hlt,wrap64,nth_map,hx,hxr,splice,fillC,fillR,elems,maxLen47,tF,s2,g2,Nat.add_assoc]
     repeat' (with_reducible apply And.intro)
     all_goals first | omega | kernel_rfl | exact fun _ _=>rfl | skip
     subst hJ
     refine wk_pre [0,3] [1,3,5,25,26] hw rfl ⟨A.length-(i+1),by omega,i+1,by omega,rfl,?_⟩
     rw [hnext]
     simp [phi,O.ren,C.ren,Id.row]
    ·rw [if_neg (by simp),List.append_nil] at hnext
     simp (implicitDefEqProofs:=false) (disch:=omega) [gz,hlt,wrap64,nth_map,hx,hxr,splice,fillC,fillR,elems,maxLen47,tF,s2,g2,Nat.add_assoc]
     repeat' (with_reducible apply And.intro)
     all_goals first | omega | kernel_rfl | exact fun _ _=>rfl | skip
     subst hJ
     refine wk_pre [0,1] [1,3,5,25,26] hw rfl ⟨A.length-(i+1),by omega,i+1,by omega,rfl,?_⟩
     rw [hnext]
     simp [phi,O.ren,C.ren]
   ·have:i=A.length:=by omega
    subst this
    rw [List.take_length]
    simp (implicitDefEqProofs:=false) (disch:=omega) [gz,hlt]
    subst hM
    exact at_mk (by simp) rfl
  ·rintro _ ⟨sl,rfl⟩
   simp (implicitDefEqProofs:=false) (disch:=omega) [gz,wrap64]
   exact fin_tell (sz:=2) (rows:=(A.filter pr).map Id.row) hw (by omega) (by simp) (by simp) ⟨rfl,rfl⟩
noncomputable def x1016:XE:=mkX false (fun (L:LogE)=>[.agg (logD L)]) (fun L=>AscI L.seen∧L.seen.length<1048576∧L.pen.length≤65536∧∀ p∈L.pen,p.deps.length≤1024) (fun L=>.v (.c (.d (.sl ((missL L).map Id.row)))))
theorem kx1016:Contract Tryz.prog G0 16 x1016:=mkX_data fun L h H=>k1016 L h.1 h.2.1 h.2.2.1 h.2.2.2 H
theorem xg1016 (L:LogE) (h:AscI L.seen) (hsl:L.seen.length<1048576) (hp:L.pen.length≤65536) (hd:∀ p∈L.pen,p.deps.length≤1024):x1016.g [.agg (logD L)]=some (True,.v (.c (.d (.sl ((missL L).map Id.row))))) :=
 mkX_g (fun a b h=>by injection h with h _; injection h with h; exact logD_inj h) L ⟨h,hsl,hp,hd⟩
structure OkT (L:LogE):Prop where
 ds:L.del.length+L.pen.length<4194304
 ss:L.seen.length+L.pen.length<4194304
 asc:AscI L.seen
 pd:∀ p∈L.pen,p.deps.length<1073741824
noncomputable def x1043 (n:Nat):XE:=mkX false (fun (p:LogE×Edit)=>[.agg (logD p.1),.agg p.2.row]) (fun p=>OkT p.1∧p.1.pen.length<n) (fun p=>.v (.agg ((logD (runL p.1.pen.length p.1 p.2)).map .d)))
theorem xg1043 {n:Nat} (L:LogE) (e:Edit) (h:OkT L) (hn:L.pen.length<n):(x1043 n).g [.agg (logD L),.agg e.row]=some (True,.v (.agg ((logD (runL L.pen.length L e)).map .d))) :=
 mkX_g (fun a b h=>by
  injection h with h1 h2
  injection h1 with h1
  injection h2 with h2
  injection h2 with h2
  exact Prod.ext (logD_inj h1) (Edit.row_inj h2)) (L,e) ⟨h,hn⟩
theorem k1043 (n:Nat) (hc:Contract Tryz.prog G0 43 (x1043 n)) (L:LogE) (e:Edit) (h:OkT L) (hn:L.pen.length≤n) (H:List O):ACalls Tryz.prog G0 43 [.agg ((logD L).map .d),.agg (e.row.map .d)] H
  fun t H'=>t = .v (.agg ((logD (runL L.pen.length L e)).map .d))∧H'=H:=by
 have s1:x1069.sc=false:=rfl
 have s2:x1041.sc=true:=rfl
 have s3:(x1043 n).sc=false:=rfl
 obtain ⟨hds,hss,hasc,hpd⟩:=h
 have hee:=Edit.row_eq e
 have g1:=xg1069 L.seen e.id hasc (by omega)
 rw [show e.id.row=[.v (.string e.id.a),.v (.int .i64 e.id.n)] from rfl] at g1
 have hal:=addI_len L.seen e.id
 have haa:=addI_asc hasc e.id
 obtain ⟨R,hR⟩:∃ R,R=runL L.pen.length L e:=⟨_,rfl⟩
 rw [← hR]
 obtain ⟨S,hS⟩:∃ S,S=addI L.seen e.id:=⟨_,rfl⟩
 rw [← hS] at g1 hal haa
 have hnone:(∀ j,j<L.pen.length→covB S (nth L.pen j).deps=false)→R=⟨L.del ++ [e],L.pen,S⟩:=fun q=>by
  have q2:L.pen.findIdx? (fun p=>covB S p.deps)=none:=List.findIdx?_eq_none_iff.2 fun x hx=>by
   obtain ⟨j,hj,rfl⟩:=List.mem_iff_getElem.1 hx
   have:=q j hj
   rw [nth_eq hj] at this; exact this
  rw [hR,hS]
  cases hk:L.pen.length with
  | zero=>rfl
  | succ n =>
   unfold runL
   rw [← hS,q2]
 have hsome:∀ i,i<L.pen.length→(∀ j,j<i→covB S (nth L.pen j).deps=false)→covB S (nth L.pen i).deps=true→R=runL (L.pen.eraseIdx i).length ⟨L.del ++ [e],L.pen.eraseIdx i,S⟩ (nth L.pen i):=fun i hi q q1=>by
  have q2:L.pen.findIdx? (fun p=>covB S p.deps)=some i:=by
   rw [List.findIdx?_eq_some_iff_getElem]
   refine ⟨hi,by rw [← nth_eq hi]; exact q1,fun j hj=>?_⟩
   rw [← nth_eq (by omega),q j hj]; simp
  rw [hR,hS,List.length_eraseIdx_of_lt hi]
  obtain ⟨n,hn⟩:∃ n,L.pen.length=n+1:=⟨L.pen.length-1,by omega⟩
  rw [hn,Nat.add_sub_cancel]
  conv=>lhs; unfold runL
  rw [← hS,q2]
 have tkD:(L.del.map Edit.row).take L.del.length=L.del.map Edit.row:=List.take_of_length_le (by simp)
 have tkP:(L.pen.map Edit.row).take L.pen.length=L.pen.map Edit.row:=List.take_of_length_le (by simp)
 refine acallsX (X:=[(69,x1069),(41,x1041),(43,x1043 n)]) ⟨kx1069,kx1041,hc,trivial⟩ tab hmix Tryz.func43 c1043 (by rfl) fun hw=>?_
 simp (implicitDefEqProofs:=false) (disch:=omega) [gz,ir1043,b1043,b1043_0,b1043_1,b1043_2,b1043_3,hee,s1,g1,fillC,splice,fillR,wrap64,elems,maxLen47,Nat.add_assoc,toPVs,frzVs,osVs,toPV]
 repeat' (with_reducible apply And.intro)
 all_goals first | omega | kernel_rfl | exact fun _ _=>rfl | skip
 obtain ⟨zc,hzc⟩:∃ zc,zc=[C.d (.v (.slice none 0 0)),.d (.v (.slice none 0 0)),.d (.v (.slice none 0 0))]:=⟨_,rfl⟩
 have tkDe:((L.del ++ [e]).map Edit.row).take (L.del.length+1)=(L.del ++ [e]).map Edit.row:=List.take_of_length_le (by simp)
 obtain ⟨De,hDe⟩:∃ De,De=L.del ++ [e]:=⟨_,rfl⟩
 have hDel:De.length=L.del.length+1:=by rw [hDe]; simp
 rw [← hDe] at hsome hnone tkDe
 refine loopE (fun k st=>∃ i,i≤L.pen.length∧k=L.pen.length-i∧(∀ j,j<i→covB S (nth L.pen j).deps=false) ∧
   st=⟨ofL [(2,.v (.c (.ptr H.length 0))),(4,.v (.c (.ptr (H.length+1) 0))),(23,.int .i64 L.pen.length),(24,.int .i64 i)],
    H ++ [.cells [.os (H.length+2) 18 0 (L.del.length+1),.d (.sl (L.pen.map Edit.row)),.d (.sl (S.map Id.row))],.cells zc,.row 18 (De.map Edit.row)]⟩)
  (fun st=>(∀ j,j<L.pen.length→covB S (nth L.pen j).deps=false)∧AtS [(2,.v (.c (.ptr H.length 0))),(4,.v (.c (.ptr (H.length+1) 0)))]
   (H ++ [.cells [.os (H.length+2) 18 0 (L.del.length+1),.d (.sl (L.pen.map Edit.row)),.d (.sl (S.map Id.row))],.cells zc,.row 18 (De.map Edit.row)]) st) ?_ ?_ ?_
 ·refine wk_pre [0,2,6] [2,4,23,24] hw rfl ⟨_,0,by omega,rfl,fun j hj=>by omega,?_⟩
  simp [phi,O.ren,C.ren,hzc,hee,hDe]
 ·have hele:∀ k,k<L.pen.length→(L.pen.eraseIdx k).length=L.pen.length-1:=fun k hk=>List.length_eraseIdx_of_lt hk
  rintro J M hJ hM k st ⟨i,hi,rfl,hb,rfl⟩
  by_cases hlt:i<L.pen.length
  ·obtain ⟨f,hf⟩:∃ f,nth L.pen i=f:=⟨_,rfl⟩
   have hfe:=Edit.row_eq f
   have hfd:=hpd _ (nth_mem hlt)
   rw [hf] at hfd
   have g2:=xg1041 S f.deps (by omega) (by omega)
   have hsi:=hsome i hlt hb
   rw [hf] at hsi
   obtain ⟨c,hcv⟩:∃ c,c=covB S f.deps:=⟨_,rfl⟩
   rw [← hcv] at g2 hsi
   cases c
   ·simp (implicitDefEqProofs:=false) (disch:=omega) [gz,hlt,wrap64,nth_map,hf,hfe,splice,fillC,s2,g2,Nat.add_assoc]
    repeat' (with_reducible apply And.intro)
    all_goals first | omega | kernel_rfl | exact fun _ _=>rfl | skip
    subst hJ
    refine wk_pre [0,1,2] [2,4,23,24] hw rfl ⟨L.pen.length-(i+1),by omega,i+1,by omega,rfl,fun j hj=>?_,?_⟩
    ·by_cases q:j=i
     ·rw [q,hf]; exact hcv.symm
     ·exact hb j (by omega)
    ·simp [phi,O.ren,C.ren,hzc]
   ·have hRn:=hsi rfl
    have hel:=hele i hlt
    have hdr:L.pen.take i ++ L.pen.drop (i+1)=L.pen.eraseIdx i:=(List.eraseIdx_eq_take_drop_succ ..).symm
    have g3:=xg1043 (n:=n) ⟨De,L.pen.eraseIdx i,S⟩ f ⟨by simp only [hel,hDel]; omega,by simp only [hel]; omega,haa,fun p hp=>hpd p (List.mem_of_mem_eraseIdx hp)⟩ (by simp only [hel]; omega)
    rw [← hRn] at g3
    have e1:(L.pen.map Edit.row).take i ++ (L.pen.map Edit.row).drop (i+1)=(L.pen.eraseIdx i).map Edit.row:=by rw [← List.map_take,← List.map_drop,← List.map_append,hdr]
    have e2:((L.pen.map Edit.row).take i).length=i:=by simp; omega
    have hlt':(i:Int)<(L.pen.length:Int):=by omega
    have hle':(i:Int)≤(L.pen.length:Int):=by omega
    have hle1:(i:Int)+1≤(L.pen.length:Int):=by omega
    have hle2:i+1≤L.pen.length:=by omega
    have tkW:((L.pen.eraseIdx i).map Edit.row).take (L.pen.eraseIdx i).length=(L.pen.eraseIdx i).map Edit.row:=List.take_of_length_le (by simp)
    rw [hfe] at g3
    have hel2:i+(L.pen.length-(i+1))=(L.pen.eraseIdx i).length:=by omega
    have hr18:∀ y∈L.pen.map Edit.row,y.length=18:=fun y hy=>by
     obtain ⟨a,_,rfl⟩:=List.mem_map.1 hy
     rfl
    simp (implicitDefEqProofs:=false) (disch:=omega) [gz,hlt,hi,hlt',hle',hle1,hle2,wrap64,nth_map,hf,hfe,splice,fillC,fillR,elems,maxLen47,s2,g2,s3,g3,e1,e2,tkP,tkDe,tkW,hzc,hel2,hDel,Nat.add_assoc,toPVs,frzVs,osVs,toPV]
    repeat' (with_reducible apply And.intro)
    all_goals first | omega | kernel_rfl | exact fun _ _=>rfl | exact .inr (fun _ _=>rfl) | exact fun y hy=>hr18 y (List.mem_of_mem_take hy) | exact fun y hy=>hr18 y (List.mem_of_mem_drop hy) | skip
    exact fin_pre_pv hw (by simp [toPV]; rfl) (by simp [frz,frz1]; rfl) ⟨by simp [PV.toV],rfl⟩
  ·have:i=L.pen.length:=by omega
   subst this
   simp (implicitDefEqProofs:=false) (disch:=omega) [gz,hlt]
   subst hM
   exact ⟨hb,at_mk (by simp) rfl⟩
 ·rintro _ ⟨hb,sl,rfl⟩
  rw [hnone hb]
  simp (implicitDefEqProofs:=false) (disch:=omega) [gz,b1043_4,b1043_5,fillC,splice,hzc]
  exact fin_pre_pv hw (by simp [toPV,tkDe,hDel]; rfl) (by simp [frz,frz1]; rfl) ⟨by simp [PV.toV],rfl⟩
theorem kx1043:∀ n,Contract Tryz.prog G0 43 (x1043 n)
 | 0=>mkX_data fun p h H=>absurd h.2 (by omega)
 | n+1=>mkX_data fun p h H=>k1043 n (kx1043 n) p.1 p.2 h.1 (by omega) H
theorem thenG {P:Program} {G:Gl} {X:XT} {N0:Nat} {x:AC} {st:St} {f:St→Qt→Prop} {Q:Qt} (J:St→Prop) (h1:∀ J',J'=J→wcodeX P G X N0 x st (cutQ J' Q)) (h2:∀ s,J s→f s Q) :
  wcodeX P G X N0 x st (thenQ f Q):=by
 refine wcodeX_mono (fun e s q=>?_) (h1 J rfl)
 cases e with
 | normal=>exact h2 s q
 | exit i=>exact q
 | ret=>exact q
theorem while_at {α:Type} [Inhabited α] (p:α→Bool):∀ (l:List α) (i:Nat),i≤l.length→(∀ j,j<i→p (nth l j)=true)→(i<l.length→p (nth l i)=false)→l.takeWhile p=l.take i∧l.dropWhile p=l.drop i
 | [],i,h,_,_=>by
  have:i=0:=by simpa using h
  subst this; simp
 | x :: l,0,_,_,h3=>by
  have:p x=false:=h3 (by simp)
  simp [this]
 | x :: l,i+1,h1,h2,h3=>by
  have hx:p x=true:=h2 0 (by omega)
  have ⟨a,b⟩:=while_at p l i (by simpa using h1) (fun j hj=>h2 (j+1) (by omega)) (fun hi=>h3 (by simpa using hi))
  simp [hx,a,b]
theorem k1012 (L:LogE) (e:Edit) (hL:OkL L) (he:OkE e) (H:List O):ACalls Tryz.prog G0 12 [.agg ((logD L).map .d),.agg (e.row.map .d)] H
  fun t H'=>t = .tup [.agg ((logD (delE chkE L e).1).map .d),I (delE chkE L e).2]∧H'=H:=by
 obtain ⟨R,hR⟩:∃ R,R=delE chkE L e:=⟨_,rfl⟩
 rw [← hR]
 have hee:=Edit.row_eq e
 obtain ⟨hdl,hpl,hsl,hasc,hso,hdd,hpd⟩:=hL
 have s25:x1025.sc=true:=rfl
 have s40:x1040.sc=true:=rfl
 have s23:x62.sc=true:=rfl
 have s26:x622.sc=true:=rfl
 have s41:x1041.sc=true:=rfl
 have s42:x76.sc=true:=rfl
 have s43:(x1043 1048576).sc=false:=rfl
 have g25:=xg1025 e he
 have gd:=xg1040 L.del e.id (by omega)
 have gp:=xg1040 L.pen e.id (by omega)
 have g26:=xg622 L.seen e.id (by omega)
 have g41:=xg1041 L.seen e.deps (by omega) (by have:=he.dl; omega)
 have g43:=xg1043 (n:=1048576) L e ⟨by omega,by omega,hasc,hpd⟩ hpl
 rw [hee] at g25 g43
 have hide:e.id.row=[.v (.string e.id.a),.v (.int .i64 e.id.n)]:=rfl
 rw [hide] at gd gp g26
 refine acallsX (X:=[(25,x1025),(40,x1040),(23,x62),(26,x622),(41,x1041),(42,x76),(43,x1043 1048576)])
  ⟨kx1025,kx1040,kx62,kx622,kx1041,kx76,kx1043 _,trivial⟩ tab hmix Tryz.func12 c1012 (by rfl) fun hw=>?_
 obtain ⟨ck,hck⟩:∃ c,c=chkE e:=⟨_,rfl⟩
 unfold delE at hR
 rw [← hck] at g25 hR
 by_cases c1:ck=0
 ·rw [if_neg (by simp [c1])] at hR
  rw [c1] at g25
  obtain ⟨zc,hzc⟩:∃ zc,zc=[C.d (.v (.slice none 0 0)),.d (.v (.slice none 0 0)),.d (.v (.slice none 0 0))]:=⟨_,rfl⟩
  obtain ⟨qd,hqd⟩:∃ q,q=idxF (fun f=>decide (f.id=e.id)) 0 L.del:=⟨_,rfl⟩
  obtain ⟨qp,hqp⟩:∃ q,q=idxF (fun f=>decide (f.id=e.id)) 0 L.pen:=⟨_,rfl⟩
  rw [← hqd] at gd
  rw [← hqp] at gp
  simp (implicitDefEqProofs:=false) (disch:=omega) [gz,ir1012,b1012,b1012_0,b1012_1,b1012_2,b1012_3,hee,s25,g25,s40,gd,gp,fillC,splice,fillR,wrap64,Nat.add_assoc]
  repeat' (with_reducible apply And.intro)
  all_goals first | omega | kernel_rfl | exact fun _ _=>rfl | skip
  have hkpn:hasId L.pen e.id=decide (0≤qp):=by
   have h:=idxF_any (fun f=>decide (f.id=e.id)) L.pen 0
   rw [← hqp] at h
   rw [hasId_any]
   by_cases q:0≤qp
   ·rw [decide_eq_true q]; exact h.1 q
   ·rw [decide_eq_false q]
    cases hh:L.pen.any fun f=>decide (f.id=e.id)
    ·rfl
    ·exact absurd (h.2 hh) q
  refine thenG (fun st=>(forkB L.del e=false∧forkB L.pen e=false)∧AtS [(2,.v (.c (.ptr H.length 0))),(3,.v (.c (.ptr (H.length+1) 0))),(4,.v (.c (.ptr (H.length+2) 0))),(8,.int .i64 qp)]
   (H ++ [.cells ((logD L).map .d),.cells (e.row.map .d),.cells zc]) st) (fun J hJ=>?_) ?_
  ·have fin21:(forkB L.del e || forkB L.pen e)=true→R=(L,21):=fun q=>by rw [hR,if_pos q]
   rcases idx_fork L.del e with ⟨q1,q2⟩ | ⟨k,k0,q1,q2⟩
   ·rw [q1] at hqd
    subst hqd
    rcases idx_fork L.pen e with ⟨r1,r2⟩ | ⟨k',k0',r1,r2⟩
    ·rw [r1] at hqp
     subst hqp
     simp (implicitDefEqProofs:=false) (disch:=omega) [gz,b1012_4,hee,hzc,fillC,splice,wrap64,Nat.add_assoc]
     repeat' (with_reducible apply And.intro)
     all_goals first | omega | kernel_rfl | exact fun _ _=>rfl | skip
     subst hJ
     exact ⟨⟨q2,r2⟩,at_mk (by simp) (by simp [hee,hzc])⟩
    ·rw [r1] at hqp
     subst hqp
     have k1':(k':Int)<(L.pen.length:Int):=by omega
     have k2':(0:Int)≤(k':Int):=by omega
     have gE:=xg62 (nth L.pen k') e (by have:=hpd _ (nth_mem k0'); omega)
     rw [hee] at gE
     by_cases r3:nth L.pen k'=e
     ·rw [decide_eq_true r3] at gE r2
      simp (implicitDefEqProofs:=false) (disch:=omega) [gz,b1012_4,hee,hzc,k0',k1',k2',s23,gE,fillC,splice,wrap64,Nat.add_assoc,nth_map,(erow _).len,take_of_len,(erow _).mapO,(erow _).tk,(erow _).nrm,borRow,(erow _).cl,borV_map,osR_map,frz_map,nth_set_ne,(erow _).spl (erow _)]
      repeat' (with_reducible apply And.intro)
      all_goals first | omega | kernel_rfl | exact fun _ _=>rfl | skip
      subst hJ
      exact ⟨⟨q2,r2⟩,at_mk (by simp) (by simp [hee,hzc])⟩
     ·rw [decide_eq_false r3] at gE r2
      simp (implicitDefEqProofs:=false) (disch:=omega) [gz,b1012_4,hee,hzc,k0',k1',k2',s23,gE,fillC,splice,wrap64,Nat.add_assoc,nth_map,(erow _).len,take_of_len,(erow _).mapO,(erow _).tk,(erow _).nrm,borRow,(erow _).cl,borV_map,osR_map,frz_map,nth_set_ne,(erow _).spl (erow _)]
      repeat' (with_reducible apply And.intro)
      all_goals first | omega | kernel_rfl | exact fun _ _=>rfl | skip
      exact fin_pre_pvs hw (by simp [toPVs,toPV]; rfl) (by simp [frzVs]; rfl) ⟨by rw [fin21 (by rw [r2]; simp)]; rfl,rfl⟩
   ·rw [q1] at hqd
    subst hqd
    have k1:(k:Int)<(L.del.length:Int):=by omega
    have k2:(0:Int)≤(k:Int):=by omega
    have gD:=xg62 (nth L.del k) e (by have:=hdd _ (nth_mem k0); omega)
    rw [hee] at gD
    by_cases q3:nth L.del k=e
    ·rw [decide_eq_true q3] at gD q2
     rcases idx_fork L.pen e with ⟨r1,r2⟩ | ⟨k',k0',r1,r2⟩
     ·rw [r1] at hqp
      subst hqp
      simp (implicitDefEqProofs:=false) (disch:=omega) [gz,b1012_4,hee,hzc,k0,k1,k2,s23,gD,fillC,splice,wrap64,Nat.add_assoc,nth_map,(erow _).len,take_of_len,(erow _).mapO,(erow _).tk,(erow _).nrm,borRow,(erow _).cl,borV_map,osR_map,frz_map,nth_set_ne,(erow _).spl (erow _)]
      repeat' (with_reducible apply And.intro)
      all_goals first | omega | kernel_rfl | exact fun _ _=>rfl | skip
      subst hJ
      exact ⟨⟨q2,r2⟩,at_mk (by simp) (by simp [hee,hzc])⟩
     ·rw [r1] at hqp
      subst hqp
      have k1':(k':Int)<(L.pen.length:Int):=by omega
      have k2':(0:Int)≤(k':Int):=by omega
      have gE:=xg62 (nth L.pen k') e (by have:=hpd _ (nth_mem k0'); omega)
      rw [hee] at gE
      by_cases r3:nth L.pen k'=e
      ·rw [decide_eq_true r3] at gE r2
       simp (implicitDefEqProofs:=false) (disch:=omega) [gz,b1012_4,hee,hzc,k0,k1,k2,k0',k1',k2',s23,gD,gE,fillC,splice,wrap64,Nat.add_assoc,nth_map,(erow _).len,take_of_len,(erow _).mapO,(erow _).tk,(erow _).nrm,borRow,(erow _).cl,borV_map,osR_map,frz_map,nth_set_ne,(erow _).spl (erow _)]
       repeat' (with_reducible apply And.intro)
       all_goals first | omega | kernel_rfl | exact fun _ _=>rfl | skip
       subst hJ
       exact ⟨⟨q2,r2⟩,at_mk (by simp) (by simp [hee,hzc])⟩
      ·rw [decide_eq_false r3] at gE r2
       simp (implicitDefEqProofs:=false) (disch:=omega) [gz,b1012_4,hee,hzc,k0,k1,k2,k0',k1',k2',s23,gD,gE,fillC,splice,wrap64,Nat.add_assoc,nth_map,(erow _).len,take_of_len,(erow _).mapO,(erow _).tk,(erow _).nrm,borRow,(erow _).cl,borV_map,osR_map,frz_map,nth_set_ne,(erow _).spl (erow _)]
       repeat' (with_reducible apply And.intro)
       all_goals first | omega | kernel_rfl | exact fun _ _=>rfl | skip
       exact fin_pre_pvs hw (by simp [toPVs,toPV]; rfl) (by simp [frzVs]; rfl) ⟨by rw [fin21 (by rw [r2]; simp)]; rfl,rfl⟩
    ·rw [decide_eq_false q3] at gD q2
     simp (implicitDefEqProofs:=false) (disch:=omega) [gz,b1012_4,hee,hzc,k0,k1,k2,s23,gD,fillC,splice,wrap64,Nat.add_assoc,nth_map,(erow _).len,take_of_len,(erow _).mapO,(erow _).tk,(erow _).nrm,borRow,(erow _).cl,borV_map,osR_map,frz_map,nth_set_ne,(erow _).spl (erow _)]
     repeat' (with_reducible apply And.intro)
     all_goals first | omega | kernel_rfl | exact fun _ _=>rfl | skip
     exact fin_pre_pvs hw (by simp [toPVs,toPV]; rfl) (by simp [frzVs]; rfl) ⟨by rw [fin21 (by rw [q2]; simp)]; rfl,rfl⟩
  ·rintro _ ⟨⟨f1,f2⟩,sl,rfl⟩
   rw [if_neg (by simp [f1,f2]),hkpn] at hR
   obtain ⟨kn,hkn⟩:∃ b,b=conI L.seen e.id:=⟨_,rfl⟩
   rw [← hkn] at g26 hR
   by_cases p1:0≤qp
   ·rw [if_pos (by simp [p1])] at hR
    simp (implicitDefEqProofs:=false) (disch:=omega) [gz,b1012_5,hee,hzc,p1,fillC,splice,wrap64,Nat.add_assoc]
    repeat' (with_reducible apply And.intro)
    all_goals first | omega | kernel_rfl | exact fun _ _=>rfl | skip
    exact fin_pre_pvs hw (by simp [toPVs,toPV]; rfl) (by simp [frzVs]; rfl) ⟨by rw [hR]; rfl,rfl⟩
   ·cases kn
    ·rw [if_neg (by simp [p1])] at hR
     obtain ⟨cv,hcv⟩:∃ b,b=covB L.seen e.deps:=⟨_,rfl⟩
     rw [← hcv] at g41 hR
     cases cv
     ·rw [if_pos rfl] at hR
      simp (implicitDefEqProofs:=false) (disch:=omega) [gz,b1012_5,b1012_6,hee,hzc,p1,s26,g26,s41,g41,fillC,splice,wrap64,Nat.add_assoc]
      refine loopE (fun k st=>∃ i,i≤L.pen.length∧k=L.pen.length-i∧(∀ j,j<i→cmpE (nth L.pen j) e<0) ∧
        st=⟨ofL [(2,.v (.c (.ptr H.length 0))),(3,.v (.c (.ptr (H.length+1) 0))),(4,.v (.c (.ptr (H.length+2) 0))),(9,.int .i64 i)],H ++ [.cells ((logD L).map .d),.cells (e.row.map .d),.cells zc]⟩)
       (fun st=>∃ i,i≤L.pen.length∧insE L.pen e=L.pen.take i ++ e :: L.pen.drop i ∧
        AtS [(2,.v (.c (.ptr H.length 0))),(3,.v (.c (.ptr (H.length+1) 0))),(4,.v (.c (.ptr (H.length+2) 0))),(9,.int .i64 i)] (H ++ [.cells ((logD L).map .d),.cells (e.row.map .d),.cells zc]) st) ?_ ?_ ?_
      ·refine wk_keep [2,3,4,9] ⟨_,0,by omega,rfl,fun j hj=>by omega,?_⟩
       simp [hee,hzc]
      ·rintro J M hJ hM k st ⟨i,hi,rfl,hb,rfl⟩
       have hins:(i<L.pen.length→¬ cmpE (nth L.pen i) e<0)→insE L.pen e=L.pen.take i ++ e :: L.pen.drop i:=fun h=>by
        have:=while_at (fun f=>decide (cmpE f e<0)) L.pen i hi (fun j hj=>decide_eq_true (hb j hj)) fun q=>decide_eq_false (h q)
        unfold insE
        rw [this.1,this.2]
       by_cases hlt:i<L.pen.length
       ·obtain ⟨f,hf⟩:∃ f,nth L.pen i=f:=⟨_,rfl⟩
        have hfe:=Edit.row_eq f
        have gC:=xg76 f e
        rw [hfe,hee] at gC
        rw [hf] at hins
        obtain ⟨cm,hcm⟩:∃ c,c=cmpE f e:=⟨_,rfl⟩
        rw [← hcm] at gC hins
        by_cases c2:cm<0
        ·simp (implicitDefEqProofs:=false) (disch:=omega) [gz,hlt,hee,hfe,hf,nth_map,hzc,s42,gC,c2,fillC,splice,wrap64,Nat.add_assoc]
         repeat' (with_reducible apply And.intro)
         all_goals first | omega | kernel_rfl | exact fun _ _=>rfl | skip
         subst hJ
         refine wk_keep [2,3,4,9] ⟨L.pen.length-(i+1),by omega,i+1,by omega,rfl,fun j hj=>?_,?_⟩
         ·by_cases q:j=i
          ·rw [q,hf,← hcm]; exact c2
          ·exact hb j (by omega)
         ·simp [hee,hzc]
        ·simp (implicitDefEqProofs:=false) (disch:=omega) [gz,hlt,hee,hfe,hf,nth_map,hzc,s42,gC,c2,fillC,splice,wrap64,Nat.add_assoc]
         repeat' (with_reducible apply And.intro)
         all_goals first | omega | kernel_rfl | exact fun _ _=>rfl | skip
         subst hM
         exact ⟨i,hi,hins fun _=>c2,at_mk (by simp) (by simp [hee,hzc])⟩
       ·simp (implicitDefEqProofs:=false) (disch:=omega) [gz,hlt,hee,hzc,fillC,splice,wrap64,Nat.add_assoc]
        repeat' (with_reducible apply And.intro)
        all_goals first | omega | kernel_rfl | exact fun _ _=>rfl | skip
        subst hM
        exact ⟨i,hi,hins fun q=>absurd q hlt,at_mk (by simp) (by simp [hee,hzc])⟩
      ·rintro _ ⟨i,hi,hins,sl,rfl⟩
       rw [hins] at hR
       obtain ⟨W,hW⟩:∃ W,W=L.pen.take i ++ e :: L.pen.drop i:=⟨_,rfl⟩
       rw [← hW] at hR
       have e1:(L.pen.map Edit.row).take i ++ e.row :: (L.pen.map Edit.row).drop i=W.map Edit.row:=by
        rw [← List.map_take,← List.map_drop,hW,List.map_append]; rfl
       rw [hee] at e1
       have hWl:W.length=L.pen.length+1:=by rw [hW]; simp; omega
       have hW2:i+(1+(L.pen.length-i))=W.length:=by omega
       have hW3:i+1+(L.pen.length-i)=W.length:=by omega
       have hi':(i:Int)≤(L.pen.length:Int):=by omega
       have tkP:(L.pen.map Edit.row).take L.pen.length=L.pen.map Edit.row:=List.take_of_length_le (by simp)
       have tkW:(W.map Edit.row).take W.length=W.map Edit.row:=List.take_of_length_le (by simp)
       have hr18:∀ y∈L.pen.map Edit.row,y.length=18:=fun y hy=>by
        obtain ⟨a,_,rfl⟩:=List.mem_map.1 hy
        rfl
       have e2:((L.pen.map Edit.row).take i).length=i:=by simp; omega
       simp (implicitDefEqProofs:=false) (disch:=omega) [gz,hi,hi',hee,hzc,fillC,fillR,splice,wrap64,elems,maxLen47,tkP,e1,e2,tkW,hW2,hW3,hWl,Nat.add_assoc]
       repeat' (with_reducible apply And.intro)
       all_goals first | omega | kernel_rfl | exact fun _ _=>rfl | exact .inr (fun _ _=>rfl) | exact fun y hy=>hr18 y (List.mem_of_mem_take hy) | exact fun y hy=>hr18 y (List.mem_of_mem_drop hy) | skip
       rw [hWl] at tkW
       exact fin_pre_pvs hw (by simp [toPVs,toPV,tkW,hWl]; rfl) (by simp [frzVs,frz,frz1]; rfl) ⟨by rw [hR]; simp [PV.toV],rfl⟩
     ·rw [if_neg (by simp)] at hR
      simp (implicitDefEqProofs:=false) (disch:=omega) [gz,b1012_5,b1012_6,b1012_7,b1012_8,hee,hzc,p1,s26,g26,s41,g41,s43,g43,fillC,splice,wrap64,Nat.add_assoc,toPVs,frzVs,osVs,toPV]
      exact fin_pre_pvs hw (by simp [toPVs,toPV]; rfl) (by simp [frzVs]; rfl) ⟨by rw [hR]; rfl,rfl⟩
    ·rw [if_pos (by simp)] at hR
     simp (implicitDefEqProofs:=false) (disch:=omega) [gz,b1012_5,hee,hzc,p1,s26,g26,fillC,splice,wrap64,Nat.add_assoc]
     repeat' (with_reducible apply And.intro)
     all_goals first | omega | kernel_rfl | exact fun _ _=>rfl | skip
     exact fin_pre_pvs hw (by simp [toPVs,toPV]; rfl) (by simp [frzVs]; rfl) ⟨by rw [hR]; rfl,rfl⟩
 ·rw [if_pos c1] at hR
  simp (implicitDefEqProofs:=false) (disch:=omega) [gz,ir1012,b1012,b1012_0,b1012_1,b1012_2,hee,s25,g25,c1,fillC,splice,Nat.add_assoc]
  exact fin_pre_pvs hw (by simp [toPVs,toPV]; rfl) (by simp [frzVs]; rfl) ⟨by rw [hR]; rfl,rfl⟩
noncomputable def x1012:XE:=mkX false (fun (p:LogE×Edit)=>[.agg (logD p.1),.agg p.2.row]) (fun p=>OkL p.1∧OkE p.2) (fun p=>.tup [.agg ((logD (delE chkE p.1 p.2).1).map .d),I (delE chkE p.1 p.2).2])
theorem kx1012:Contract Tryz.prog G0 12 x1012:=mkX_data fun p h H=>k1012 p.1 p.2 h.1 h.2 H
theorem xg1012 (L:LogE) (e:Edit) (h:OkL L) (he:OkE e):x1012.g [.agg (logD L),.agg e.row]=some (True,.tup [.agg ((logD (delE chkE L e).1).map .d),I (delE chkE L e).2]) :=
 mkX_g (fun a b h=>by
  injection h with h1 h2
  injection h1 with h1
  injection h2 with h2
  injection h2 with h2
  exact Prod.ext (logD_inj h1) (Edit.row_inj h2)) (L,e) ⟨h,he⟩
theorem k1003 (m:Int) (v:List Id) (l:List Edit) (h:OkA v l):ACalls Tryz.prog (GM m) 3 [.c (.d (.sl (v.map Id.row))),.c (.d (.sl (l.map Edit.row)))] [] fun t H=>t = .bool true∧H=[]:=by
 have s1:x1009.sc=true:=rfl
 have s2:x1010.sc=true:=rfl
 have s3:(x1011 m).sc=false:=rfl
 have s4:x1012.sc=false:=rfl
 have s5:x1013.sc=true:=rfl
 have s6:x1015.sc=false:=rfl
 have s7:x1016.sc=false:=rfl
 have s8:x1014.sc=true:=rfl
 have g1:=xg1009 v l h
 have g2:=xg1010
 refine acallsX (X:=[(9,x1009),(10,x1010),(11,x1011 m),(12,x1012),(13,x1013),(15,x1015),(16,x1016),(14,x1014)]) ⟨kx1009.gm,kx1010 m,kx1011 m,kx1012.gm,kx1013.gm,kx1015.gm,kx1016.gm,kx1014.gm,trivial⟩ tab hmix Tryz.func3 c1003 (by rfl) fun hw=>?_
 cases hf:fewB v l
 ·rw [hf] at g1
  simp (implicitDefEqProofs:=false) (disch:=omega) [gz,ir1003,b1003,b1003_0,b1003_1,s1,g1,s2,g2]
  exact fin_nil ⟨rfl,rfl⟩
 ·rw [hf] at g1
  have hr:=few_ok hf
  have hll:=hr.ll
  simp (implicitDefEqProofs:=false) (disch:=omega) [gz,ir1003,b1003,b1003_0,b1003_1,b1003_2,b1003_3,s1,g1,fillC,splice]
  refine loopE (fun k st=>∃ i,i≤l.length∧k=l.length-i ∧
    st=⟨ofL [(1,.v (.c (.d (.sl (l.map Edit.row))))),(5,.v (.c (.ptr 0 0))),(6,.v (.c (.ptr 1 0))),(22,.int .i64 l.length),(23,.int .i64 i)],[.cells ((logD (recV v (l.take i))).map .d),.cells ((logD (recV v (l.take i))).map .d)]⟩)
   (fun st=>True) ?_ ?_ ?_
  ·refine wk_tell_cell 0 0 (cs:=[.d (.v (.slice none 0 0)),.d (.v (.slice none 0 0)),.d (.sl (v.map Id.row))]) (c:=.d (.v (.slice none 0 0))) (d:=.sl []) (by simp [frz1]) rfl (by simp) ?_
   refine wk_tell_cell 0 1 (cs:=[.d (.sl []),.d (.v (.slice none 0 0)),.d (.sl (v.map Id.row))]) (c:=.d (.v (.slice none 0 0))) (d:=.sl []) (by simp [frz1]) rfl (by simp) ?_
   refine wk_tell_cell 1 0 (cs:=[.d (.v (.slice none 0 0)),.d (.v (.slice none 0 0)),.d (.sl (v.map Id.row))]) (c:=.d (.v (.slice none 0 0))) (d:=.sl []) (by simp [frz1]) rfl (by simp) ?_
   refine wk_tell_cell 1 1 (cs:=[.d (.sl []),.d (.v (.slice none 0 0)),.d (.sl (v.map Id.row))]) (c:=.d (.v (.slice none 0 0))) (d:=.sl []) (by simp [frz1]) rfl (by simp) ?_
   simp only [frz1]
   refine wk_nil [0,1] [1,5,6,22,23] rfl ⟨_,0,by omega,rfl,?_⟩
   simp [phi,O.ren,C.ren,recA]
  ·rintro J M hJ hM k st ⟨i,hi,rfl,rfl⟩
   by_cases hlt:i<l.length
   ·have hrec:=recV_rec (l:=l) hr.asc hr.pos (l.take i)
    have hrec2:=recV_rec (l:=l) hr.asc hr.pos (l.take (i+1))
    obtain ⟨A,hA⟩:∃ A,A=recV v (l.take i):=⟨_,rfl⟩
    obtain ⟨B,hB⟩:∃ B,B=recV v (l.take (i+1)):=⟨_,rfl⟩
    have hnext:B=(delE chkE A (nth l i)).1:=by rw [hA,hB]; exact recA_take hlt
    rw [← hA] at hrec
    rw [← hB] at hrec2
    have okA:=(okL hr hrec fun e he=>List.mem_of_mem_take he).1
    obtain ⟨okB,bp,bd,bx⟩:=okL hr hrec2 fun e he=>List.mem_of_mem_take he
    have oke:=(hr.ee _ (nth_mem hlt)).1
    have g3:=xg1011 m A (nth l i) okA oke
    have g4:=xg1012 A (nth l i) okA oke
    rw [← hnext] at g3 g4
    obtain ⟨er,her⟩:∃ er,er=(delE chkE A (nth l i)).2:=⟨_,rfl⟩
    rw [← her] at g3 g4
    have g5:=xg1013 B B okB
    rw [sameB_iff.2 rfl] at g5
    have g6:=xg1015 B okB.asc okB.sl (by omega) (fun p hp=>by have:=bx p hp; omega)
    have g7:=xg1016 B okB.asc okB.sl (by omega) (fun p hp=>by have:=bx p hp; omega)
    have hml:(missL B).length<4611686018427387904:=by
     have h1:=allI_len 12 (l:=B.pen) (i:=B.pen.length) bx (Nat.le_refl _)
     rw [List.take_length] at h1
     have h2:=List.length_filter_le (fun x=>!conI B.seen x) (allI B.pen)
     unfold missL
     omega
    have g8:=xg1014 (missL B) (missL B) hml
    rw [decide_eq_true rfl] at g8
    rw [← hA]
    simp (implicitDefEqProofs:=false) (disch:=omega) [gz,hlt,wrap64,nth_map,(erow _).len,take_of_len,(erow _).mapO,(erow _).tk,(erow _).nrm,borRow,(erow _).cl,borV_map,osR_map,frz_map,nth_set_ne,(erow _).spl (erow _),s3,g3,s4,g4,s5,g5,s6,g6,s7,g7,s8,g8,fillC,splice,toPVs,frzVs,osVs,toPV]
    repeat' (with_reducible apply And.intro)
    all_goals first | omega | kernel_rfl | skip
    subst hJ
    refine wk_nil [0,1] [1,5,6,22,23] rfl ⟨l.length-(i+1),by omega,i+1,by omega,rfl,?_⟩
    simp [phi,O.ren,C.ren,← hB]
   ·simp (implicitDefEqProofs:=false) (disch:=omega) [gz,hlt]
    subst hM
    trivial
  ·intro st _
   simp (implicitDefEqProofs:=false) (disch:=omega) [gz,b1003_4,b1003_5,s2,g2]
   exact fin_nil ⟨rfl,rfl⟩
end Go.Aw.Try
