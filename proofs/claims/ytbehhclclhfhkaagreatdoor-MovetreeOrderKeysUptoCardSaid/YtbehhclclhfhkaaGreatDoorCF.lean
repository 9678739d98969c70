/- An abstract machine over the model, and contracts of functions of this program on it (part 6): words and lemmas for the proof in the last text. -/
import Derived.Test.YtbehhclclhfhkaaGreatDoorCE
set_option linter.unusedSimpArgs false
set_option linter.unusedVariables false
set_option linter.unusedSectionVars false
noncomputable section
open Go.Proofs.Tryz

namespace Go.Aw.Try
open Go Go.Proofs Go.Aw
structure Is (x:Nv.Rt) (z:Int) (b:Nat):Prop where
 p:0<b
 e:rn x*(b:Int)=z*rd x
theorem is_mk {z:Int} {b:Nat} (hb:0<b):Is (Nv.mkI z b) z b:=⟨hb,Nv.numI_mk hb⟩
theorem is_self (x:Nv.Rt):Is x (rn x) (Nv.denV x.den):=⟨Nv.denV_pos _,rfl⟩
theorem rd_abs (x:Nv.Rt):((rd x).natAbs:Int)=rd x:=by have:=rd_pos x; omega
theorem add_is {x y:Nv.Rt} {z w:Int} {b d:Nat} (hx:Is x z b) (hy:Is y w d):addR x y=Nv.mkI (z*d+w*b) (b*d):=by
 obtain ⟨pb,ex⟩:=hx
 obtain ⟨pd,ey⟩:=hy
 have p1:=rd_pos x
 have p2:=rd_pos y
 have pp:=Int.mul_pos p1 p2
 unfold addR
 refine Nv.mkI_eq (by omega) (Nat.mul_pos pb pd) ?_
 have e1:((rd x*rd y).natAbs:Int)=rd x*rd y:=by omega
 rw [e1,Int.natCast_mul]
 generalize rn x=a at *
 generalize rd x=c at *
 generalize rn y=a2 at *
 generalize rd y=c2 at *
 grind
theorem neg_is {y:Nv.Rt} {w:Int} {d:Nat} (hy:Is y w d):negR y=Nv.mkI (-w) d:=by
 obtain ⟨pd,ey⟩:=hy
 have p2:=rd_pos y
 unfold negR
 refine Nv.mkI_eq (by omega) pd ?_
 rw [rd_abs]
 grind
theorem sub_is {x y:Nv.Rt} {z w:Int} {b d:Nat} (hx:Is x z b) (hy:Is y w d):subR x y=Nv.mkI (z*d-w*b) (b*d):=by
 unfold subR
 rw [neg_is hy,add_is hx (is_mk hy.p)]
 congr 1
 grind
theorem pos_is {y:Nv.Rt} {w:Int} {d:Nat} (hy:Is y w d):(0<rn y↔0<w)∧(rn y=0↔w=0):=by
 obtain ⟨pd,ey⟩:=hy
 have p2:=rd_pos y
 have pd':(0:Int)<d:=by omega
 constructor
 ·constructor
  ·intro h
   have h1:=Int.mul_pos h pd'
   rw [ey] at h1
   exact Int.pos_of_mul_pos_left h1 (by omega) |> fun h=>h
  ·intro h
   have h1:=Int.mul_pos h p2
   rw [← ey] at h1
   exact Int.pos_of_mul_pos_left h1 (by omega) |> fun h=>h
 ·constructor
  ·intro h
   rw [h,Int.zero_mul] at ey
   rcases Int.mul_eq_zero.1 ey.symm with q | q
   ·exact q
   ·omega
  ·intro h
   rw [h,Int.zero_mul] at ey
   rcases Int.mul_eq_zero.1 ey with q | q
   ·exact q
   ·omega
theorem fl_is {x:Nv.Rt} {z:Int} {b:Nat} (hx:Is x z b):flR x=Nv.mkI (z / b) 1:=by
 obtain ⟨pb,ex⟩:=hx
 have p1:=rd_pos x
 have pb':(0:Int)<b:=by omega
 unfold flR
 congr 1
 have h1:=Int.mul_ediv_mul_of_pos_left (rn x) (rd x) pb'
 have h2:=Int.mul_ediv_mul_of_pos_left z (b:Int) p1
 rw [← h1,← h2,ex,Int.mul_comm (rd x) (b:Int)]
theorem one_is:Is oneR 1 1:=is_mk (by decide)
theorem nx_is {x:Nv.Rt} {z:Int} {b:Nat} (hx:Is x z b):nxR x=Nv.mkI (z / b+1) 1:=by
 unfold nxR
 rw [fl_is hx,add_is (is_mk (by decide)) one_is]
 congr 1
 simp
theorem div_is {x y:Nv.Rt} {z w:Int} {b d:Nat} (hx:Is x z b) (hy:Is y w d) (hw:0<w):divQ x y=(Nv.mkI (z*d) (b*w.natAbs),true):=by
 have h0:=(pos_is hy).1.2 hw
 obtain ⟨pb,ex⟩:=hx
 obtain ⟨pd,ey⟩:=hy
 have p1:=rd_pos x
 have p2:=rd_pos y
 have pp:=Int.mul_pos p1 h0
 have e0:sgZ (rd x*rn y)=1:=by unfold sgZ; rw [if_neg (by omega),if_neg (by omega)]
 unfold divQ
 rw [if_neg (by omega),e0,Int.mul_one]
 congr 1
 refine Nv.mkI_eq (by omega) (Nat.mul_pos pb (by omega)) ?_
 have e1:((rd x*rn y).natAbs:Int)=rd x*rn y:=by omega
 have e2:(w.natAbs:Int)=w:=by omega
 rw [e1,Int.natCast_mul,e2]
 grind
theorem div_zero {x y:Nv.Rt} {w:Int} {d:Nat} (hy:Is y w d) (hw:w=0):divQ x y=(zR,false):=by
 have h0:=(pos_is hy).2.2 hw
 unfold divQ
 rw [h0,Int.mul_zero,if_pos rfl]
theorem cmp_is {x y:Nv.Rt} {z w:Int} {b d:Nat} (hx:Is x z b) (hy:Is y w d):cmpR x y=sgZ (z*d-w*b):=by
 obtain ⟨pb,ex⟩:=hx
 obtain ⟨pd,ey⟩:=hy
 have p1:=rd_pos x
 have p2:=rd_pos y
 have q1:(0:Int)<(b:Int)*d:=Int.mul_pos (by omega) (by omega)
 have q2:=Int.mul_pos p1 p2
 unfold cmpR
 rw [← sgZ_mulP (z:=rn x*rd y-rn y*rd x) q1,← sgZ_mulP (z:=z*d-w*b) q2]
 congr 1
 grind
theorem is_one {z:Int} {b:Nat} (hb:0<b) {x:Nv.Rt} (h:x=Nv.mkI z b):Is x z b:=h▸is_mk hb
theorem simp_sp:∀ (n:Nat) (lo hi:Nv.Rt) (bd:Bool) (a b c d:Nat),Is lo (a:Int) b→(bd=true→Is hi (c:Int) d)→(bd=false→d=0)→a*d<c*b→b+d<n →
  simpF n lo hi bd=Nv.mkI ((Nv.spF n a b c d).1:Int) (Nv.spF n a b c d).2
 | 0,lo,hi,bd,a,b,c,d,hl,hh,hz,hc,hn=>by omega
 | n+1,lo,hi,bd,a,b,c,d,hl,hh,hz,hc,hn=>by
  have hb:=hl.p
  obtain ⟨w,hw⟩:∃ w,w=a / b:=⟨_,rfl⟩
  have hfl:flR lo=Nv.mkI (w:Int) 1:=by rw [fl_is hl,hw]; rfl
  have hnx:nxR lo=Nv.mkI ((w+1:Nat):Int) 1:=by rw [nx_is hl,hw]; rfl
  obtain ⟨h1,h2⟩:=Nv.sp_next hb hc
  rw [← hw] at h1 h2
  have hstop:stopB lo hi bd=true↔(w+1)*d<c:=by
   cases bd with
   | false =>
    have hd:=hz rfl
    subst hd
    have:0<c:=by
     rcases Nat.eq_zero_or_pos c with q | q
     ·subst q; simp at hc
     ·exact q
    simp [stopB,this]
   | true =>
    have hI:=hh rfl
    unfold stopB
    rw [hnx,cmp_is (is_mk (by decide)) hI]
    simp only [Bool.not_true,Bool.false_or,decide_eq_true_eq,sgZ_neg]
    have e1:(((w+1:Nat):Int)*(d:Int))=(((w+1)*d:Nat):Int):=(Int.natCast_mul _ _).symm
    rw [e1]
    omega
  simp only [simpF,Nv.spF,← hw]
  by_cases hs:(w+1)*d<c
  ·rw [if_pos (hstop.2 hs),if_pos hs,hnx]
  ·rw [if_neg (fun q=>hs (hstop.1 q)),if_neg hs]
   have hbd:bd=true:=by
    cases bd with
    | true=>rfl
    | false=>exact absurd (hstop.1 (by simp [stopB])) hs
   have hI:=hh hbd
   obtain ⟨c',hc'⟩:∃ c',c'=c-w*d:=⟨_,rfl⟩
   obtain ⟨a',ha'⟩:∃ a',a'=a % b:=⟨_,rfl⟩
   rw [← hc'] at h1 h2 ⊢
   rw [← ha'] at h2 ⊢
   have ea:a=w*b+a':=by rw [hw,ha',Nat.mul_comm]; exact (Nat.div_add_mod a b).symm
   have hab:a'<b:=by rw [ha']; exact Nat.mod_lt _ hb
   have hcd:c'≤d:=by rw [Nat.add_mul] at hs; omega
   have hfI:Is (flR lo) (w:Int) 1:=is_one (by decide) hfl
   have hy1:subR hi (flR lo)=Nv.mkI (c':Int) d:=by
    rw [sub_is hI hfI]
    have e1:((w:Int)*(d:Int))=((w*d:Nat):Int):=(Int.natCast_mul _ _).symm
    rw [e1,Nat.mul_one]
    congr 1
    have e2:(c:Int)*((1:Nat):Int)=(c:Int):=by simp
    rw [e2]
    omega
   have hy2:subR lo (flR lo)=Nv.mkI (a':Int) b:=by
    rw [sub_is hl hfI]
    have e1:((w:Int)*(b:Int))=((w*b:Nat):Int):=(Int.natCast_mul _ _).symm
    rw [e1,Nat.mul_one]
    congr 1
    have e2:(a:Int)*((1:Nat):Int)=(a:Int):=by simp
    rw [e2]
    omega
   have hq1:divQ oneR (subR hi (flR lo))=(Nv.mkI (d:Int) c',true):=by
    rw [div_is one_is (is_one hI.p hy1) (by omega)]
    simp
   have hlo:Is (Nv.mkI (d:Int) c') (d:Int) c':=is_mk h1
   obtain ⟨k1,k2,_,_,_⟩:=Nv.spF_ok n d c' b a' h1 h2 (by omega)
   have ih:simpF n (divQ oneR (subR hi (flR lo))).1 (divQ oneR (subR lo (flR lo))).1 (divQ oneR (subR lo (flR lo))).2=Nv.mkI ((Nv.spF n d c' b a').1:Int) (Nv.spF n d c' b a').2:=by
    rw [hq1]
    by_cases h0:a'=0
    ·rw [div_zero (is_one hb hy2) (by rw [h0]; rfl)]
     exact simp_sp n _ _ _ d c' b a' hlo (fun q=>by cases q) (fun _=>h0) h2 (by omega)
    ·have hq2:divQ oneR (subR lo (flR lo))=(Nv.mkI (b:Int) a',true):=by
      rw [div_is one_is (is_one hb hy2) (by omega)]
      simp
     rw [hq2]
     exact simp_sp n _ _ _ d c' b a' hlo (fun _=>is_mk (by omega)) (fun q=>by cases q) h2 (by omega)
   rw [ih,div_is one_is (is_mk k2) (by omega),add_is hfI (is_mk (by simp; exact k1))]
   simp
abbrev big:Nat:=256^20
theorem ok_mk {z:Int} {b:Nat} (hz:z.natAbs<2*big) (hb:b<2*big):OkQ (Nv.mkI z b)∧(Nv.mkI z b).den.size<90000000:=by
 have h1:=mkI_num z b
 have h2:=mkI_den z b
 have h3:(zm z).size≤21:=zm_small (n:=z.natAbs) (k:=21) (Nat.lt_of_lt_of_le hz (by decide))
 have h4:(nB b).size≤21:=zm_small (k:=21) (Nat.lt_of_lt_of_le hb (by decide))
 exact ⟨⟨by omega,by omega⟩,by omega⟩
theorem ok_zR:OkQ zR:=⟨by decide,by decide⟩
theorem sp_med {n a b c d:Nat} (hb:0<b) (hc:a*d<c*b) (hn:b+d<n):(Nv.spF n a b c d).1≤a+c∧(Nv.spF n a b c d).2≤b+d:=by
 obtain ⟨_,_,_,_,h⟩:=Nv.spF_ok n a b c d hb hc hn
 refine h (a+c) (b+d) (by omega) ?_ ?_
 ·rw [Nat.mul_add,Nat.add_mul]; omega
 ·rw [Nat.mul_add,Nat.add_mul]; omega
theorem okS_of:∀ (n:Nat) (lo hi:Nv.Rt) (bd:Bool) (a b c d:Nat),Is lo (a:Int) b→(bd=true→Is hi (c:Int) d)→(bd=false→d=0)→a*d<c*b→b+d<n →
  OkQ lo→OkQ hi→a<big→b<big→c<big→d<big→okS n lo hi bd
 | 0,lo,hi,bd,a,b,c,d,hl,hh,hz,hc,hn,_,_,_,_,_,_=>by omega
 | n+1,lo,hi,bd,a,b,c,d,hl,hh,hz,hc,hn,ql,qh,ba,bb,bc,bdd=>by
  have hb:=hl.p
  obtain ⟨w,hw⟩:∃ w,w=a / b:=⟨_,rfl⟩
  have hwa:w≤a:=by rw [hw]; exact Nat.div_le_self _ _
  have hfl:flR lo=Nv.mkI (w:Int) 1:=by rw [fl_is hl,hw]; rfl
  have hnx:nxR lo=Nv.mkI ((w+1:Nat):Int) 1:=by rw [nx_is hl,hw]; rfl
  obtain ⟨h1,h2⟩:=Nv.sp_next hb hc
  rw [← hw] at h1 h2
  have o1:=ok_mk (z:=(w:Int)) (b:=1) (by omega) (by decide)
  have o2:=ok_mk (z:=((w+1:Nat):Int)) (b:=1) (by omega) (by decide)
  refine ⟨ql,qh,by rw [hfl]; exact o1.1,by rw [hfl]; exact o1.2,by rw [hnx]; exact o2.1,fun hs=>?_⟩
  have hbd:bd=true:=by
   cases bd with
   | true=>rfl
   | false=>simp [stopB] at hs
  have hI:=hh hbd
  subst hbd
  have hs':¬ (w+1)*d<c:=by
   intro q
   have:stopB lo hi true=true:=by
    unfold stopB
    rw [hnx,cmp_is (is_mk (by decide)) hI]
    simp only [Bool.not_true,Bool.false_or,decide_eq_true_eq,sgZ_neg]
    have e1:(((w+1:Nat):Int)*(d:Int))=(((w+1)*d:Nat):Int):=(Int.natCast_mul _ _).symm
    rw [e1]
    omega
   rw [this] at hs; cases hs
  obtain ⟨c',hc'⟩:∃ c',c'=c-w*d:=⟨_,rfl⟩
  obtain ⟨a',ha'⟩:∃ a',a'=a % b:=⟨_,rfl⟩
  rw [← hc'] at h1 h2
  rw [← ha'] at h2
  have ea:a=w*b+a':=by rw [hw,ha',Nat.mul_comm]; exact (Nat.div_add_mod a b).symm
  have hab:a'<b:=by rw [ha']; exact Nat.mod_lt _ hb
  have hcd:c'≤d:=by rw [Nat.add_mul] at hs'; omega
  have hfI:Is (flR lo) (w:Int) 1:=is_one (by decide) hfl
  have hy1:subR hi (flR lo)=Nv.mkI (c':Int) d:=by
   rw [sub_is hI hfI]
   have e1:((w:Int)*(d:Int))=((w*d:Nat):Int):=(Int.natCast_mul _ _).symm
   rw [e1,Nat.mul_one]
   congr 1
   have e2:(c:Int)*((1:Nat):Int)=(c:Int):=by simp
   rw [e2]
   omega
  have hy2:subR lo (flR lo)=Nv.mkI (a':Int) b:=by
   rw [sub_is hl hfI]
   have e1:((w:Int)*(b:Int))=((w*b:Nat):Int):=(Int.natCast_mul _ _).symm
   rw [e1,Nat.mul_one]
   congr 1
   have e2:(a:Int)*((1:Nat):Int)=(a:Int):=by simp
   rw [e2]
   omega
  have hq1:divQ oneR (subR hi (flR lo))=(Nv.mkI (d:Int) c',true):=by
   rw [div_is one_is (is_one hI.p hy1) (by omega)]
   simp
  have hlo:Is (Nv.mkI (d:Int) c') (d:Int) c':=is_mk h1
  have olo:=ok_mk (z:=(d:Int)) (b:=c') (by omega) (by omega)
  obtain ⟨k1,k2,_,_,_⟩:=Nv.spF_ok n d c' b a' h1 h2 (by omega)
  obtain ⟨m1,m2⟩:=sp_med (n:=n) h1 h2 (by omega)
  have ores:=ok_mk (z:=((Nv.spF n d c' b a').1:Int)) (b:=(Nv.spF n d c' b a').2) (by omega) (by omega)
  have ores2:OkQ (divQ oneR (Nv.mkI ((Nv.spF n d c' b a').1:Int) (Nv.spF n d c' b a').2)).1:=by
   rw [div_is one_is (is_mk k2) (by omega)]
   exact (ok_mk (by simp; omega) (by simp; omega)).1
  refine ⟨by rw [hy1]; exact (ok_mk (by omega) (by omega)).1,by rw [hy2]; exact (ok_mk (by omega) (by omega)).1,?_⟩
  rw [hq1]
  by_cases h0:a'=0
  ·rw [div_zero (is_one hb hy2) (by rw [h0]; rfl)]
   rw [simp_sp n _ _ _ d c' b a' hlo (fun q=>by cases q) (fun _=>h0) h2 (by omega)]
   exact ⟨okS_of n _ _ _ d c' b a' hlo (fun q=>by cases q) (fun _=>h0) h2 (by omega) olo.1 ok_zR (by omega) (by omega) (by omega) (by omega),ores.1,ores2⟩
  ·have hq2:divQ oneR (subR lo (flR lo))=(Nv.mkI (b:Int) a',true):=by
    rw [div_is one_is (is_one hb hy2) (by omega)]
    simp
   rw [hq2]
   rw [simp_sp n _ _ _ d c' b a' hlo (fun _=>is_mk (by omega)) (fun q=>by cases q) h2 (by omega)]
   exact ⟨okS_of n _ _ _ d c' b a' hlo (fun _=>is_mk (by omega)) (fun q=>by cases q) h2 (by omega) olo.1 (ok_mk (by omega) (by omega)).1 (by omega) (by omega) (by omega) (by omega),ores.1,ores2⟩
set_option maxRecDepth 100000
set_option maxHeartbeats 4000000
theorem rfMkZ (p q:Int) (hp:(zm p).size<4000000000) (hq:(zm q).size<4000000000):x1100.g [zQ p,zQ q]=some (True,mkZ p q):=by
 have h1:=xgMake p q hp hq
 have h2:=xg1118 (zn p) (zn q) (zm p) (zm q) hp hq
 have h3:=xg1100 (zn p) (zn q) (zm p) (zm q) hp hq
 exact h3.trans (h2.symm.trans h1)
theorem k2056 (n:Nat) (h:n<9223372036854775808):ACalls prog G0 56 [I n] [] fun t H=>t = .v (ratV (Nv.mkI n 1))∧H=[]:=by
 have s1:x1135.sc=true:=rfl
 have s2:x1117.sc=true:=rfl
 have s3:x1100.sc=true:=rfl
 have g1:=xg1135 n h
 rw [iV_z,show Nv.sgn false n=(n:Int) from rfl] at g1
 have e1:zQ 1=intP false ⟨#[1]⟩:=by kernel_rfl
 have e1':zV 1=intV false ⟨#[1]⟩:=by kernel_rfl
 have g2:=xg1117
 rw [← e1'] at g2
 have hs:(zm (n:Int)).size≤8:=zm_small (n:=n) (k:=8) (by omega)
 have h1:(zm 1).size≤8:=zm_small (n:=1) (k:=8) (by decide)
 have g3:=rfMk (n:Int) 1 (by omega) (by omega) (by decide)
 rw [show Nv.mkI (n:Int) (Int.natAbs 1)=Nv.mkI n 1 from rfl] at g3
 obtain ⟨r,hr⟩:∃ r,r=Nv.mkI (n:Int) 1:=⟨_,rfl⟩
 rw [← hr] at g3 ⊢
 obtain ⟨o,ho⟩:∃ o:Int,o=1:=⟨_,rfl⟩
 rw [← ho] at g2 g3
 refine acallsX (X:=[(93,x1135),(94,x1117),(89,x1100)]) ⟨kx1135,kx1117,kx1100,trivial⟩ tab hmix func56 c2056 (by rfl) fun hw=>?_
 simp -implicitDefEqProofs (disch:=omega) [gz,ir2056,b2056,s1,g1,s2,g2,s3,g3,fillC,splice]
 repeat' with_reducible apply And.intro
 all_goals first|omega|kernel_rfl|exact fun _ _=>rfl|skip
 exact fin_nil ⟨rfl,rfl⟩
def x2056:XE:=mkX true (fun (n:Nat)=>[.c (.v (.int .i64 (n:Int)))]) (fun n=>n<9223372036854775808) (fun n=>.v (ratV (Nv.mkI n 1)))
theorem kx2056:Contract prog G0 56 x2056:=mkX_scal (fun _=>rfl) fun n h=>k2056 n h
theorem xg2056 (n:Nat) (h:n<9223372036854775808):x2056.g [.c (.v (.int .i64 (n:Int)))]=some (True,.v (ratV (Nv.mkI n 1))):=mkX_g (fun a b h=>by simp at h; omega) n h
theorem k2100 (x y:Nv.Rt) (hx:OkQ x) (hy:OkQ y):ACalls prog G0 100 [ratV x,ratV y] [] fun t H=>t=divR x y∧H=[]:=by
 have s1:x1101.sc=true:=rfl
 have s1':x1102.sc=true:=rfl
 have s2:x2097.sc=true:=rfl
 have s4:x1100.sc=true:=rfl
 have g1:=rfAb x hx
 have g1':=rfBe x hx
 have g2:=rfAb y hy
 have g2':=rfBe y hy
 have q1:=rn_size x
 have q2:=rd_size x
 have q3:=rn_size y
 have q4:=rd_size y
 obtain ⟨p1,p2⟩:=hx
 obtain ⟨p3,p4⟩:=hy
 have m1:=zm_mul (rn x) (rd y)
 have m2:=zm_mul (rd x) (rn y)
 have g3:=xg2097 (rn x) (rd y) (by omega) (by omega) (by omega)
 have g4:=xg2097 (rd x) (rn y) (by omega) (by omega) (by omega)
 have g5:=rfMkZ (rn x*rd y) (rd x*rn y) (by omega) (by omega)
 refine acallsX (X:=[(90,x1101),(91,x1102),(97,x2097),(89,x1100)]) ⟨kx1101,kx1102,kx2097,kx1100,trivial⟩ tab hmix func100 c2100 (by rfl) fun hw=>?_
 unfold divR
 obtain ⟨u,hu⟩:∃ u,u=rn x*rd y:=⟨_,rfl⟩
 obtain ⟨v,hv⟩:∃ v,v=rd x*rn y:=⟨_,rfl⟩
 rw [← hu] at g3 g5 ⊢
 rw [← hv] at g4 g5 ⊢
 obtain ⟨a,ha⟩:∃ a,a=rn x:=⟨_,rfl⟩
 obtain ⟨b,hb⟩:∃ b,b=rd x:=⟨_,rfl⟩
 obtain ⟨c,hc⟩:∃ c,c=rn y:=⟨_,rfl⟩
 obtain ⟨d,hd⟩:∃ d,d=rd y:=⟨_,rfl⟩
 rw [← ha] at g1 g3
 rw [← hb] at g1' g4
 rw [← hc] at g2 g4
 rw [← hd] at g2' g3
 unfold mkZ at g5 ⊢
 by_cases h0:v=0
 ·rw [if_pos h0] at g5 ⊢
  simp -implicitDefEqProofs (disch:=omega) [gz,ir2100,b2100,s1,s1',g1,g1',g2,g2',s2,g3,g4,s4,g5,fillC,splice]
  repeat' with_reducible apply And.intro
  all_goals first|omega|kernel_rfl|exact fun _ _=>rfl|skip
  exact fin_nil ⟨rfl,rfl⟩
 ·rw [if_neg h0] at g5 ⊢
  obtain ⟨r,hr⟩:∃ r,r=Nv.mkI (u*sgZ v) v.natAbs:=⟨_,rfl⟩
  rw [← hr] at g5 ⊢
  simp -implicitDefEqProofs (disch:=omega) [gz,ir2100,b2100,s1,s1',g1,g1',g2,g2',s2,g3,g4,s4,g5,fillC,splice]
  repeat' with_reducible apply And.intro
  all_goals first|omega|kernel_rfl|exact fun _ _=>rfl|skip
  exact fin_nil ⟨rfl,rfl⟩
def x2100:XE:=mkX true (fun (p:Nv.Rt×Nv.Rt)=>[ratP p.1,ratP p.2]) (fun p=>OkQ p.1∧OkQ p.2) (fun p=>divR p.1 p.2)
theorem kx2100:Contract prog G0 100 x2100:=mkX_scal (fun _=>divR_sc _ _) fun p h=>k2100 p.1 p.2 h.1 h.2
theorem rgDiv (x y:Nv.Rt) (hx:OkQ x) (hy:OkQ y):x2100.g [ratP x,ratP y]=some (True,.tup [ratV (divQ x y).1,.c (.d (.v (.bool (divQ x y).2)))]):=(mkX_g injRR (x,y) ⟨hx,hy⟩).trans (by rw [divR_q])
theorem k2141 (x:Nv.Rt) (hx:OkQ x) (hn:OkQ (Nv.normR x)):ACalls prog G0 141 [ratV x] [] fun t H=>t = .tup [zV (rn (Nv.normR x)),zV (rd (Nv.normR x))]∧H=[]:=by
 have s1:x1090.sc=true:=rfl
 have s2:x1101.sc=true:=rfl
 have s3:x1102.sc=true:=rfl
 have g1:=xg1090 x (by have:=hx.n; omega) (by have:=hx.d; omega)
 have g2:=rfAb _ hn
 have g3:=rfBe _ hn
 obtain ⟨y,hy⟩:∃ y,y=Nv.normR x:=⟨_,rfl⟩
 rw [← hy] at g1 g2 g3 ⊢
 obtain ⟨a,ha⟩:∃ a,a=rn y:=⟨_,rfl⟩
 obtain ⟨b,hb⟩:∃ b,b=rd y:=⟨_,rfl⟩
 rw [← ha] at g2 ⊢
 rw [← hb] at g3 ⊢
 refine acallsX (X:=[(50,x1090),(90,x1101),(91,x1102)]) ⟨kx1090,kx1101,kx1102,trivial⟩ tab hmix func141 c2141 (by rfl) fun hw=>?_
 simp -implicitDefEqProofs (disch:=omega) [gz,ir2141,b2141,s1,g1,s2,g2,s3,g3,fillC,splice]
 repeat' with_reducible apply And.intro
 all_goals first|omega|kernel_rfl|exact fun _ _=>rfl|skip
 exact fin_nil ⟨rfl,rfl⟩
def x2141:XE:=mkX true (fun (x:Nv.Rt)=>[ratP x]) (fun x=>OkQ x∧OkQ (Nv.normR x)) (fun x=>.tup [zV (rn (Nv.normR x)),zV (rd (Nv.normR x))])
theorem kx2141:Contract prog G0 141 x2141:=mkX_scal (fun _=>rfl) fun x h=>k2141 x h.1 h.2
theorem xg2141 (x:Nv.Rt) (hx:OkQ x) (hn:OkQ (Nv.normR x)):x2141.g [ratP x]=some (True,.tup [zV (rn (Nv.normR x)),zV (rd (Nv.normR x))]):=mkX_g injRat x ⟨hx,hn⟩
theorem norm_is (x:Nv.Rt):Nv.normR x=Nv.mkI (rn x) (Nv.denV x.den):=Nv.norm_mkI x
theorem rd_nat (x:Nv.Rt):rd x=((Nv.denV x.den:Nat):Int):=rfl
theorem k2099 (x:Nv.Rt) (hx:OkQ x) (hn:OkQ (Nv.normR x)) (a b:Nat) (hI:Is x (a:Int) b):ACalls prog G0 99 [ratV x] [] fun t H=>t = .v (zV ((a / b:Nat):Int))∧H=[]:=by
 have s1:x2141.sc=true:=rfl
 have s2:x1116.sc=true:=rfl
 have g1:=xg2141 x hx hn
 have hIn:Is (Nv.normR x) (a:Int) b:=by
  refine ⟨hI.p,?_⟩
  have h1:=is_mk (z:=rn x) (Nv.denV_pos x.den)
  rw [← norm_is] at h1
  have e1:=hI.e
  have e2:=h1.e
  have p1:(0:Int)<((Nv.denV x.den:Nat):Int):=by have:=Nv.denV_pos x.den; omega
  rw [rd_nat x] at e1
  generalize rn (Nv.normR x)=n at *
  generalize rd (Nv.normR x)=m at *
  generalize rn x=k at *
  generalize ((Nv.denV x.den:Nat):Int)=D at *
  have:(n*(b:Int)-a*m)*D=0:=by grind
  rcases Int.mul_eq_zero.1 this with q | q
  ·omega
  ·omega
 obtain ⟨y,hy⟩:∃ y,y=Nv.normR x:=⟨_,rfl⟩
 rw [← hy] at g1 hIn hn
 have hp:=rd_pos y
 have hge:0≤rn y:=by
  rcases Int.lt_or_le (rn y) 0 with q | q
  ·have h1:=Int.mul_neg_of_neg_of_pos q (show (0:Int)<(b:Int) by have:=hIn.p; omega)
   rw [hIn.e] at h1
   have:=Int.mul_nonneg (show (0:Int)≤(a:Int) by omega) (Int.le_of_lt hp)
   omega
  ·exact q
 obtain ⟨A,hA⟩:∃ A:Nat,rn y=(A:Int):=⟨(rn y).toNat,by omega⟩
 obtain ⟨B,hB⟩:∃ B:Nat,rd y=(B:Int):=⟨(rd y).toNat,by omega⟩
 have e1:=hIn.e
 rw [hA,hB] at e1
 have hB0:0<B:=by omega
 have e2:A*b=a*B:=by
  have e3:((A*b:Nat):Int)=((a*B:Nat):Int):=by rw [Int.natCast_mul,Int.natCast_mul]; exact e1
  omega
 have hq:A / B=a / b:=by
  have hb:=hIn.p
  rw [← Nat.mul_div_mul_left A B hb,← Nat.mul_div_mul_left a b hB0,Nat.mul_comm b A,e2,Nat.mul_comm a B,Nat.mul_comm B b]
 have r1:=rn_size y
 have r2:=rd_size y
 rw [hA] at g1 r1
 rw [hB] at g1 r2
 have n1:=hn.n
 have n2:=hn.d
 have zA:zn (A:Int)=false:=decide_eq_false (by omega)
 have zB:zn (B:Int)=false:=decide_eq_false (by omega)
 have g2:=xg1116 (zm (A:Int)) (zm (B:Int)) (by omega) (by omega) (by rw [zm_val]; omega)
 rw [zm_val,zm_val,show (A:Int).natAbs=A from rfl,show (B:Int).natAbs=B from rfl,hq] at g2
 have e3:iV false (a / b)=zV ((a / b:Nat):Int):=iV_z false (a / b)
 rw [e3] at g2
 unfold zV at g1
 rw [zA,zB] at g1
 obtain ⟨mA,hmA⟩:∃ m,m=zm (A:Int):=⟨_,rfl⟩
 obtain ⟨mB,hmB⟩:∃ m,m=zm (B:Int):=⟨_,rfl⟩
 rw [← hmA,← hmB] at g1 g2
 obtain ⟨Z,hZ⟩:∃ Z:Int,Z=((a / b:Nat):Int):=⟨_,rfl⟩
 rw [← hZ] at g2 ⊢
 refine acallsX (X:=[(141,x2141),(132,x1116)]) ⟨kx2141,kx1116,trivial⟩ tab hmix func99 c2099 (by rfl) fun hw=>?_
 simp -implicitDefEqProofs (disch:=omega) [gz,ir2099,b2099,s1,g1,s2,g2,fillC,splice]
 repeat' with_reducible apply And.intro
 all_goals first|omega|kernel_rfl|exact fun _ _=>rfl|skip
 exact fin_nil ⟨rfl,rfl⟩
structure Sm (x:Nv.Rt):Prop where
 n:x.num.size≤30
 d:x.den.size≤30
theorem Sm.q {x:Nv.Rt} (h:Sm x):OkQ x:=⟨by have:=h.n; omega,by have:=h.d; omega⟩
theorem Sm.s {x:Nv.Rt} (h:Sm x):OkS x:=⟨by have:=h.n; omega,by have:=h.d; omega⟩
theorem sm_mk {z:Int} {b:Nat} (hz:z.natAbs<2*big) (hb:b<2*big):Sm (Nv.mkI z b):=by
 have h1:=mkI_num z b
 have h2:=mkI_den z b
 have h3:(zm z).size≤21:=zm_small (n:=z.natAbs) (k:=21) (Nat.lt_of_lt_of_le hz (by decide))
 have h4:(nB b).size≤21:=zm_small (k:=21) (Nat.lt_of_lt_of_le hb (by decide))
 exact ⟨by omega,by omega⟩
theorem fdiv_is {x:Nv.Rt} {z:Int} {b:Nat} (hI:Is x z b):rn x / rd x=z / (b:Int):=by
 have p1:=rd_pos x
 have pb':(0:Int)<b:=by have:=hI.p; omega
 have h3:=Int.mul_ediv_mul_of_pos_left (rn x) (rd x) pb'
 have h4:=Int.mul_ediv_mul_of_pos_left z (b:Int) p1
 rw [← h3,hI.e,Int.mul_comm (rd _) (b:Int),h4]
def x2099:XE:=mkX true (fun (x:Nv.Rt)=>[ratP x]) (fun x=>OkQ x∧OkQ (Nv.normR x)∧0≤rn x) (fun x=>.v (zV (rn x / rd x)))
theorem kx2099:Contract prog G0 99 x2099:=mkX_scal (fun _=>rfl) fun x h=>by
 have hI:=is_self x
 have e:rn x=(((rn x).toNat:Nat):Int):=by have:=h.2.2; omega
 have hI':Is x (((rn x).toNat:Nat):Int) (Nv.denV x.den):=by rw [← e]; exact hI
 have h1:=k2099 x h.1 h.2.1 _ _ hI'
 have e2:=fdiv_is hI'
 refine h1.mono fun t H q=>⟨?_,q.2⟩
 rw [q.1,e2]; rfl
theorem rgFloor {x:Nv.Rt} {a b:Nat} (hI:Is x (a:Int) b) (h:OkQ x) (hn:OkQ (Nv.normR x)):x2099.g [ratP x]=some (True,.v (zV ((a / b:Nat):Int))):=by
 have p1:=(pos_is hI).1
 have p2:=(pos_is hI).2
 refine (mkX_g injRat x ⟨h,hn,by omega⟩).trans ?_
 rw [fdiv_is hI]; rfl
theorem mk_norm {z:Int} {b:Nat} (hb:0<b):Nv.normR (Nv.mkI z b)=Nv.mkI z b:=Nv.norm_mk hb
structure PosN (n:Nat) (lo hi:Nv.Rt) (a b c d:Nat):Prop where
 l:Is lo (a:Int) b
 h:Is hi (c:Int) d
 lt:a*d<c*b
 m:b+d<n
 sl:Sm lo
 sh:Sm hi
 ba:a<big
 bb:b<big
 bc:c<big
 bd:d<big
 no:OkQ (Nv.normR lo)
theorem pos_step {n:Nat} {lo hi:Nv.Rt} {a b c d:Nat} (P:PosN (n+1) lo hi a b c d):∃ w:Nat,w≤a∧flR lo=Nv.mkI (w:Int) 1∧w=a / b∧nxR lo=Nv.mkI ((w+1:Nat):Int) 1∧(stopB lo hi true=decide (cmpR (nxR lo) hi<0)) ∧
  (¬ cmpR (nxR lo) hi<0→∃ c' a':Nat,0<c'∧c'≤d∧a'<b∧subR hi (flR lo)=Nv.mkI (c':Int) d∧subR lo (flR lo)=Nv.mkI (a':Int) b∧divQ oneR (subR hi (flR lo))=(Nv.mkI (d:Int) c',true) ∧
   ((a'=0∧divQ oneR (subR lo (flR lo))=(zR,false))∨(a'≠0∧divQ oneR (subR lo (flR lo))=(Nv.mkI (b:Int) a',true)∧PosN n (Nv.mkI (d:Int) c') (Nv.mkI (b:Int) a') d c' b a'))):=by
 have hl:=P.l
 have hI:=P.h
 have hc:=P.lt
 have hb:=hl.p
 have m:=P.m
 have ba:=P.ba
 have bb:=P.bb
 have bc:=P.bc
 have bdd:=P.bd
 obtain ⟨w,hw⟩:∃ w,w=a / b:=⟨_,rfl⟩
 have hwa:w≤a:=by rw [hw]; exact Nat.div_le_self _ _
 have hfl:flR lo=Nv.mkI (w:Int) 1:=by rw [fl_is hl,hw]; rfl
 have hnx:nxR lo=Nv.mkI ((w+1:Nat):Int) 1:=by rw [nx_is hl,hw]; rfl
 obtain ⟨h1,h2⟩:=Nv.sp_next hb hc
 rw [← hw] at h1 h2
 refine ⟨w,hwa,hfl,hw,hnx,by unfold stopB; simp,fun hs=>?_⟩
 have hs':¬ (w+1)*d<c:=by
  intro q
  apply hs
  rw [hnx,cmp_is (is_mk (by decide)) hI,sgZ_neg]
  have e1:(((w+1:Nat):Int)*(d:Int))=(((w+1)*d:Nat):Int):=(Int.natCast_mul _ _).symm
  rw [e1]
  omega
 obtain ⟨c',hc'⟩:∃ c',c'=c-w*d:=⟨_,rfl⟩
 obtain ⟨a',ha'⟩:∃ a',a'=a % b:=⟨_,rfl⟩
 rw [← hc'] at h1 h2
 rw [← ha'] at h2
 have ea:a=w*b+a':=by rw [hw,ha',Nat.mul_comm]; exact (Nat.div_add_mod a b).symm
 have hab:a'<b:=by rw [ha']; exact Nat.mod_lt _ hb
 have hcd:c'≤d:=by rw [Nat.add_mul] at hs'; omega
 have hfI:Is (flR lo) (w:Int) 1:=is_one (by decide) hfl
 have hy1:subR hi (flR lo)=Nv.mkI (c':Int) d:=by
  rw [sub_is hI hfI]
  have e1:((w:Int)*(d:Int))=((w*d:Nat):Int):=(Int.natCast_mul _ _).symm
  rw [e1,Nat.mul_one]
  congr 1
  have e2:(c:Int)*((1:Nat):Int)=(c:Int):=by simp
  rw [e2]
  omega
 have hy2:subR lo (flR lo)=Nv.mkI (a':Int) b:=by
  rw [sub_is hl hfI]
  have e1:((w:Int)*(b:Int))=((w*b:Nat):Int):=(Int.natCast_mul _ _).symm
  rw [e1,Nat.mul_one]
  congr 1
  have e2:(a:Int)*((1:Nat):Int)=(a:Int):=by simp
  rw [e2]
  omega
 have hq1:divQ oneR (subR hi (flR lo))=(Nv.mkI (d:Int) c',true):=by
  rw [div_is one_is (is_one hI.p hy1) (by omega)]
  simp
 refine ⟨c',a',h1,hcd,hab,hy1,hy2,hq1,?_⟩
 by_cases h0:a'=0
 ·exact .inl ⟨h0,div_zero (is_one hb hy2) (by rw [h0]; rfl)⟩
 ·refine .inr ⟨h0,?_,⟨is_mk h1,is_mk (by omega),h2,by omega,sm_mk (by omega) (by omega),sm_mk (by omega) (by omega),by omega,by omega,by omega,by omega,by rw [mk_norm h1]; exact (sm_mk (by omega) (by omega)).q⟩⟩
  rw [div_is one_is (is_one hb hy2) (by omega)]
  simp
theorem PosN.val {n:Nat} {lo hi:Nv.Rt} {a b c d:Nat} (P:PosN n lo hi a b c d):∃ u v:Nat,simpF n lo hi true=Nv.mkI (u:Int) v∧0<u∧0<v∧u<2*big∧v<2*big:=by
 have ba:=P.ba
 have bb:=P.bb
 have bc:=P.bc
 have bdd:=P.bd
 obtain ⟨k1,k2,_,_,_⟩:=Nv.spF_ok n a b c d P.l.p P.lt P.m
 obtain ⟨m1,m2⟩:=sp_med (n:=n) P.l.p P.lt P.m
 exact ⟨_,_,simp_sp n lo hi true a b c d P.l (fun _=>P.h) (fun h=>by cases h) P.lt P.m,k1,k2,by omega,by omega⟩
def x2060 (n:Nat):XE:=mkX true (fun (p:Nv.Rt×Nv.Rt)=>[ratP p.1,ratP p.2]) (fun p=>∃ a b c d,PosN n p.1 p.2 a b c d) (fun p=>.v (ratV (simpF n p.1 p.2 true)))
theorem xg2060 (n:Nat) (lo hi:Nv.Rt) {a b c d:Nat} (P:PosN n lo hi a b c d):(x2060 n).g [ratP lo,ratP hi]=some (True,.v (ratV (simpF n lo hi true))):=mkX_g injRR (lo,hi) ⟨a,b,c,d,P⟩
theorem k2060:∀ (n:Nat) (lo hi:Nv.Rt) (a b c d:Nat),PosN n lo hi a b c d→ACalls prog G0 60 [ratV lo,ratV hi] [] fun t H=>t = .v (ratV (simpF n lo hi true))∧H=[]
 | 0,lo,hi,a,b,c,d,P=>absurd P.m (by omega)
 | n+1,lo,hi,a,b,c,d,P=>by
  have kx:Contract prog G0 60 (x2060 n):=mkX_scal (fun _=>rfl) fun p ⟨a,b,c,d,h⟩=>k2060 n p.1 p.2 a b c d h
  have s1:x2098.sc=true:=rfl
  have s2:x2099.sc=true:=rfl
  have s3:x1100.sc=true:=rfl
  have s4:x2056.sc=true:=rfl
  have s5:x2058.sc=true:=rfl
  have s6:x2059.sc=true:=rfl
  have s7:x2057.sc=true:=rfl
  have s8:x2100.sc=true:=rfl
  have s9:(x2060 n).sc=true:=rfl
  obtain ⟨w,hwa,hfl,hw,hnx,hst,hgo⟩:=pos_step P
  have ba:=P.ba
  have bb:=P.bb
  have bc:=P.bc
  have bdd:=P.bd
  have ql:=P.sl.q
  have qh:=P.sh.q
  have g1:=xg2098 lo ql
  have g2:=xg2098 hi qh
  have pl:=pos_is P.l
  have ph:=pos_is P.h
  have c0:0<c:=by
   rcases Nat.eq_zero_or_pos c with q | q
   ·have:=P.lt; rw [q] at this; simp at this
   ·exact q
  have n1:¬ sgZ (rn lo)<0:=by rw [sgZ_neg]; omega
  have n2:¬ sgZ (rn hi)≤0:=by rw [sgZ_le]; have:=ph.1.2 (by omega); omega
  obtain ⟨z1,hz1⟩:∃ z,z=sgZ (rn lo):=⟨_,rfl⟩
  obtain ⟨z2,hz2⟩:∃ z,z=sgZ (rn hi):=⟨_,rfl⟩
  rw [← hz1] at g1 n1
  rw [← hz2] at g2 n2
  have g3:=rgFloor P.l ql P.no
  rw [← hw] at g3
  have b1:big<256^21:=by decide
  have zw:(zm (w:Int)).size≤21:=zm_small (n:=w) (k:=21) (by omega)
  have z11:(zm 1).size≤8:=zm_small (n:=1) (k:=8) (by decide)
  have e1:zQ 1=intP false ⟨#[1]⟩:=by kernel_rfl
  have g4:=rfMk (w:Int) 1 (by omega) (by omega) (by decide)
  rw [show Nv.mkI (w:Int) (Int.natAbs 1)=Nv.mkI w 1 from rfl,← hfl,e1] at g4
  have g5:x2056.g [.c (.v (.int .i64 1))]=some (True,.v (ratV oneR)):=xg2056 1 (by decide)
  have of':Sm (flR lo):=by rw [hfl]; exact sm_mk (by omega) (by decide)
  have g6:=xg2058 (flR lo) oneR of'.q okQ_one
  rw [show addR (flR lo) oneR=nxR lo from rfl] at g6
  have onx:Sm (nxR lo):=by rw [hnx]; exact sm_mk (by omega) (by decide)
  have g7:=xg2059 (nxR lo) hi onx.s P.sh.s
  have o1:OkQ oneR:=okQ_one
  have hsim:simpF (n+1) lo hi true=if cmpR (nxR lo) hi<0 then nxR lo else addR (flR lo) (divQ oneR (simpF n (divQ oneR (subR hi (flR lo))).1 (divQ oneR (subR lo (flR lo))).1 (divQ oneR (subR lo (flR lo))).2)).1:=by
   simp only [simpF,hst,decide_eq_true_eq]
  rw [hsim]
  obtain ⟨cm,hcm⟩:∃ z,z=cmpR (nxR lo) hi:=⟨_,rfl⟩
  rw [← hcm] at g7 hgo ⊢
  by_cases cs:cm<0
  ·rw [if_pos cs]
   obtain ⟨nx,hnx'⟩:∃ z,z=nxR lo:=⟨_,rfl⟩
   rw [← hnx'] at g6 g7 ⊢
   obtain ⟨f,hf⟩:∃ z,z=flR lo:=⟨_,rfl⟩
   rw [← hf] at g4 g6
   obtain ⟨W,hW⟩:∃ z:Int,z=(w:Int):=⟨_,rfl⟩
   rw [← hW] at g3 g4
   refine acallsX (X:=[(98,x2098),(99,x2099),(89,x1100),(56,x2056),(58,x2058),(59,x2059),(57,x2057),(100,x2100),(60,x2060 n)]) ⟨kx2098,kx2099,kx1100,kx2056,kx2058,kx2059,kx2057,kx2100,kx,trivial⟩ tab hmix func60 c2060 (by rfl) fun hw=>?_
   simp -implicitDefEqProofs (disch:=omega) [gz,ir2060,b2060,b2060_0,b2060_1,b2060_2,b2060_3,b2060_4,b2060_5,s1,g1,g2,n1,n2,s2,g3,s3,g4,s4,g5,s5,g6,s6,g7,cs,fillC,splice]
   repeat' with_reducible apply And.intro
   all_goals first|omega|kernel_rfl|exact fun _ _=>rfl|skip
   exact fin_nil ⟨rfl,rfl⟩
  ·rw [if_neg cs]
   obtain ⟨c',a',h1,hcd,hab,hy1,hy2,hq1,hor⟩:=hgo cs
   have fd:(flR lo).den.size<90000000:=by have:=of'.d; omega
   have g8:=xg2057 hi (flR lo) qh of'.q fd
   have g9:=xg2057 lo (flR lo) ql of'.q fd
   have oy1:OkQ (subR hi (flR lo)):=by rw [hy1]; exact (sm_mk (by omega) (by omega)).q
   have oy2:OkQ (subR lo (flR lo)):=by rw [hy2]; exact (sm_mk (by omega) (by omega)).q
   have g10:=rgDiv oneR _ o1 oy1
   have g11:=rgDiv oneR _ o1 oy2
   rw [hq1] at g10 ⊢
   have osn:Sm (Nv.mkI (d:Int) c'):=sm_mk (by omega) (by omega)
   have Is1:Is (Nv.mkI (d:Int) c') (d:Int) c':=is_mk h1
   obtain ⟨s,hs⟩:∃ z,z=Nv.mkI (d:Int) c':=⟨_,rfl⟩
   have hsn:OkQ (Nv.normR s):=by rw [hs,mk_norm h1]; exact osn.q
   rw [← hs] at g10 osn Is1 hor ⊢
   obtain ⟨y1,hy1'⟩:∃ z,z=subR hi (flR lo):=⟨_,rfl⟩
   obtain ⟨y2,hy2'⟩:∃ z,z=subR lo (flR lo):=⟨_,rfl⟩
   rw [← hy1'] at g8 g10
   rw [← hy2'] at g9 g11 hor ⊢
   rcases hor with ⟨h0,hq2⟩ | ⟨h0,hq2,P2⟩
   ·rw [hq2] at g11 ⊢
    have hn1:∃ m,n=m+1:=⟨n-1,by have:=P.m; omega⟩
    have hx:simpF n s zR false=nxR s:=by
     obtain ⟨m,hm⟩:=hn1
     subst hm
     simp [simpF,stopB]
    simp only [hx]
    obtain ⟨w2,hw2⟩:∃ w2,w2=d / c':=⟨_,rfl⟩
    have hw2d:w2≤d:=by rw [hw2]; exact Nat.div_le_self _ _
    have hfl2:flR s=Nv.mkI (w2:Int) 1:=by rw [fl_is Is1,hw2]; rfl
    have hnx2:nxR s=Nv.mkI ((w2+1:Nat):Int) 1:=by rw [nx_is Is1,hw2]; rfl
    have g12:=rgFloor Is1 osn.q hsn
    rw [← hw2] at g12
    have zw2:(zm (w2:Int)).size≤21:=zm_small (n:=w2) (k:=21) (by omega)
    have g13:=rfMk (w2:Int) 1 (by omega) (by omega) (by decide)
    rw [show Nv.mkI (w2:Int) (Int.natAbs 1)=Nv.mkI w2 1 from rfl,← hfl2,e1] at g13
    have of2:Sm (flR s):=by rw [hfl2]; exact sm_mk (by omega) (by decide)
    have g14:=xg2058 (flR s) oneR of2.q okQ_one
    rw [show addR (flR s) oneR=nxR s from rfl] at g14
    have onx2:Sm (nxR s):=by rw [hnx2]; exact sm_mk (by omega) (by decide)
    have g15:=rgDiv oneR (nxR s) o1 onx2.q
    have hd3:divQ oneR (nxR s)=(Nv.mkI 1 (w2+1),true):=by
     rw [div_is one_is (is_one (by decide) hnx2) (by omega)]
     simp; rfl
    have bg1:1<big:=by decide
    have o3:Sm (divQ oneR (nxR s)).1:=by rw [hd3]; show Sm (Nv.mkI 1 (w2+1)); exact sm_mk (by omega) (by omega)
    have h3:(divQ oneR (nxR s)).2=true:=by rw [hd3]
    rw [h3] at g15
    have g16:=xg2058 (flR lo) (divQ oneR (nxR s)).1 of'.q o3.q
    obtain ⟨y3,hy3⟩:∃ z,z=(divQ oneR (nxR s)).1:=⟨_,rfl⟩
    rw [← hy3] at g15 g16 ⊢
    obtain ⟨res,hres⟩:∃ z,z=addR (flR lo) y3:=⟨_,rfl⟩
    rw [← hres] at g16 ⊢
    obtain ⟨nx2,hnx2'⟩:∃ z,z=nxR s:=⟨_,rfl⟩
    rw [← hnx2'] at g14 g15
    obtain ⟨f2,hf2⟩:∃ z,z=flR s:=⟨_,rfl⟩
    rw [← hf2] at g13 g14
    obtain ⟨nx,hnx'⟩:∃ z,z=nxR lo:=⟨_,rfl⟩
    rw [← hnx'] at g6 g7
    obtain ⟨f,hf⟩:∃ z,z=flR lo:=⟨_,rfl⟩
    rw [← hf] at g4 g6 g8 g9 g16
    obtain ⟨W,hW⟩:∃ z:Int,z=(w:Int):=⟨_,rfl⟩
    rw [← hW] at g3 g4
    obtain ⟨W2,hW2⟩:∃ z:Int,z=(w2:Int):=⟨_,rfl⟩
    rw [← hW2] at g12 g13
    obtain ⟨o,ho⟩:∃ z,z=oneR:=⟨_,rfl⟩
    rw [← ho] at g5 g6 g10 g11 g14 g15
    refine acallsX (X:=[(98,x2098),(99,x2099),(89,x1100),(56,x2056),(58,x2058),(59,x2059),(57,x2057),(100,x2100),(60,x2060 n)]) ⟨kx2098,kx2099,kx1100,kx2056,kx2058,kx2059,kx2057,kx2100,kx,trivial⟩ tab hmix func60 c2060 (by rfl) fun hw=>?_
    simp -implicitDefEqProofs (disch:=omega) [gz,ir2060,b2060,b2060_0,b2060_1,b2060_2,b2060_3,b2060_4,b2060_5,b2060_6,b2060_7,b2060_8,b2060_9,b2060_10,b2060_11,b2060_12,s1,g1,g2,n1,n2,s2,g3,s3,g4,s4,g5,s5,g6,s6,g7,cs,s7,g8,g9,s8,g10,g11,g12,g13,g14,g15,g16,zR,fillC,splice]
    repeat' with_reducible apply And.intro
    all_goals first|omega|kernel_rfl|exact fun _ _=>rfl|skip
    exact fin_nil ⟨rfl,rfl⟩
   ·rw [hq2] at g11 ⊢
    obtain ⟨u,v,hx,u0,v0,ub,vb⟩:=P2.val
    obtain ⟨r,hr⟩:∃ z,z=Nv.mkI (b:Int) a':=⟨_,rfl⟩
    rw [← hr] at g11 P2 hx ⊢
    have g12:=xg2060 n s r P2
    have ox:Sm (simpF n s r true):=by rw [hx]; exact sm_mk (by omega) (by omega)
    have g15:=rgDiv oneR _ o1 ox.q
    have hd3:divQ oneR (simpF n s r true)=(Nv.mkI (v:Int) u,true):=by
     rw [div_is one_is (is_one v0 hx) (by omega)]
     simp
    have o3:Sm (divQ oneR (simpF n s r true)).1:=by rw [hd3]; show Sm (Nv.mkI (v:Int) u); exact sm_mk (by omega) (by omega)
    have h3:(divQ oneR (simpF n s r true)).2=true:=by rw [hd3]
    rw [h3] at g15
    have g16:=xg2058 (flR lo) _ of'.q o3.q
    obtain ⟨x,hx'⟩:∃ z,z=simpF n s r true:=⟨_,rfl⟩
    simp only [← hx'] at g12 g15 g16 ⊢
    obtain ⟨y3,hy3⟩:∃ z,z=(divQ oneR x).1:=⟨_,rfl⟩
    rw [← hy3] at g15 g16 ⊢
    obtain ⟨res,hres⟩:∃ z,z=addR (flR lo) y3:=⟨_,rfl⟩
    rw [← hres] at g16 ⊢
    obtain ⟨nx,hnx'⟩:∃ z,z=nxR lo:=⟨_,rfl⟩
    rw [← hnx'] at g6 g7
    obtain ⟨f,hf⟩:∃ z,z=flR lo:=⟨_,rfl⟩
    rw [← hf] at g4 g6 g8 g9 g16
    obtain ⟨W,hW⟩:∃ z:Int,z=(w:Int):=⟨_,rfl⟩
    rw [← hW] at g3 g4
    obtain ⟨o,ho⟩:∃ z,z=oneR:=⟨_,rfl⟩
    rw [← ho] at g5 g6 g10 g11 g15
    refine acallsX (X:=[(98,x2098),(99,x2099),(89,x1100),(56,x2056),(58,x2058),(59,x2059),(57,x2057),(100,x2100),(60,x2060 n)]) ⟨kx2098,kx2099,kx1100,kx2056,kx2058,kx2059,kx2057,kx2100,kx,trivial⟩ tab hmix func60 c2060 (by rfl) fun hw=>?_
    simp -implicitDefEqProofs (disch:=omega) [gz,ir2060,b2060,b2060_0,b2060_1,b2060_2,b2060_3,b2060_4,b2060_5,b2060_6,b2060_7,b2060_8,b2060_9,b2060_10,b2060_11,b2060_12,s1,g1,g2,n1,n2,s2,g3,s3,g4,s4,g5,s5,g6,s6,g7,cs,s7,g8,g9,s8,g10,g11,s9,g12,g15,g16,fillC,splice]
    repeat' with_reducible apply And.intro
    all_goals first|omega|kernel_rfl|exact fun _ _=>rfl|skip
    exact fin_nil ⟨rfl,rfl⟩
theorem kx2060 (n:Nat):Contract prog G0 60 (x2060 n):=mkX_scal (fun _=>rfl) fun p ⟨a,b,c,d,h⟩=>k2060 n p.1 p.2 a b c d h
def ahB (a b:TN):Bool:=if cmpR a.pl b.pl≠0 then decide (cmpR a.pl b.pl<0) else lessB a.node b.node
theorem k2088 (a b:TN) (ha:OkS a.pl) (hb:OkS b.pl):ACalls prog G0 88 [.agg (a.row.map .d),.agg (b.row.map .d)] [] fun t H=>t = .bool (ahB a b)∧H=[]:=by
 have s1:x2059.sc=true:=rfl
 have s2:x2047.sc=true:=rfl
 have g1:=xg2059 a.pl b.pl ha hb
 have g2:=xg2047 a.node b.node
 have irw':∀ x:Id,x.row=[.v (.string x.a),.v (.int .i64 x.n)]:=fun _=>rfl
 rw [irw',irw'] at g2
 unfold ahB
 obtain ⟨z,hz⟩:∃ z,z=cmpR a.pl b.pl:=⟨_,rfl⟩
 obtain ⟨L,hL⟩:∃ L,L=lessB a.node b.node:=⟨_,rfl⟩
 rw [← hz] at g1 ⊢
 rw [← hL] at g2 ⊢
 refine acallsX (X:=[(59,x2059),(47,x2047)]) ⟨kx2059,kx2047,trivial⟩ tab hmix func88 c2088 (by rfl) fun hw=>?_
 by_cases c:z=0
 ·rw [if_neg (by simp [c])]
  simp -implicitDefEqProofs (disch:=omega) [gz,ir2088,b2088,trw,s1,g1,c,s2,g2,fillC,splice]
  exact fin_nil ⟨rfl,rfl⟩
 ·rw [if_pos c]
  by_cases q:z<0
  ·rw [decide_eq_true q]
   simp -implicitDefEqProofs (disch:=omega) [gz,ir2088,b2088,trw,s1,g1,c,q,s2,g2,fillC,splice]
   exact fin_nil ⟨rfl,rfl⟩
  ·rw [decide_eq_false q]
   simp -implicitDefEqProofs (disch:=omega) [gz,ir2088,b2088,trw,s1,g1,c,q,s2,g2,fillC,splice]
   exact fin_nil ⟨rfl,rfl⟩
theorem injTT2 (a b:TN×TN) (h:[PVo.agg a.1.row,PVo.agg a.2.row]=[PVo.agg b.1.row,PVo.agg b.2.row]):a=b:=by
 simp only [List.cons.injEq,PVo.agg.injEq,and_true] at h
 exact Prod.ext (TN.row_inj h.1) (TN.row_inj h.2)
def x2088:XE:=mkX true (fun (p:TN×TN)=>[.agg p.1.row,.agg p.2.row]) (fun p=>OkS p.1.pl∧OkS p.2.pl) (fun p=>.bool (ahB p.1 p.2))
theorem kx2088:Contract prog G0 88 x2088:=mkX_scal (fun _=>rfl) fun p h=>k2088 p.1 p.2 h.1 h.2
theorem xg2088 (a b:TN) (ha:OkS a.pl) (hb:OkS b.pl):x2088.g [.agg a.row,.agg b.row]=some (True,.bool (ahB a b)):=mkX_g injTT2 (a,b) ⟨ha,hb⟩
abbrev kys (m:Spots):List Id:=m.map Prod.fst
theorem alook_of_mem {m:Spots} (hn:(kys m).Nodup) {x:Id} {t:TN} (h:(x,t)∈m):alook m x=some t:=by
 induction m with
 | nil=>cases h
 | cons p m ih =>
  obtain ⟨k,v⟩:=p
  simp only [kys,List.map_cons,List.nodup_cons] at hn
  simp only [alook]
  rcases List.mem_cons.1 h with q | q
  ·injection q with q1 q2
   subst q1; subst q2; simp
  ·have:¬ k=x:=fun e=>hn.1 (by rw [e]; exact List.mem_map_of_mem (f:=Prod.fst) q)
   rw [if_neg this]
   exact ih hn.2 q
theorem alook_none {m:Spots} {x:Id}:alook m x=none↔x ∉ kys m:=by
 induction m with
 | nil=>simp [alook]
 | cons p m ih =>
  obtain ⟨k,v⟩:=p
  simp only [alook,kys,List.map_cons,List.mem_cons,not_or]
  by_cases q:k=x
  ·subst q; simp
  ·rw [if_neg q,ih]
   exact ⟨fun h=>⟨fun e=>q e.symm,h⟩,fun h=>h.2⟩
theorem vals_nodup {m:Spots} (ho:OkM m):((m.map Prod.snd).map TN.node).Nodup:=by
 have:(m.map Prod.snd).map TN.node=m.map Prod.fst:=by
  rw [List.map_map]
  exact List.map_congr_left fun p hp=>ho.key p hp
 rw [this]; exact ho.nd
theorem aput_absent {m:Spots} {x:Id} {t:TN} (h:x ∉ kys m):aput m x t=m ++ [(x,t)]:=by
 induction m with
 | nil=>rfl
 | cons p m ih =>
  obtain ⟨k,v⟩:=p
  simp only [kys,List.map_cons,List.mem_cons,not_or] at h
  simp only [aput]
  rw [if_neg (fun e=>h.1 e.symm),ih h.2]; rfl
theorem addM_nodup {l:List TN} (hn:(l.map TN.node).Nodup):addM l=l.map fun t=>(t.node,t):=by
 have:∀ (l:List TN) (m:Spots),(kys m ++ l.map TN.node).Nodup→l.foldl (fun m t=>aput m t.node t) m=m ++ l.map fun t=>(t.node,t):=by
  intro l
  induction l with
  | nil=>intro m _; simp
  | cons t l ih =>
   intro m h
   have hx:t.node ∉ kys m:=fun q=>by
    rw [List.nodup_append] at h
    exact h.2.2 _ q t.node (by simp) rfl
   rw [List.foldl_cons,aput_absent hx,ih]
   ·simp
   ·rw [show kys (m ++ [(t.node,t)])=kys m ++ [t.node] by simp [kys],List.append_assoc]; exact h
 have h:=this l [] (by simpa using hn)
 simpa [addM] using h
theorem app_nodup (l:List TN) (es:List Edit):((appF l es).map TN.node).Nodup :=
 ((ssort_perm cmpN' _).map TN.node).nodup_iff.2 (vals_nodup (runM_ok (addM_ok l) es))
inductive Outs (l:List TN):List Id→Prop where
 | nil:Outs l []
 | snoc {o:List Id} {y:Id} (h:Outs l o) (hn:y ∉ o) (hr:y≠rootI) (t:TN) (ht:t∈l) (hy:t.node=y) (hp:t.par=rootI∨t.par∈o):Outs l (o ++ [y])
theorem Outs.before {l:List TN} {o:List Id} (h:Outs l o) (i:Nat) (hi:i<o.length):∃ t∈l,t.node=o[i]∧(t.par=rootI∨t.par∈o.take i):=by
 induction h with
 | nil=>simp at hi
 | @snoc o y h hn hr t ht he hp ih =>
  by_cases q:i<o.length
  ·obtain ⟨t',h1,h2,h3⟩:=ih q
   refine ⟨t',h1,by rw [h2,List.getElem_append_left q],?_⟩
   rw [List.take_append_of_le_length (by omega)]; exact h3
  ·have e:i=o.length:=by simp at hi; omega
   subst e
   refine ⟨t,ht,by simp [he],?_⟩
   rw [List.take_append_of_le_length (by omega),List.take_length]; exact hp
def cho (m:Spots):Nat→Id→Option Id
 | 0,x=>some x
 | j+1,x=>match alook m x with | none=>none | some t=>cho m j t.par
structure Tree (m:Spots):Prop where
 ok:OkM m
 no:∀ x∈kys m,x≠rootI∧x≠binI0
 en:∀ x∈kys m,∃ j up,cho m j x=some up∧(up=rootI∨up=binI0)
theorem look_fnd {l:List TN} (hn:(l.map TN.node).Nodup) {x:Id} {k:Nat} (h:fndT l x=some k):alook (addM l) x=some (nth l k):=by
 obtain ⟨h1,h2⟩:=fnd_spec h
 refine alook_of_mem (addM_ok l).nd ?_
 rw [addM_nodup hn]
 exact List.mem_map.2 ⟨nth l k,nth_mem h1,by rw [h2]⟩
theorem lessB_iff (a b:Id):lessB a b=true↔lessZ a b<0:=by
 have e:lessZ a b=orI [cmpA a.a b.a,cmpI a.n b.n]:=rfl
 have l1:=strLt_eq a.a b.a
 have c:=cmpS_eq a.a b.a
 rw [e]
 unfold lessB
 simp only [orI]
 by_cases q:a.a=b.a
 ·have q2:=c.2 q
  rw [if_pos q]
  have:cmpA a.a b.a=0:=by unfold cmpA sg3; rw [q2]; rfl
  rw [if_neg (by omega)]
  unfold cmpI
  simp only [decide_eq_true_eq]
  repeat' split
  all_goals omega
 ·have q2:cmpS a.a b.a≠0:=fun h=>q (c.1 h)
  rw [if_neg q,l1]
  have:cmpA a.a b.a=if cmpS a.a b.a<0 then -1 else 1:=by
   unfold cmpA sg3
   split
   ·rfl
   ·rw [if_pos (by omega)]
  rw [this]
  simp only [decide_eq_true_eq]
  repeat' split
  all_goals omega
theorem chk_parts {l:List TN} (h:chkT l=true) {i:Nat} (hi:i<l.length):chk1 l i=true:=by
 unfold chkT at h
 rw [List.all_eq_true] at h
 exact h i (List.mem_range.2 hi)
theorem pw_chain {l:List TN} (h:∀ i,0<i→i<l.length→cmpN' (nth l (i-1)) (nth l i)<0):∀ i j,i<j→j<l.length→cmpN' (nth l i) (nth l j)<0:=by
 intro i j hij
 induction j with
 | zero=>omega
 | succ j ih =>
  intro hj
  have h1:=h (j+1) (by omega) hj
  rw [show j+1-1=j by omega] at h1
  by_cases q:i=j
  ·subst q; exact h1
  ·have h2:=ih (by omega) (by omega)
   exact cmpN_pre.lt_le h2 (by omega)
theorem chk_less {l:List TN} (h:chkT l=true):l.Pairwise fun a b=>cmpN' a b<0:=by
 rw [List.pairwise_iff_getElem]
 intro i j hi hj hij
 have key:=pw_chain (l:=l) (fun i h0 hi=>by
  have h1:=chk_parts h hi
  unfold chk1 at h1
  simp only [Bool.and_eq_true,Bool.or_eq_true,decide_eq_true_eq] at h1
  rcases h1.2.1 with q | q
  ·omega
  ·exact (lessB_iff _ _).1 q) i j hij hj
 rw [nth_eq hi,nth_eq hj] at key
 exact key
theorem less_nodup {l:List TN} (h:l.Pairwise fun a b=>cmpN' a b<0):(l.map TN.node).Nodup:=by
 rw [List.Nodup,List.pairwise_map]
 refine h.imp fun {a b} h e=>?_
 have:cmpN' a b=cmpN' a a:=by show lessZ a.node b.node=lessZ a.node a.node; rw [e]
 rw [this,cmpN_pre.rf] at h
 omega
section
variable {m:Spots} {s:TN} {e1 e2:Edit}
end
theorem mem_addM {l:List TN} (hn:(l.map TN.node).Nodup) {t:TN}:t∈l↔(t.node,t)∈addM l:=by
 rw [addM_nodup hn]
 constructor
 ·intro h; exact List.mem_map_of_mem (f:=fun t:TN=>(t.node,t)) h
 ·intro h
  obtain ⟨t',h1,h2⟩:=List.mem_map.1 h
  injection h2 with h2 h3
  rw [← h3]; exact h1
theorem app_len (l:List TN) (es:List Edit):(appF l es).length≤l.length+es.length:=by
 have h1:=addM_len l
 have h2:=runM_len es (addM l)
 have h3:=(ssort_perm cmpN' ((runM (addM l) es).map Prod.snd)).length_eq
 rw [List.length_map] at h3
 show (ssort cmpN' _).length≤_
 omega
theorem at_mem {l:List TN} {x:Id} (h:0≤atF l x):x∈l.map TN.node:=by
 unfold atF at h
 cases q:fndT l x with
 | none=>rw [q] at h; simp at h
 | some i =>
  obtain ⟨h1,h2⟩:=fnd_spec q
  rw [← h2]
  exact List.mem_map_of_mem (nth_mem h1)
theorem spt_parts {l:List TN} (h:sptT l=true):l.length≤40∧(∀ t∈l,OkQ t.pl)∧chkT l=true:=by
 unfold sptT at h
 simp only [Bool.and_eq_true,decide_eq_true_eq,List.all_eq_true] at h
 refine ⟨h.1,fun t ht=>?_,h.2.2⟩
 obtain ⟨i,hi,e⟩:=List.mem_iff_getElem.1 ht
 have h1:=h.2.1 i (List.mem_range.2 hi)
 rw [nth_eq hi,e] at h1
 unfold spB at h1
 simp only [Bool.and_eq_true,decide_eq_true_eq] at h1
 have h2:=h1.2.1
 unfold fitsR at h2
 simp only [Bool.and_eq_true,decide_eq_true_eq] at h2
 exact ⟨by rw [← h1.1.2.1]; omega,by rw [← h1.1.2.2]; omega⟩
theorem app_pl (P:Nv.Rt→Prop) {l:List TN} {es:List Edit} (h1:∀ t∈l,P t.pl) (h2:∀ e∈es,P (plc e)):∀ t∈appF l es,P t.pl:=by
 have key:∀ (es:List Edit) (m:Spots),(∀ p∈m,P p.2.pl)→(∀ e∈es,P (plc e))→∀ p∈runM m es,P p.2.pl:=by
  intro es
  induction es with
  | nil=>intro m hm _; exact hm
  | cons e es ih =>
   intro m hm he
   refine ih _ (fun p hp=>?_) fun e' h'=>he e' (List.mem_cons_of_mem _ h')
   have hpe:=he e (List.mem_cons_self ..)
   unfold stepM at hp
   split at hp
   ·split at hp
    ·rcases aput_mem hp with q | q
     ·rw [q]; exact hpe
     ·exact hm p q
    ·exact hm p hp
   ·split at hp
    ·split at hp
     ·split at hp
      ·rcases aput_mem hp with q | q
       ·rw [q]; exact hpe
       ·exact hm p q
      ·exact hm p hp
     ·exact hm p hp
    ·exact hm p hp
 have hadd:∀ (l:List TN) (m:Spots),(∀ p∈m,P p.2.pl)→(∀ t∈l,P t.pl)→∀ p∈l.foldl (fun m t=>aput m t.node t) m,P p.2.pl:=by
  intro l
  induction l with
  | nil=>intro m hm _; exact hm
  | cons t l ih =>
   intro m hm hl
   refine ih _ (fun p hp=>?_) fun t' h'=>hl t' (List.mem_cons_of_mem _ h')
   rcases aput_mem hp with q | q
   ·rw [q]; exact hl t (List.mem_cons_self ..)
   ·exact hm p q
 intro t ht
 unfold appF at ht
 rw [(ssort_perm cmpN' _).mem_iff] at ht
 obtain ⟨p,hp,rfl⟩:=List.mem_map.1 ht
 exact key es (addM l) (hadd l [] (fun p hp=>nomatch hp) h1) h2 p hp
def tC (s:TN):List C:=[.d (.v (.string s.node.a)),.d (.v (.int .i64 s.node.n)),.d (.v (.string s.par.a)),.d (.v (.int .i64 s.par.n)),.d (.v (.bool s.pl.neg)),.d (.v (.string s.pl.num)),.d (.v (.string s.pl.den)),.d (.v (.string s.kind))]
theorem fnd_ex {g:List TN} {x:Id} (h:x∈g.map TN.node):∃ k,fndT g x=some k:=by
 cases q:fndT g x with
 | some k=>exact ⟨k,rfl⟩
 | none =>
  exfalso
  unfold fndT at q
  rw [List.findIdx?_eq_none_iff] at q
  obtain ⟨t,ht,rfl⟩:=List.mem_map.1 h
  have:=q t ht
  simp at this
structure NodeOk (x:Id):Prop where
 a:authB x.a=true
 l:1≤x.n
 u:x.n≤1000000000
theorem NodeOk.no {x:Id} (h:NodeOk x):x≠rootI∧x≠binI0:=by
 have:=h.l
 constructor
 ·intro e; rw [e] at this; simp [rootI] at this
 ·intro e; rw [e] at this; simp [binI0] at this
theorem fnd_at {g:List TN} {x:Id} {p:Nat} (h:fndT g x=some p):atF g x=(p:Int):=by unfold atF; rw [h]
theorem ahB_iff (a b:TN):ahB a b=true↔cmpT a b<0:=by
 have e:cmpT a b=orI [cmpR a.pl b.pl,lessZ a.node b.node]:=rfl
 rw [e]
 unfold ahB
 simp only [orI]
 by_cases c:cmpR a.pl b.pl=0
 ·rw [if_neg (by simp [c]),if_neg (by simp [c]),lessB_iff]
  by_cases q:lessZ a.node b.node=0
  ·rw [if_neg (by simp [q])]; omega
  ·rw [if_pos q]
 ·rw [if_pos c,if_pos c,decide_eq_true_eq]
def insA (x:TN) (out:List TN):List TN:=out.take ((out.takeWhile fun t=>ahB t x).length) ++ x :: out.drop ((out.takeWhile fun t=>ahB t x).length)
def spF (l:List TN) (up:Id):List TN:=(l.filter fun t=>decide (t.par=up)).foldl (fun o x=>insA x o) []
theorem insA_perm (x:TN) (out:List TN):(insA x out).Perm (x :: out):=by
 unfold insA
 refine List.perm_middle.trans ?_
 rw [List.take_append_drop]
theorem foldA_perm (l:List TN):∀ o:List TN,(l.foldl (fun o x=>insA x o) o).Perm (l ++ o):=by
 induction l with
 | nil=>intro o; exact List.Perm.refl _
 | cons x l ih =>
  intro o
  rw [List.foldl_cons]
  refine (ih _).trans ?_
  refine (List.Perm.append_left l (insA_perm x o)).trans ?_
  exact List.perm_middle
theorem cmpT_strict {a b:TN} (h:a.node≠b.node):cmpT a b≠0:=by
 have e:cmpT a b=orI [cmpR a.pl b.pl,lessZ a.node b.node]:=rfl
 rw [e]
 simp only [orI]
 by_cases c:cmpR a.pl b.pl=0
 ·rw [if_neg (by simp [c])]
  have:lessZ a.node b.node≠0:=fun q=>h (lessZ_eq q)
  rw [if_pos this]; exact this
 ·rw [if_pos c]; exact c
theorem tw_split {x:TN} {o:List TN} (hs:o.Pairwise fun a b=>cmpT a b<0) (hx:x.node ∉ o.map TN.node) :
  (∀ t∈o.take ((o.takeWhile fun t=>ahB t x).length),cmpT t x<0)∧∀ t∈o.drop ((o.takeWhile fun t=>ahB t x).length),cmpT x t<0:=by
 induction o with
 | nil=>exact ⟨fun t ht=>by simp at ht,fun t ht=>by simp at ht⟩
 | cons u o ih =>
  obtain ⟨h1,h2⟩:=List.pairwise_cons.1 hs
  by_cases h:ahB u x=true
  ·rw [List.takeWhile_cons,if_pos h]
   obtain ⟨i1,i2⟩:=ih h2 (fun q=>hx (by simp at q ⊢; exact .inr q))
   refine ⟨fun t ht=>?_,fun t ht=>?_⟩
   ·simp only [List.length_cons,List.take_succ_cons] at ht
    rcases List.mem_cons.1 ht with q | q
    ·rw [q]; exact (ahB_iff _ _).1 h
    ·exact i1 t q
   ·simp only [List.length_cons,List.drop_succ_cons] at ht
    exact i2 t ht
  ·rw [List.takeWhile_cons,if_neg h]
   refine ⟨fun t ht=>by simp at ht,fun t ht=>?_⟩
   simp only [List.length_nil,List.drop_zero] at ht
   have k1:¬ cmpT u x<0:=fun q=>h ((ahB_iff _ _).2 q)
   have k2:cmpT u x≠0:=cmpT_strict fun q=>hx (by simp [← q])
   have k3:cmpT x u<0:=by
    have:=cmpT_pre.sgn x u
    omega
   rcases List.mem_cons.1 ht with q | q
   ·rw [q]; exact k3
   ·exact cmpT_pre.lt_le k3 (by have:=h1 t q; omega)
theorem insA_srt {x:TN} {o:List TN} (hs:o.Pairwise fun a b=>cmpT a b<0) (hx:x.node ∉ o.map TN.node):(insA x o).Pairwise fun a b=>cmpT a b<0:=by
 obtain ⟨p1,p2⟩:=tw_split hs hx
 unfold insA
 rw [List.pairwise_append]
 refine ⟨hs.sublist (List.take_sublist _ _),List.pairwise_cons.2 ⟨fun b hb=>p2 b hb,hs.sublist (List.drop_sublist _ _)⟩,fun a h1 b h2=>?_⟩
 rcases List.mem_cons.1 h2 with h3 | h3
 ·rw [h3]; exact p1 a h1
 ·exact cmpT_pre.lt_le (p1 a h1) (by have:=p2 b h3; omega)
theorem foldA_srt (l:List TN):∀ o:List TN,((l ++ o).map TN.node).Nodup→o.Pairwise (fun a b=>cmpT a b<0)→(l.foldl (fun o x=>insA x o) o).Pairwise fun a b=>cmpT a b<0:=by
 induction l with
 | nil=>intro o _ h; exact h
 | cons x l ih =>
  intro o hn h
  rw [List.cons_append,List.map_cons,List.nodup_cons] at hn
  have hx:x.node ∉ o.map TN.node:=fun q=>hn.1 (by rw [List.map_append]; exact List.mem_append_right _ q)
  rw [List.foldl_cons]
  refine ih _ ?_ (insA_srt h hx)
  have hp:(l ++ insA x o).Perm (x :: (l ++ o)):=(List.Perm.append_left l (insA_perm x o)).trans List.perm_middle
  refine ((hp.map TN.node).nodup_iff).2 ?_
  rw [List.map_cons,List.nodup_cons]
  exact hn
theorem sp_sib {l:List TN} (hn:(l.map TN.node).Nodup) (up:Id):spF l up=sibF l up:=by
 have hf:((l.filter fun t=>decide (t.par=up)).map TN.node).Nodup:=hn.sublist ((List.filter_sublist).map TN.node)
 have s1:=foldA_srt (l.filter fun t=>decide (t.par=up)) [] (by rw [List.append_nil]; exact hf) List.Pairwise.nil
 have p1:=foldA_perm (l.filter fun t=>decide (t.par=up)) []
 rw [List.append_nil] at p1
 have p2:=ssort_perm cmpT (l.filter fun t=>decide (t.par=up))
 have s2:(sibF l up).Pairwise fun a b=>cmpT a b<0:=by
  have hs:=ssort_srt cmpT_pre (l.filter fun t=>decide (t.par=up))
  have hn2:((sibF l up).map TN.node).Nodup:=((p2.map TN.node).nodup_iff).2 hf
  rw [List.Nodup,List.pairwise_map] at hn2
  refine (List.pairwise_and_iff.2 ⟨hs,hn2⟩).imp fun {a b} h=>?_
  have h1:cmpT a b≤0:=h.1
  have h2:=cmpT_strict h.2
  omega
 have p2':(sibF l up).Perm (l.filter fun t=>decide (t.par=up)):=p2
 refine pw_ext (R:=fun a b=>cmpT a b<0) (fun a b h1 h2=>?_) (fun a h=>?_) s1 s2 fun x=>?_
 ·have:=cmpT_pre.sgn a b; omega
 ·have:=cmpT_pre.rf a; omega
 ·exact p1.mem_iff.trans p2'.mem_iff.symm
def preT (tt:TT) (l:List Nat):TT:=tt.map fun p=>(p.1,⟨p.2.kind,p.2.size,p.2.bytes,p.2.zero,p.2.agg,p.2.eqOk,l.contains p.1⟩)
def tt2:TT:=preT tt [39,40]
theorem tab2:tabB prog tt2=true:=by kernel_rfl
def b2145_0:AC:=(R_ 1 [
 o_ 3 (Bx 0 1),
 o_ 4 (Mn)])
def b2145_1:AC:=(R_ 1 [
 o_ 8 (.bsl 0 8 [(.v (.string ⟨#[]⟩)),(.v (.int .i64 0)),(.v (.string ⟨#[]⟩)),(.v (.int .i64 0)),(.v (.bool false)),(.v (.string ⟨#[]⟩)),(.v (.string ⟨#[]⟩)),(.v (.string ⟨#[]⟩))] 0 []),
 m_ 5 8])
def b2145_2:AC:=(S_ (Z_ [
 m_ 9 0,
 o_ 10 (Ll 9),
 o_ 11 (Mi 0)])
  (B_ 0 (W_ (S_ (Z_ [
 o_ 12 (Bt .lss 11 10)])
  (S_ (K_ 12 .skip (.exit 0))
  (S_ (B_ 1 (S_ (Z_ [
 m_ 13 11,
 m_ 6 13])
  (S_ (S_ (.dregion 0 [
 m_ 14 0,
 m_ 15 6,
 o_ 16 (Ia 8 14 15),
 o_ 17 (Fa 2 16),
 o_ 18 (Ld 2 17),
 o_ 19 (Ld 2 3),
 o_ 20 (.eqA true [.s,(.i .i64)] (t_ 18) (t_ 19))] [[],[],[0,1],[2],[3],[],[4,5]])
  (K_ 20 (.exit 1) .skip))
  (S_ (Z_ [
 o_ 7 (Mi 0)])
  (S_ (B_ 2 (W_ (S_ (S_ (.dregion 0 [
 m_ 21 7,
 m_ 22 5,
 o_ 23 (Ll 22),
 o_ 24 (Bt .lss 21 23),
 m_ 25 24,
 g_ 26 (Mv 5) 25 true,
 g_ 27 (Mv 7) 25 true,
 g_ 28 (Ia 8 26 27) 25 true,
 g_ 29 (Ld 8 28) 25 true,
 g_ 30 (Mv 0) 25 true,
 g_ 31 (Mv 6) 25 true,
 g_ 32 (Ia 8 30 31) 25 true,
 g_ 33 (Ld 8 32) 25 true,
 g_ 34 (Cb 88 29 33) 25 true,
 o_ 35 (Pf 25 34)] [[],[],[1],[0,2],[3],[4],[4],[5,6,4],[7,4],[4],[4],[9,10,4],[11,4],[8,12,4,4],[4,13]])
  (K_ 35 .skip (.exit 2)))
  (B_ 3 (Z_ [
 m_ 36 7,
 o_ 37 (Bi .add 36 1),
 m_ 7 37])))))
  (.dregion 3 [
 m_ 38 5,
 m_ 39 7,
 o_ 40 (.slice 8 (t_ 38) none (some (t_ 39))),
 m_ 41 0,
 m_ 42 6,
 o_ 43 (Ia 8 41 42),
 o_ 44 (Ld 8 43),
 o_ 45 (.bsl 0 8 [(.v (.string ⟨#[]⟩)),(.v (.int .i64 0)),(.v (.string ⟨#[]⟩)),(.v (.int .i64 0)),(.v (.bool false)),(.v (.string ⟨#[]⟩)),(.v (.string ⟨#[]⟩)),(.v (.string ⟨#[]⟩))] 1 [(0,(t_ 44))]),
 m_ 46 5,
 m_ 47 7,
 o_ 48 (.slice 8 (t_ 46) (some (t_ 47)) none),
 o_ 49 (.app true 1 8 104 (t_ 45) (t_ 48)),
 o_ 50 (.app true 2 8 104 (t_ 40) (t_ 49)),
 m_ 5 50] [[],[],[0,1],[],[],[3,4],[5],[6],[],[],[8,9],[7,10],[2,11,11],[12,12,0,1,2,3,4,5,6,7,8,9,10,11,12]]))))))
  (Z_ [
 o_ 51 (Bi .add 11 1),
 m_ 11 51])))))))
def b2145_3:AC:=(Z_ [
 m_ 52 5,
 m_ 4 52])
def b2145_4:AC:=.ret
def b2145:AC:=(S_ b2145_0 (S_ b2145_1 (S_ b2145_2 (S_ b2145_3 b2145_4))))
def ir2145:AF:=⟨53,[(.tmp 4)],b2145⟩
theorem c2145:compF tt2 f45=some ir2145:=by kernel_rfl
end Go.Aw.Try
namespace Go.Aw
open Go
end Go.Aw
namespace Go.Aw.Try
open Go Go.Proofs Go.Aw
set_option maxRecDepth 100000
set_option maxHeartbeats 4000000
theorem tw_eq {o:List TN} {t:TN} {k:Nat} (hk:k≤o.length) (h1:∀ j,j<k→ahB (nth o j) t=true) (h2:k<o.length→ahB (nth o k) t=false):k=(o.takeWhile fun u=>ahB u t).length:=by
 induction o generalizing k with
 | nil=>simp at hk; simp [hk]
 | cons u o ih =>
  cases k with
  | zero =>
   have:=h2 (by simp)
   rw [show nth (u :: o) 0=u from rfl] at this
   simp [List.takeWhile_cons,this]
  | succ k =>
   have h0:=h1 0 (by omega)
   rw [show nth (u :: o) 0=u from rfl] at h0
   have:=ih (k:=k) (by simpa using hk) (fun j hj=>h1 (j+1) (by omega)) (fun h=>h2 (by simpa using h))
   simp [List.takeWhile_cons,h0,this]
theorem sp_mem {l:List TN} {up:Id} {t:TN} (h:t∈spF l up):t∈l:=by
 have h1:=(foldA_perm (l.filter fun t=>decide (t.par=up)) []).mem_iff.1 h
 rw [List.append_nil] at h1
 exact (List.mem_filter.1 h1).1
theorem sp_len (l:List TN) (up:Id):(spF l up).length≤l.length:=by
 have h1:=(foldA_perm (l.filter fun t=>decide (t.par=up)) []).length_eq
 rw [List.append_nil] at h1
 exact Nat.le_trans (Nat.le_of_eq h1) (List.length_filter_le _ _)
theorem k2145 (l:List TN) (up:Id) (h:∀ t∈l,OkS t.pl) (hl:l.length<1000000000) (H:List O) :
  ACalls prog G0 45 [.c (.d (.sl (l.map TN.row))),.agg (up.row.map .d)] H (Own H 8 ((spF l up).map TN.row)):=by
 have s1:x2088.sc=true:=rfl
 have hu:up.row=[.v (.string up.a),.v (.int .i64 up.n)]:=rfl
 refine acallsX (X:=[(88,x2088)]) ⟨kx2088,trivial⟩ tab2 hmix func45 c2145 (by rfl) fun hw=>?_
 have n0:¬ H.length<H.length:=by omega
 simp -implicitDefEqProofs (disch:=omega) [gz,ir2145,b2145,b2145_0,b2145_1,b2145_2,hu,fillC,fillR,splice,Nat.add_assoc]
 refine loopE (fun k st=>∃ i,i≤l.length∧k=l.length-i ∧
   st=⟨ofL [(0,.v (.c (.d (.sl (l.map TN.row))))),(3,.v (.c (.ptr H.length 0))),(5,.v (.c (.os (H.length+1) 8 0 (spF (l.take i) up).length))),(10,.int .i64 l.length),(11,.int .i64 i)],H ++ [.cells [.d (.v (.string up.a)),.d (.v (.int .i64 up.n))],.row 8 ((spF (l.take i) up).map TN.row)]⟩)
  (AtS [(5,.v (.c (.os (H.length+1) 8 0 (spF l up).length)))] (H ++ [.cells [.d (.v (.string up.a)),.d (.v (.int .i64 up.n))],.row 8 ((spF l up).map TN.row)])) ?_ ?_ ?_
 ·refine wk_pre [0,1] [0,3,5,10,11] hw rfl ⟨_,0,by omega,rfl,?_⟩
  simp [phiP,phi,O.ren,C.ren,n0,spF]
 ·rintro J M hJ hM k st ⟨i,hi,rfl,rfl⟩
  by_cases hlt:i<l.length
  ·obtain ⟨t,ht⟩:∃ t,nth l i=t:=⟨_,rfl⟩
   have htl:t∈l:=by rw [← ht]; exact nth_mem hlt
   have hnx:spF (l.take (i+1)) up=if t.par=up then insA t (spF (l.take i) up) else spF (l.take i) up:=by
    unfold spF
    rw [take_nth hlt,List.filter_append,ht,List.foldl_append]
    by_cases q:t.par=up <;> simp [q]
   have hol:=sp_len (l.take i) up
   rw [List.length_take] at hol
   have hom:∀ u∈spF (l.take i) up,u∈l:=fun u hu=>List.mem_of_mem_take (sp_mem hu)
   obtain ⟨o,ho⟩:∃ o,o=spF (l.take i) up:=⟨_,rfl⟩
   rw [← ho] at hnx hol hom ⊢
   have hid:=cells_id t.par up
   cases hp:decide (t.par=up)
   ·rw [hp] at hid
    simp only [decide_eq_false_iff_not] at hp
    rw [if_neg hp] at hnx
    simp -implicitDefEqProofs (disch:=omega) [gz,hlt,wrap64,nth_map,ht,trw,hid,fillC,splice]
    repeat' with_reducible apply And.intro
    all_goals first|omega|kernel_rfl|exact fun _ _=>rfl|skip
    subst hJ
    refine wk_pre [0,1] [0,3,5,10,11] hw rfl ⟨l.length-(i+1),by omega,i+1,by omega,rfl,?_⟩
    rw [hnx]
    simp [phiP,phi,O.ren,C.ren,n0]
   ·rw [hp] at hid
    simp only [decide_eq_true_eq] at hp
    rw [if_pos hp] at hnx
    simp -implicitDefEqProofs (disch:=omega) [gz,hlt,wrap64,nth_map,ht,trw,hid,fillC,splice]
    repeat' with_reducible apply And.intro
    all_goals first|omega|kernel_rfl|exact fun _ _=>rfl|skip
    refine loopE (fun k st=>∃ m,m≤o.length∧k=o.length-m∧(∀ j,j<m→ahB (nth o j) t=true) ∧
      st=⟨ofL [(0,.v (.c (.d (.sl (l.map TN.row))))),(3,.v (.c (.ptr H.length 0))),(5,.v (.c (.os (H.length+1) 8 0 o.length))),(6,.int .i64 i),(7,.int .i64 m),(10,.int .i64 l.length),(11,.int .i64 i)],H ++ [.cells [.d (.v (.string up.a)),.d (.v (.int .i64 up.n))],.row 8 (o.map TN.row)]⟩)
     (AtS [(0,.v (.c (.d (.sl (l.map TN.row))))),(3,.v (.c (.ptr H.length 0))),(5,.v (.c (.os (H.length+1) 8 0 o.length))),(6,.int .i64 i),(7,.int .i64 (o.takeWhile fun u=>ahB u t).length),(10,.int .i64 l.length),(11,.int .i64 i)] (H ++ [.cells [.d (.v (.string up.a)),.d (.v (.int .i64 up.n))],.row 8 (o.map TN.row)])) ?_ ?_ ?_
    ·refine wk_pre [0,1] [0,3,5,6,7,10,11] hw rfl ⟨_,0,by omega,rfl,(fun j hj=>absurd hj (Nat.not_lt_zero j)),?_⟩
     simp [phiP,phi,O.ren,C.ren,n0]
    ·rintro J2 M2 hJ2 hM2 k st ⟨m,hm,rfl,hb,rfl⟩
     by_cases hmt:m<o.length
     ·obtain ⟨u,hut⟩:∃ u,nth o m=u:=⟨_,rfl⟩
      have g1:=xg2088 u t (h u (hom u (by rw [← hut]; exact nth_mem hmt))) (h t htl)
      rw [trw,trw] at g1
      cases hB:ahB u t
      ·rw [hB] at g1
       have e0:=tw_eq hm hb (fun _=>by rw [hut]; exact hB)
       simp -implicitDefEqProofs (disch:=omega) [gz,hlt,hmt,wrap64,nth_map,ht,hut,trw,s1,g1,fillC,splice]
       repeat' with_reducible apply And.intro
       all_goals first|omega|kernel_rfl|exact fun _ _=>rfl|skip
       subst hM2
       rw [← e0]
       exact at_mk (by simp) rfl
      ·rw [hB] at g1
       simp -implicitDefEqProofs (disch:=omega) [gz,hlt,hmt,wrap64,nth_map,ht,hut,trw,s1,g1,fillC,splice]
       repeat' with_reducible apply And.intro
       all_goals first|omega|kernel_rfl|exact fun _ _=>rfl|skip
       subst hJ2
       refine wk_pre [0,1] [0,3,5,6,7,10,11] hw rfl ⟨o.length-(m+1),by omega,m+1,by omega,rfl,(fun j hj=>?_),?_⟩
       ·by_cases q:j=m
        ·rw [q,hut]; exact hB
        ·exact hb j (by omega)
       ·simp [phiP,phi,O.ren,C.ren,n0]
     ·have e0:=tw_eq hm hb (fun h=>absurd h hmt)
      simp -implicitDefEqProofs (disch:=omega) [gz,hmt,wrap64,fillC,splice]
      repeat' with_reducible apply And.intro
      all_goals first|omega|kernel_rfl|exact fun _ _=>rfl|skip
      subst hM2
      rw [← e0]
      exact at_mk (by simp) rfl
    ·rintro _ ⟨sl,rfl⟩
     have hpl:(o.takeWhile fun u=>ahB u t).length≤o.length:=(List.takeWhile_prefix _).length_le
     have hnx2:insA t o=o.take (o.takeWhile fun u=>ahB u t).length ++ t :: o.drop (o.takeWhile fun u=>ahB u t).length:=rfl
     obtain ⟨m,hm⟩:∃ m,m=(o.takeWhile fun u=>ahB u t).length:=⟨_,rfl⟩
     rw [← hm] at hpl hnx2 ⊢
     have hc1:1+(o.length-m)≤o.length-m+1:=by omega
     have tE:∀ r:List D,((r :: (List.drop m (o.map TN.row))).take (1+(o.length-m)))=r :: List.drop m (o.map TN.row):=fun r=>List.take_of_length_le (by simp; omega)
     simp -implicitDefEqProofs (disch:=omega) [gz,hlt,hpl,hc1,tE,wrap64,nth_map,ht,trw,fillC,fillR,splice,Nat.add_assoc]
     repeat' with_reducible apply And.intro
     all_goals first|omega|kernel_rfl|exact fun _ _=>rfl|skip
     ·exact fun y hy=>by obtain ⟨u,_,rfl⟩:=List.mem_map.1 (List.mem_of_mem_drop (List.mem_of_mem_take hy)); rfl
     ·intro y hy
      rcases List.mem_cons.1 (List.mem_of_mem_take hy) with rfl | hy
      ·rfl
      ·obtain ⟨u,_,rfl⟩:=List.mem_map.1 (List.mem_of_mem_drop (List.mem_of_mem_take hy)); rfl
     subst hJ
     refine wk_pre [0,4] [0,3,5,10,11] hw rfl ⟨l.length-(i+1),by omega,i+1,by omega,rfl,?_⟩
     have n4:¬ H.length+4<H.length:=by omega
     have tF:(List.drop m (o.map TN.row)).take (o.length-m)=List.drop m (o.map TN.row):=List.take_of_length_le (by simp)
     have hL:m+(1+(o.length-m))=(insA t o).length:=by rw [hnx2]; simp; omega
     rw [hnx]
     simp [phiP,phi,O.ren,C.ren,n0,n4,tE,tF,hL]
     rw [hnx2]
     simp [trw]
  ·have:i=l.length:=by omega
   subst this
   rw [List.take_length]
   simp -implicitDefEqProofs (disch:=omega) [gz,hlt]
   subst hM
   exact at_mk (by simp) rfl
 ·rintro _ ⟨sl,rfl⟩
  simp -implicitDefEqProofs (disch:=omega) [gz,b2145_3,b2145_4,wrap64]
  exact fin_own (k:=1) hw (by simp) (by simp)
end Go.Aw.Try
namespace Go.Aw
open Go
end Go.Aw
namespace Go.Aw.Try
open Go Go.Proofs Go.Aw
set_option maxRecDepth 100000
set_option maxHeartbeats 4000000
def x2145:XE:=mkX false (fun (p:List TN×Id)=>[.c (.sl (p.1.map TN.row)),.agg p.2.row]) (fun p=>(∀ t∈p.1,OkS t.pl)∧p.1.length<1000000000) (fun p=>.v (.c (.d (.sl ((spF p.1 p.2).map TN.row)))))
theorem kx2145:Contract prog G0 45 x2145:=mkX_data fun p h H=>own_data (k2145 p.1 p.2 h.1 h.2 H)
theorem xg2145 (l:List TN) (b:Id) (h:∀ t∈l,OkS t.pl) (hl:l.length<1000000000):x2145.g [.c (.sl (l.map TN.row)),.agg b.row]=some (True,.v (.c (.d (.sl ((spF l b).map TN.row))))):=mkX_g injTI (l,b) ⟨h,hl⟩
theorem k2018 (l:List TN) (b:Id) (h:∀ t∈l,OkS t.pl) (hl:l.length<1000000000) (H:List O) :
  ACalls prog G0 18 [.c (.d (.sl (l.map TN.row))),.agg (b.row.map .d)] H (Own H 2 (((spF l b).map TN.node).map Id.row)):=by
 have s1:x2145.sc=false:=rfl
 have g1:=xg2145 l b h hl
 have hsl:=sp_len l b
 obtain ⟨S,hS⟩:∃ S,S=spF l b:=⟨_,rfl⟩
 rw [← hS] at g1 hsl ⊢
 have hb:b.row=[.v (.string b.a),.v (.int .i64 b.n)]:=rfl
 rw [hb] at g1
 refine acallsX (X:=[(45,x2145)]) ⟨kx2145,trivial⟩ tab hmix func18 c2018 (by rfl) fun hw=>?_
 have n0:¬ H.length<H.length:=by omega
 simp -implicitDefEqProofs (disch:=omega) [gz,ir2018,b2018,hb,s1,g1,fillC,fillR,splice,toPVs,frzVs,osVs,toPV,Nat.add_assoc]
 repeat' with_reducible apply And.intro
 all_goals first|omega|kernel_rfl|exact fun _ _=>rfl|skip
 refine loopE (fun k st=>∃ (i:Nat),i≤S.length∧k=S.length-i ∧
   st=⟨ofL [(5,.v (.c (.d (.sl (S.map TN.row))))),(6,.v (.c (.os H.length 2 0 i))),(13,.int .i64 S.length),(14,.int .i64 i)],H ++ [.row 2 (((S.take i).map TN.node).map Id.row)]⟩)
  (fun st=>AtS [(6,.v (.c (.os H.length 2 0 S.length)))] (H ++ [.row 2 ((S.map TN.node).map Id.row)]) st) ?_ ?_ ?_
 ·refine wk_pre [1] [5,6,13,14] hw rfl ⟨_,0,by omega,rfl,?_⟩
  have n1:¬ H.length+1<H.length:=by omega
  simp [phiP,phi,O.ren,C.ren,n1]
 ·rintro J L hJ hL k st ⟨i,hi,rfl,rfl⟩
  by_cases hlt:i<S.length
  ·obtain ⟨t,ht⟩:∃ t,nth S i=t:=⟨_,rfl⟩
   have hnext:(S.take (i+1)).map TN.node=(S.take i).map TN.node ++ [t.node]:=by
    rw [take_nth hlt,List.map_append,ht]; rfl
   have hAl:((S.take i).map TN.node).length=i:=by simp; omega
   obtain ⟨A,hA⟩:∃ A,A=(S.take i).map TN.node:=⟨_,rfl⟩
   rw [← hA] at hnext hAl ⊢
   have tA:(A.map Id.row).take i=A.map Id.row:=List.take_of_length_le (by simp [hAl])
   simp -implicitDefEqProofs (disch:=omega) [gz,hlt,wrap64,nth_map,ht,trw,hAl,fillC,fillR,splice,tA,Nat.add_assoc]
   repeat' with_reducible apply And.intro
   all_goals first|omega|kernel_rfl|exact fun _ _=>rfl|skip
   subst hJ
   refine wk_pre [2] [5,6,13,14] hw rfl ⟨S.length-(i+1),by omega,i+1,by omega,rfl,?_⟩
   rw [hnext]
   have n4:¬ H.length+2<H.length:=by omega
   simp [phiP,phi,O.ren,C.ren,Id.row,n4]
  ·have:i=S.length:=by omega
   subst this
   rw [List.take_length]
   simp -implicitDefEqProofs (disch:=omega) [gz,hlt]
   subst hL
   exact at_mk (by simp) (by simp)
 ·rintro _ ⟨sl,rfl⟩
  simp -implicitDefEqProofs (disch:=omega) [gz,wrap64]
  exact fin_own (k:=0) hw (by simp) (by simp)
def x2018:XE:=mkX false (fun (p:List TN×Id)=>[.c (.sl (p.1.map TN.row)),.agg p.2.row]) (fun p=>(∀ t∈p.1,OkS t.pl)∧p.1.length<1000000000) (fun p=>.v (.c (.d (.sl (((spF p.1 p.2).map TN.node).map Id.row)))))
theorem kx2018:Contract prog G0 18 x2018:=mkX_data fun p h H=>own_data (k2018 p.1 p.2 h.1 h.2 H)
theorem xg2018 (l:List TN) (b:Id) (h:∀ t∈l,OkS t.pl) (hl:l.length<1000000000):x2018.g [.c (.sl (l.map TN.row)),.agg b.row]=some (True,.v (.c (.d (.sl (((spF l b).map TN.node).map Id.row))))):=mkX_g injTI (l,b) ⟨h,hl⟩
def okR (n:Nat) (p q:Nv.Rt):Prop:=Sm p∧Sm q∧((rn p<0∧0<rn q)∨(rn q≤0∧Sm (negR p)∧Sm (negR q)∧∃ a b c d,PosN n (negR q) (negR p) a b c d)∨(¬ rn p<0∧¬ rn q≤0∧∃ a b c d,PosN n p q a b c d))
theorem k60r (n:Nat) (p q:Nv.Rt) (h:okR n p q):ACalls prog G0 60 [ratV p,ratV q] [] fun t H=>t = .v (ratV (betwF n p q))∧H=[]:=by
 obtain ⟨sp,sq,h⟩:=h
 have s1:x2098.sc=true:=rfl
 have s2:x2056.sc=true:=rfl
 have s3:x2095.sc=true:=rfl
 have s4:(x2060 n).sc=true:=rfl
 have g1:=xg2098 p sp.q
 have g2:=xg2098 q sq.q
 have sA:sgZ (rn p)<0↔rn p<0:=sgZ_neg
 have sB:0<sgZ (rn q)↔0<rn q:=sgZ_pos
 have sC:sgZ (rn q)≤0↔rn q≤0:=sgZ_le
 obtain ⟨z1,hz1⟩:∃ z,z=sgZ (rn p):=⟨_,rfl⟩
 obtain ⟨z2,hz2⟩:∃ z,z=sgZ (rn q):=⟨_,rfl⟩
 rw [← hz1] at g1 sA
 rw [← hz2] at g2 sB sC
 unfold betwF
 rcases h with ⟨h1,h2⟩ | ⟨h1,sn1,sn2,a,b,c,d,P⟩ | ⟨h1,h2,a,b,c,d,P⟩
 ·rw [if_pos ⟨h1,h2⟩]
  have n1:=sA.2 h1
  have n2:=sB.2 h2
  have g3:x2056.g [.c (.v (.int .i64 0))]=some (True,.v (ratV zR)):=(xg2056 0 (by decide)).trans (by rw [show Nv.mkI ((0:Nat):Int) 1=zR from by kernel_rfl])
  obtain ⟨r,hr⟩:∃ r,r=zR:=⟨_,rfl⟩
  rw [← hr] at g3 ⊢
  refine acallsX (X:=[(98,x2098),(56,x2056),(95,x2095),(60,x2060 n)]) ⟨kx2098,kx2056,kx2095,kx2060 n,trivial⟩ tab hmix func60 c2060 (by rfl) fun hw=>?_
  simp -implicitDefEqProofs (disch:=omega) [gz,ir2060,b2060,b2060_0,b2060_1,s1,g1,g2,n1,n2,s2,g3,fillC,splice]
  exact fin_nil ⟨rfl,rfl⟩
 ·rw [if_neg (fun q=>by omega),if_pos h1]
  have n1:¬ 0<z2:=fun q=>by have:=sB.1 q; omega
  have n2:=sC.2 h1
  have g3:=xg2095 p sp.q
  have g4:=xg2095 q sq.q
  have g5:=xg2060 n _ _ P
  obtain ⟨u,v,hx,u0,v0,ub,vb⟩:=P.val
  have ox:Sm (simpF n (negR q) (negR p) true):=by rw [hx]; exact sm_mk (by omega) (by omega)
  have g6:=xg2095 _ ox.q
  obtain ⟨x,hx'⟩:∃ z,z=simpF n (negR q) (negR p) true:=⟨_,rfl⟩
  rw [← hx'] at g5 g6 ⊢
  obtain ⟨nx,hnx⟩:∃ z,z=negR x:=⟨_,rfl⟩
  rw [← hnx] at g6 ⊢
  obtain ⟨np,hnp⟩:∃ z,z=negR p:=⟨_,rfl⟩
  obtain ⟨nq,hnq⟩:∃ z,z=negR q:=⟨_,rfl⟩
  rw [← hnp] at g3 g5
  rw [← hnq] at g4 g5
  refine acallsX (X:=[(98,x2098),(56,x2056),(95,x2095),(60,x2060 n)]) ⟨kx2098,kx2056,kx2095,kx2060 n,trivial⟩ tab hmix func60 c2060 (by rfl) fun hw=>?_
  by_cases n3:z1<0
  all_goals
   simp -implicitDefEqProofs (disch:=omega) [gz,ir2060,b2060,b2060_0,b2060_1,b2060_2,s1,g1,g2,n1,n2,n3,s3,g3,g4,s4,g5,g6,fillC,splice]
   repeat' with_reducible apply And.intro
   all_goals first|omega|kernel_rfl|exact fun _ _=>rfl|skip
   exact fin_nil ⟨rfl,rfl⟩
 ·rw [if_neg (fun q=>h1 q.1),if_neg h2]
  exact k2060 n p q a b c d P
def x60r (n:Nat):XE:=mkX true (fun (p:Nv.Rt×Nv.Rt)=>[ratP p.1,ratP p.2]) (fun p=>okR n p.1 p.2) (fun p=>.v (ratV (betwF n p.1 p.2)))
theorem kx60r (n:Nat):Contract prog G0 60 (x60r n):=mkX_scal (fun _=>rfl) fun p h=>k60r n p.1 p.2 h
theorem xg60r (n:Nat) (p q:Nv.Rt) (h:okR n p q):(x60r n).g [ratP p,ratP q]=some (True,.v (ratV (betwF n p q))):=mkX_g injRR (p,q) h
def okB2 (n:Nat) (l:List TN) (b:Id) (at':Int):Prop:=(∀ t∈l,Sm t.pl)∧l.length<1000000000∧(l.map TN.node).Nodup ∧
 (0<at'→at'<(sibF l b).length→cmpR (nth (sibF l b) (at'.toNat-1)).pl (nth (sibF l b) at'.toNat).pl≠0→okR n (nth (sibF l b) (at'.toNat-1)).pl (nth (sibF l b) at'.toNat).pl)
theorem k2023 (n:Nat) (l:List TN) (b:Id) (at':Int) (h:okB2 n l b at') (hr:-9223372036854775808≤at'∧at'≤9223372036854775807) :
  ACalls prog G0 23 [.c (.d (.sl (l.map TN.row))),.agg (b.row.map .d),I at'] [] fun t H=>t = .v (ratV (keyF n l b at'))∧H=[]:=by
 have s1:x2145.sc=false:=rfl
 have s2:x2056.sc=true:=rfl
 have s3:x2057.sc=true:=rfl
 have s4:x2058.sc=true:=rfl
 have s5:x2059.sc=true:=rfl
 have s6:x1090.sc=true:=rfl
 have s7:(x60r n).sc=true:=rfl
 obtain ⟨h1,h2,hnd,h3⟩:=h
 have g1:=(xg2145 l b (fun t ht=>(h1 t ht).s) h2).trans (by rw [sp_sib hnd])
 have hsl:=sib_len l b
 have hsq:∀ t∈sibF l b,Sm t.pl:=fun t ht=>h1 t (sib_sub ht)
 have g2:x2056.g [.c (.v (.int .i64 1))]=some (True,.v (ratV oneR)):=xg2056 1 (by decide)
 have g0:x2056.g [.c (.v (.int .i64 0))]=some (True,.v (ratV zR)):=(xg2056 0 (by decide)).trans (by rw [show Nv.mkI ((0:Nat):Int) 1=zR from by kernel_rfl])
 have hb:b.row=[.v (.string b.a),.v (.int .i64 b.n)]:=rfl
 rw [hb] at g1
 unfold keyF
 obtain ⟨S,hS⟩:∃ S,S=sibF l b:=⟨_,rfl⟩
 rw [← hS] at g1 hsl h3 hsq ⊢
 obtain ⟨o,ho⟩:∃ o,o=oneR:=⟨_,rfl⟩
 have hoq:OkQ o:=by rw [ho]; exact okQ_one
 have hod:o.den.size<90000000:=by rw [ho]; exact one_den
 rw [← ho] at g2 ⊢
 obtain ⟨zr,hzr⟩:∃ z,z=zR:=⟨_,rfl⟩
 rw [← hzr] at g0 ⊢
 refine acallsX (X:=[(45,x2145),(56,x2056),(57,x2057),(58,x2058),(59,x2059),(50,x1090),(60,x60r n)]) ⟨kx2145,kx2056,kx2057,kx2058,kx2059,kx1090,kx60r n,trivial⟩ tab hmix func23 c2023 (by rfl) fun hw=>?_
 by_cases c1:S.length=0
 ·rw [if_pos c1]
  simp -implicitDefEqProofs (disch:=omega) [gz,ir2023,b2023,b2023_0,b2023_1,b2023_2,hb,s1,g1,c1,s2,g0,wrap64,fillC,splice,toPVs,frzVs,osVs,toPV]
  repeat' with_reducible apply And.intro
  all_goals first|omega|kernel_rfl|exact fun _ _=>rfl|skip
  exact fin_nil ⟨rfl,rfl⟩
 ·rw [if_neg c1]
  have c1':¬ S=[]:=fun q=>by rw [q] at c1; exact c1 rfl
  have c1i:¬ (S.length:Int)=0:=by omega
  by_cases c2:at'≤0
  ·rw [if_pos c2]
   obtain ⟨t,ht⟩:∃ t,nth S 0=t:=⟨_,rfl⟩
   have htm:t∈S:=by rw [← ht]; exact nth_mem (by omega)
   have g3:=xg2057 t.pl o (hsq t htm).q hoq hod
   rw [ht]
   obtain ⟨r,hr⟩:∃ r,r=subR t.pl o:=⟨_,rfl⟩
   rw [← hr] at g3 ⊢
   have h0:0<S.length:=by omega
   simp -implicitDefEqProofs (disch:=omega) [gz,ir2023,b2023,b2023_0,b2023_1,b2023_2,b2023_3,hb,s1,g1,c1,c1',c1i,c2,h0,nth_map,ht,trw,s2,g2,s3,g3,wrap64,fillC,splice,toPVs,frzVs,osVs,toPV]
   repeat' with_reducible apply And.intro
   all_goals first|omega|kernel_rfl|exact fun _ _=>rfl|skip
   exact fin_nil ⟨rfl,rfl⟩
  ·rw [if_neg c2]
   by_cases c3:(S.length:Int)≤at'
   ·rw [if_pos c3]
    obtain ⟨q,hq⟩:∃ q,q=S.length-1:=⟨_,rfl⟩
    have hqi:(S.length:Int)-1=(q:Int):=by omega
    have hql:q<S.length:=by omega
    rw [← hq]
    obtain ⟨t,ht⟩:∃ t,nth S q=t:=⟨_,rfl⟩
    have htm:t∈S:=by rw [← ht]; exact nth_mem hql
    have g3:=xg2058 t.pl o (hsq t htm).q hoq
    rw [ht]
    obtain ⟨r,hr⟩:∃ r,r=addR t.pl o:=⟨_,rfl⟩
    rw [← hr] at g3 ⊢
    simp -implicitDefEqProofs (disch:=omega) [gz,ir2023,b2023,b2023_0,b2023_1,b2023_2,b2023_3,b2023_4,hb,s1,g1,c1,c1',c1i,c2,c3,hqi,hql,nth_map,ht,trw,s2,g2,s4,g3,wrap64,fillC,splice,toPVs,frzVs,osVs,toPV]
    repeat' with_reducible apply And.intro
    all_goals first|omega|kernel_rfl|exact fun _ _=>rfl|skip
    exact fin_nil ⟨rfl,rfl⟩
   ·rw [if_neg c3]
    obtain ⟨p,hp⟩:∃ p:Nat,at'=(p:Int):=⟨at'.toNat,by omega⟩
    subst hp
    have hpl:p<S.length:=by omega
    have hp0:0<p:=by omega
    have hp00:¬ p=0:=by omega
    have e1:(p:Int).toNat=p:=by omega
    rw [e1] at h3 ⊢
    obtain ⟨q,hq⟩:∃ q,q=p-1:=⟨_,rfl⟩
    have hqi:(p:Int)-1=(q:Int):=by omega
    have hql:q<S.length:=by omega
    rw [← hq] at h3 ⊢
    obtain ⟨u,hu⟩:∃ u,nth S q=u:=⟨_,rfl⟩
    obtain ⟨t,ht⟩:∃ t,nth S p=t:=⟨_,rfl⟩
    have hum:u∈S:=by rw [← hu]; exact nth_mem hql
    have htm:t∈S:=by rw [← ht]; exact nth_mem hpl
    rw [hu,ht] at h3 ⊢
    have g3:=xg2059 u.pl t.pl (hsq u hum).s (hsq t htm).s
    by_cases c4:cmpR u.pl t.pl=0
    ·rw [if_pos c4]
     rw [c4] at g3
     have hq2:=(hsq u hum).q
     have g4:=xg1090 u.pl (by have:=hq2.n; omega) (by have:=hq2.d; omega)
     obtain ⟨r,hr⟩:∃ r,r=Nv.normR u.pl:=⟨_,rfl⟩
     rw [← hr] at g4 ⊢
     simp -implicitDefEqProofs (disch:=omega) [gz,ir2023,b2023,b2023_0,b2023_1,b2023_2,b2023_3,b2023_4,b2023_5,hb,s1,g1,c1,c1',c1i,c2,c3,hqi,hql,hpl,hp0,hp00,nth_map,ht,hu,trw,wrap64,fillC,splice,toPVs,frzVs,osVs,toPV]
     repeat' with_reducible apply And.intro
     all_goals first|omega|kernel_rfl|exact fun _ _=>rfl|skip
     simp -implicitDefEqProofs (disch:=omega) [gz,b2023_6,s5,g3,s6,g4,wrap64,fillC,splice,toPVs,frzVs,osVs,toPV]
     repeat' with_reducible apply And.intro
     all_goals first|omega|kernel_rfl|exact fun _ _=>rfl|skip
     exact fin_nil ⟨rfl,rfl⟩
    ·rw [if_neg c4]
     have g4:=xg60r n u.pl t.pl (h3 (by omega) (by omega) c4)
     obtain ⟨r,hr⟩:∃ r,r=betwF n u.pl t.pl:=⟨_,rfl⟩
     rw [← hr] at g4 ⊢
     obtain ⟨cc,hcc⟩:∃ cc,cc=cmpR u.pl t.pl:=⟨_,rfl⟩
     rw [← hcc] at g3 c4
     simp -implicitDefEqProofs (disch:=omega) [gz,ir2023,b2023,b2023_0,b2023_1,b2023_2,b2023_3,b2023_4,b2023_5,hb,s1,g1,c1,c1',c1i,c2,c3,hqi,hql,hpl,hp0,hp00,nth_map,ht,hu,trw,wrap64,fillC,splice,toPVs,frzVs,osVs,toPV]
     repeat' with_reducible apply And.intro
     all_goals first|omega|kernel_rfl|exact fun _ _=>rfl|skip
     simp -implicitDefEqProofs (disch:=omega) [gz,b2023_6,b2023_7,b2023_8,s5,g3,c4,s7,g4,wrap64,fillC,splice,toPVs,frzVs,osVs,toPV]
     repeat' with_reducible apply And.intro
     all_goals first|omega|kernel_rfl|exact fun _ _=>rfl|skip
     exact fin_nil ⟨rfl,rfl⟩
def x2023 (n:Nat):XE:=mkX true (fun (p:List TN×Id×Int)=>[.c (.sl (p.1.map TN.row)),.agg p.2.1.row,.c (.v (.int .i64 p.2.2))]) (fun p=>okB2 n p.1 p.2.1 p.2.2∧(-9223372036854775808≤p.2.2∧p.2.2≤9223372036854775807)) (fun p=>.v (ratV (keyF n p.1 p.2.1 p.2.2)))
theorem kx2023 (n:Nat):Contract prog G0 23 (x2023 n):=mkX_scal (fun _=>rfl) fun p h=>k2023 n p.1 p.2.1 p.2.2 h.1 h.2
structure Pl (x:Nv.Rt):Prop where
 n:x.num.size≤16
 d:x.den.size≤16
 o:OkQ (Nv.normR x)
theorem Pl.sm {x:Nv.Rt} (h:Pl x):Sm x:=⟨by have:=h.n; omega,by have:=h.d; omega⟩
theorem val16 {s:ByteArray} (h:s.size≤16):Nv.natV s<big:=by
 have h1:=Nv.valB_lt s.data.toList
 have h2:s.data.toList.length=s.size:=by simp
 rw [h2] at h1
 have h3:256^s.size≤256^16:=Nat.pow_le_pow_right (by decide) h
 have h4:256^16<big:=by decide
 show Nv.valB s.data.toList<big
 omega
theorem Pl.val {x:Nv.Rt} (h:Pl x):(rn x).natAbs<big∧Nv.denV x.den<big:=by
 refine ⟨?_,?_⟩
 ·unfold rn Nv.numI
  rw [Nv.sgn_abs]
  exact val16 h.n
 ·have:=val16 h.d
  unfold Nv.denV
  split
  ·decide
  ·exact this
theorem pos_btw {lo hi:Nv.Rt} {a b c d n:Nat} (I1:Is lo (a:Int) b) (I2:Is hi (c:Int) d) (hlt:a*d<c*b) (ba:a<big) (bb:b<big) (bc:c<big) (bd:d<big) (sl:Sm lo) (sh:Sm hi) (no:OkQ (Nv.normR lo)) (hn:2*big<n) :
  okS n lo hi true∧PosN n lo hi a b c d∧∃ u v:Nat,simpF n lo hi true=Nv.mkI (u:Int) v∧0<u∧0<v∧a*v<u*b∧u*d<c*v∧u<2*big∧v<2*big:=by
 have P:PosN n lo hi a b c d:=⟨I1,I2,hlt,by omega,sl,sh,ba,bb,bc,bd,no⟩
 obtain ⟨k1,k2,k3,k4,_⟩:=Nv.spF_ok n a b c d I1.p hlt (by omega)
 obtain ⟨m1,m2⟩:=sp_med (n:=n) I1.p hlt (by omega)
 exact ⟨okS_of n lo hi true a b c d I1 (fun _=>I2) (fun h=>by cases h) hlt (by omega) sl.q sh.q ba bb bc bd,P,_,_,simp_sp n lo hi true a b c d I1 (fun _=>I2) (fun h=>by cases h) hlt (by omega),k1,k2,k3,k4,by omega,by omega⟩
theorem btw {p q:Nv.Rt} (hp:Pl p) (hq:Pl q) (h:cmpR p q<0) {n:Nat} (hn:2*big<n):okB n p q∧okR n p q∧cmpR p (betwF n p q)<0∧cmpR (betwF n p q) q<0∧Sm (betwF n p q):=by
 have Ip:=is_self p
 have Iq:=is_self q
 obtain ⟨vp1,vp2⟩:=hp.val
 obtain ⟨vq1,vq2⟩:=hq.val
 have op:=hp.sm.q
 have oq:=hq.sm.q
 obtain ⟨A,hA⟩:∃ A,A=rn p:=⟨_,rfl⟩
 obtain ⟨B,hB⟩:∃ B,B=rn q:=⟨_,rfl⟩
 obtain ⟨C,hC⟩:∃ C,C=Nv.denV p.den:=⟨_,rfl⟩
 obtain ⟨D,hD⟩:∃ D,D=Nv.denV q.den:=⟨_,rfl⟩
 rw [← hA,← hC] at Ip
 rw [← hB,← hD] at Iq
 rw [← hA] at vp1
 rw [← hB] at vq1
 rw [← hC] at vp2
 rw [← hD] at vq2
 have c0:=Ip.p
 have d0:=Iq.p
 have hAB:A*(D:Int)<B*C:=by
  rw [cmp_is Ip Iq,sgZ_neg] at h; omega
 unfold okB okR betwF
 rw [← hA,← hB]
 have I0:Is zR 0 1:=⟨by decide,rfl⟩
 by_cases c1:A<0∧0<B
 ·rw [if_pos c1]
  refine ⟨⟨op,oq,fun hn=>absurd c1 hn⟩,⟨hp.sm,hq.sm,.inl c1⟩,?_,?_,⟨by decide,by decide⟩⟩
  ·rw [cmp_is Ip I0,sgZ_neg]; omega
  ·rw [cmp_is I0 Iq,sgZ_neg]; omega
 ·rw [if_neg c1]
  by_cases c2:B≤0
  ·rw [if_pos c2]
   have hA0:A<0:=by
    have h1:A*(D:Int)<0:=by
     have:B*(C:Int)≤0:=Int.mul_nonpos_of_nonpos_of_nonneg c2 (by omega)
     omega
    rcases Int.lt_or_le A 0 with q | q
    ·exact q
    ·have:=Int.mul_nonneg q (show (0:Int)≤(D:Int) by omega); omega
   obtain ⟨a,ha⟩:∃ a:Nat,-B=(a:Int):=⟨(-B).toNat,by omega⟩
   obtain ⟨c,hc⟩:∃ c:Nat,-A=(c:Int):=⟨(-A).toNat,by omega⟩
   have en1:negR q=Nv.mkI (a:Int) D:=by rw [neg_is Iq,ha]
   have en2:negR p=Nv.mkI (c:Int) C:=by rw [neg_is Ip,hc]
   have I1:Is (negR q) (a:Int) D:=is_one d0 en1
   have I2:Is (negR p) (c:Int) C:=is_one c0 en2
   have hlt:a*C<c*D:=by
    have e1:((a*C:Nat):Int) = -B*C:=by rw [Int.natCast_mul,ha]
    have e2:((c*D:Nat):Int) = -A*D:=by rw [Int.natCast_mul,hc]
    have:((a*C:Nat):Int)<((c*D:Nat):Int):=by
     rw [e1,e2,Int.neg_mul,Int.neg_mul]; omega
    omega
   have on1:Sm (negR q):=by rw [en1]; exact sm_mk (by omega) (by omega)
   have on2:Sm (negR p):=by rw [en2]; exact sm_mk (by omega) (by omega)
   have nn:OkQ (Nv.normR (negR q)):=by rw [en1,mk_norm d0,← en1]; exact on1.q
   obtain ⟨s,P,u,v,hS,u0,v0,s1,s2,ub,vb⟩:=pos_btw I1 I2 hlt (by omega) vq2 (by omega) vp2 on1 on2 nn hn
   have oS:Sm (simpF n (negR q) (negR p) true):=by rw [hS]; exact sm_mk (by omega) (by omega)
   have IS:Is (simpF n (negR q) (negR p) true) (u:Int) v:=is_one v0 hS
   have ex:negR (simpF n (negR q) (negR p) true)=Nv.mkI (-(u:Int)) v:=neg_is IS
   have Ix:Is (negR (simpF n (negR q) (negR p) true)) (-(u:Int)) v:=is_one v0 ex
   refine ⟨⟨op,oq,fun _=>⟨fun _=>⟨s,oS.q⟩,fun k=>absurd c2 k⟩⟩,⟨hp.sm,hq.sm,.inr (.inl ⟨c2,on2,on1,_,_,_,_,P⟩)⟩,?_,?_,by rw [ex]; exact sm_mk (by omega) (by omega)⟩
   ·rw [cmp_is Ip Ix,sgZ_neg]
    have e1:((u*C:Nat):Int)=u*C:=Int.natCast_mul _ _
    have e2:((c*v:Nat):Int) = -A*v:=by rw [Int.natCast_mul,hc]
    rw [Int.neg_mul] at e2
    rw [Int.neg_mul]
    omega
   ·rw [cmp_is Ix Iq,sgZ_neg]
    have e1:((u*D:Nat):Int)=u*D:=Int.natCast_mul _ _
    have e2:((a*v:Nat):Int) = -B*v:=by rw [Int.natCast_mul,ha]
    rw [Int.neg_mul] at e2
    rw [Int.neg_mul]
    omega
  ·rw [if_neg c2]
   have hA0:¬ A<0:=fun q=>c1 ⟨q,by omega⟩
   obtain ⟨a,ha⟩:∃ a:Nat,A=(a:Int):=⟨A.toNat,by omega⟩
   obtain ⟨c,hc⟩:∃ c:Nat,B=(c:Int):=⟨B.toNat,by omega⟩
   rw [ha] at Ip
   rw [hc] at Iq
   have hlt:a*D<c*C:=by
    have e1:((a*D:Nat):Int)=A*D:=by rw [Int.natCast_mul,ha]
    have e2:((c*C:Nat):Int)=B*C:=by rw [Int.natCast_mul,hc]
    omega
   obtain ⟨s,P,u,v,hS,u0,v0,s1,s2,ub,vb⟩:=pos_btw Ip Iq hlt (by omega) vp2 (by omega) vq2 hp.sm hq.sm hp.o hn
   have IS:Is (simpF n p q true) (u:Int) v:=is_one v0 hS
   refine ⟨⟨op,oq,fun _=>⟨fun k=>absurd k c2,fun _=>s⟩⟩,⟨hp.sm,hq.sm,.inr (.inr ⟨hA0,c2,_,_,_,_,P⟩)⟩,?_,?_,by rw [hS]; exact sm_mk (by omega) (by omega)⟩
   ·rw [cmp_is Ip IS,sgZ_neg]
    have e1:((a*v:Nat):Int)=a*v:=Int.natCast_mul _ _
    have e2:((u*C:Nat):Int)=u*C:=Int.natCast_mul _ _
    omega
   ·rw [cmp_is IS Iq,sgZ_neg]
    have e1:((u*D:Nat):Int)=u*D:=Int.natCast_mul _ _
    have e2:((c*v:Nat):Int)=c*v:=Int.natCast_mul _ _
    omega
theorem cmpT_lt {a b:TN} (h:cmpR a.pl b.pl<0):cmpT a b<0:=by
 have e:cmpT a b=orI [cmpR a.pl b.pl,lessZ a.node b.node]:=rfl
 rw [e]
 simp only [orI]
 rw [if_pos (by omega)]; exact h
theorem cmpT_le {a b:TN} (h:cmpT a b≤0):cmpR a.pl b.pl≤0:=by
 have e:cmpT a b=orI [cmpR a.pl b.pl,lessZ a.node b.node]:=rfl
 rw [e] at h
 simp only [orI] at h
 by_cases c:cmpR a.pl b.pl=0
 ·omega
 ·rw [if_pos c] at h; exact h
theorem sib_srt (l:List TN) (up:Id):Srt cmpT (sibF l up):=ssort_srt cmpT_pre _
theorem sib_mem {l:List TN} {up:Id} {t:TN}:t∈sibF l up↔t∈l∧t.par=up:=by
 have p2:=ssort_perm cmpT (l.filter fun t=>decide (t.par=up))
 have:t∈sibF l up↔t∈l.filter fun t=>decide (t.par=up):=p2.mem_iff
 rw [this,List.mem_filter,decide_eq_true_eq]
theorem sib_strict {l:List TN} (hn:(l.map TN.node).Nodup) (up:Id):(sibF l up).Pairwise fun a b=>cmpT a b<0:=by
 have hf:((l.filter fun t=>decide (t.par=up)).map TN.node).Nodup:=hn.sublist ((List.filter_sublist).map TN.node)
 have p2:=ssort_perm cmpT (l.filter fun t=>decide (t.par=up))
 have hs:=ssort_srt cmpT_pre (l.filter fun t=>decide (t.par=up))
 have hn2:((sibF l up).map TN.node).Nodup:=((p2.map TN.node).nodup_iff).2 hf
 rw [List.Nodup,List.pairwise_map] at hn2
 refine (List.pairwise_and_iff.2 ⟨hs,hn2⟩).imp fun {a b} h=>?_
 have h1:cmpT a b≤0:=h.1
 have h2:=cmpT_strict h.2
 omega
theorem sib_le {l:List TN} {up:Id} {i j:Nat} (hij:i≤j) (hj:j<(sibF l up).length):cmpR (nth (sibF l up) i).pl (nth (sibF l up) j).pl≤0 :=
 cmpT_le ((sib_srt l up).nth_le cmpT_pre hij hj)
section
variable {l:List TN} {up:Id} {at':Int} {n:Nat}
theorem keys_ok (hP:∀ t∈l,Pl t.pl) (hl:l.length≤12) (hnd:(l.map TN.node).Nodup) (hn:2*big<n):okK n l up at'∧okB2 n l up at':=by
 have key:0<at'→at'<(sibF l up).length→cmpR (nth (sibF l up) (at'.toNat-1)).pl (nth (sibF l up) at'.toNat).pl≠0→okB n (nth (sibF l up) (at'.toNat-1)).pl (nth (sibF l up) at'.toNat).pl∧okR n (nth (sibF l up) (at'.toNat-1)).pl (nth (sibF l up) at'.toNat).pl:=by
  intro h1 h2 h3
  have h4:=sib_le (l:=l) (up:=up) (i:=at'.toNat-1) (j:=at'.toNat) (by omega) (by omega)
  have m1:nth (sibF l up) (at'.toNat-1)∈sibF l up:=nth_mem (by omega)
  have m2:nth (sibF l up) at'.toNat∈sibF l up:=nth_mem (by omega)
  obtain ⟨b1,b2,_,_,_⟩:=btw (hP _ (sib_sub m1)) (hP _ (sib_sub m2)) (by omega) hn
  exact ⟨b1,b2⟩
 exact ⟨⟨fun t ht=>(hP t ht).sm.q,by omega,fun h1 h2 h3=>(key h1 h2 h3).1⟩,⟨fun t ht=>(hP t ht).sm,by omega,hnd,fun h1 h2 h3=>(key h1 h2 h3).2⟩⟩
theorem cmp_lt_le {a b c:Nv.Rt} (h1:cmpR a b<0) (h2:cmpR b c≤0):cmpR a c<0:=cmpR_pre.lt_le h1 h2
theorem cmp_le_lt {a b c:Nv.Rt} (h1:cmpR a b≤0) (h2:cmpR b c<0):cmpR a c<0:=by
 rcases Int.lt_or_le (cmpR a c) 0 with q | q
 ·exact q
 ·have h3:cmpR c a≤0:=by
   rcases Int.lt_or_le 0 (cmpR c a) with k | k
   ·have:=(cmpR_pre.sgn a c).2 k; omega
   ·exact k
  have h4:=cmpR_pre.tr c a b h3 h1
  have:=(cmpR_pre.sgn b c).1 h2
  omega
theorem sub_lt (x:Nv.Rt):cmpR (subR x oneR) x<0:=by
 have I:=is_self x
 have e:=sub_is I one_is
 have I2:Is (subR x oneR) (rn x*((1:Nat):Int)-1*(Nv.denV x.den:Int)) (Nv.denV x.den*1):=is_one (by have:=I.p; omega) e
 rw [cmp_is I2 I,sgZ_neg]
 have p:=I.p
 have hp:(0:Int)<(Nv.denV x.den:Int)*(Nv.denV x.den:Int):=Int.mul_pos (by omega) (by omega)
 generalize rn x=z at *
 generalize Nv.denV x.den=d at *
 have e1:((d*1:Nat):Int)=(d:Int):=by simp
 rw [e1]
 have e2:(z*((1:Nat):Int)-1*(d:Int))*(d:Int)-z*(d:Int) = -((d:Int)*d):=by grind
 rw [e2]; omega
theorem add_gt (x:Nv.Rt):cmpR x (addR x oneR)<0:=by
 have I:=is_self x
 have e:=add_is I one_is
 have I2:Is (addR x oneR) (rn x*((1:Nat):Int)+1*(Nv.denV x.den:Int)) (Nv.denV x.den*1):=is_one (by have:=I.p; omega) e
 rw [cmp_is I I2,sgZ_neg]
 have p:=I.p
 have hp:(0:Int)<(Nv.denV x.den:Int)*(Nv.denV x.den:Int):=Int.mul_pos (by omega) (by omega)
 generalize rn x=z at *
 generalize Nv.denV x.den=d at *
 have e1:((d*1:Nat):Int)=(d:Int):=by simp
 rw [e1]
 have e2:z*(d:Int)-(z*((1:Nat):Int)+1*(d:Int))*(d:Int) = -((d:Int)*d):=by grind
 rw [e2]; omega
theorem key_pl (hP:∀ t∈l,Pl t.pl) (hs:∀ i,0<i→i<(sibF l up).length→cmpR (nth (sibF l up) (i-1)).pl (nth (sibF l up) i).pl≠0) (hn:2*big<n) :
  ∃ k:Nat,k≤(sibF l up).length∧(k:Int)=max 0 (min at' ((sibF l up).length:Int))∧(∀ j,j<k→cmpR (nth (sibF l up) j).pl (keyF n l up at')<0)∧(∀ j,k≤j→j<(sibF l up).length→cmpR (keyF n l up at') (nth (sibF l up) j).pl<0):=by
 have hle:=fun {i j:Nat} (hij:i≤j) (hj:j<(sibF l up).length)=>sib_le (l:=l) (up:=up) hij hj
 have hsub:=fun {t:TN} (ht:t∈sibF l up)=>hP t (sib_sub ht)
 unfold keyF
 generalize sibF l up=S at *
 by_cases c1:S.length=0
 ·exact ⟨0,by omega,by omega,fun j hj=>absurd hj (Nat.not_lt_zero j),fun j _ hj=>by omega⟩
 rw [if_neg c1]
 by_cases c2:at'≤0
 ·rw [if_pos c2]
  exact ⟨0,by omega,by omega,fun j hj=>absurd hj (Nat.not_lt_zero j),fun j _ hj=>cmp_lt_le (sub_lt _) (hle (Nat.zero_le j) hj)⟩
 rw [if_neg c2]
 by_cases c3:(S.length:Int)≤at'
 ·rw [if_pos c3]
  exact ⟨S.length,by omega,by omega,fun j hj=>cmp_le_lt (hle (by omega) (by omega)) (add_gt _),fun j h1 h2=>by omega⟩
 rw [if_neg c3]
 have h0:=hs at'.toNat (by omega) (by omega)
 rw [if_neg h0]
 have h4:=hle (i:=at'.toNat-1) (j:=at'.toNat) (by omega) (by omega)
 obtain ⟨_,_,b1,b2,_⟩:=btw (hsub (nth_mem (l:=S) (i:=at'.toNat-1) (by omega))) (hsub (nth_mem (l:=S) (i:=at'.toNat) (by omega))) (by omega) hn
 exact ⟨at'.toNat,by omega,by omega,fun j hj=>cmp_le_lt (hle (by omega) (by omega)) b1,fun j h1 h2=>cmp_lt_le b2 (hle h1 h2)⟩
theorem key_sm (hP:∀ t∈l,Pl t.pl) (hn:2*big<n):OkQ (keyF n l up at'):=by
 have hle:=fun {i j:Nat} (hij:i≤j) (hj:j<(sibF l up).length)=>sib_le (l:=l) (up:=up) hij hj
 have hsub:=fun {t:TN} (ht:t∈sibF l up)=>hP t (sib_sub ht)
 unfold keyF
 generalize sibF l up=S at *
 by_cases c1:S.length=0
 ·rw [if_pos c1]; exact ok_zR
 rw [if_neg c1]
 have hb:∀ t∈S,OkQ (subR t.pl oneR)∧OkQ (addR t.pl oneR):=fun t ht=>by
  obtain ⟨v1,v2⟩:=(hsub ht).val
  have b1:1<big:=by decide
  rw [sub_is (is_self t.pl) one_is,add_is (is_self t.pl) one_is]
  exact ⟨(sm_mk (by omega) (by omega)).q,(sm_mk (by omega) (by omega)).q⟩
 by_cases c2:at'≤0
 ·rw [if_pos c2]; exact (hb _ (nth_mem (by omega))).1
 rw [if_neg c2]
 by_cases c3:(S.length:Int)≤at'
 ·rw [if_pos c3]; exact (hb _ (nth_mem (by omega))).2
 rw [if_neg c3]
 by_cases c4:cmpR (nth S (at'.toNat-1)).pl (nth S at'.toNat).pl=0
 ·rw [if_pos c4]; exact (hsub (nth_mem (by omega))).o
 rw [if_neg c4]
 have h4:=hle (i:=at'.toNat-1) (j:=at'.toNat) (by omega) (by omega)
 exact (btw (hsub (nth_mem (l:=S) (i:=at'.toNat-1) (by omega))) (hsub (nth_mem (l:=S) (i:=at'.toNat) (by omega))) (by omega) hn).2.2.2.2.q
theorem nth_of {S:List TN} {t:TN} (h:t∈S):∃ i,i<S.length∧nth S i=t:=by
 obtain ⟨i,hi,e⟩:=List.mem_iff_getElem.1 h
 exact ⟨i,hi,(nth_eq hi).trans e⟩
theorem app_one (hnd:(l.map TN.node).Nodup) {e:Edit} (hk:e.kind=1) (hx:e.id ∉ l.map TN.node) (hp:e.parent=rootI∨e.parent∈l.map TN.node):appF l [e]=ssort cmpN' (l ++ [⟨e.id,e.parent,plc e,e.value⟩]):=by
 have ha:=addM_nodup hnd
 have hkx:e.id ∉ kys (addM l):=by rw [ha]; simpa [kys] using hx
 have h1:alook (addM l) e.id=none:=alook_none.2 hkx
 have h2:parB (addM l) e=true:=by
  unfold parB
  rcases hp with q | q
  ·simp [q]
  ·have:alook (addM l) e.parent≠none:=fun h=>alook_none.1 h (by rw [ha]; simpa [kys] using q)
   cases h:alook (addM l) e.parent with
   | none=>exact absurd h this
   | some v=>rfl
 have hs:stepM (addM l) e=addM l ++ [(e.id,⟨e.id,e.parent,plc e,e.value⟩)]:=by
  unfold stepM
  rw [if_pos hk,h1,h2,aput_absent hkx]
  rfl
 have hr:runM (addM l) [e]=stepM (addM l) e:=rfl
 unfold appF
 rw [hr,hs,List.map_append,ha,List.map_map]
 congr 2
 exact List.map_id' l
theorem sib_add (hnd:(l.map TN.node).Nodup) {e:Edit} (hk:e.kind=1) (hx:e.id ∉ l.map TN.node) (hp:e.parent=rootI∨e.parent∈l.map TN.node) {k:Nat} (hkl:k≤(sibF l e.parent).length)
  (h1:∀ j,j<k→cmpR (nth (sibF l e.parent) j).pl (plc e)<0) (h2:∀ j,k≤j→j<(sibF l e.parent).length→cmpR (plc e) (nth (sibF l e.parent) j).pl<0) :
  sibF (appF l [e]) e.parent=(sibF l e.parent).take k ++ ⟨e.id,e.parent,plc e,e.value⟩ :: (sibF l e.parent).drop k:=by
 have hs:=sib_strict hnd e.parent
 have hm:∀ t,t∈sibF l e.parent↔t∈l∧t.par=e.parent:=fun t=>sib_mem
 obtain ⟨S,hS⟩:∃ S,S=sibF l e.parent:=⟨_,rfl⟩
 rw [← hS] at hs hm hkl h1 h2 ⊢
 have ht1:∀ t∈S.take k,cmpT t ⟨e.id,e.parent,plc e,e.value⟩<0:=fun t ht=>by
  obtain ⟨i,hi,rfl⟩:=nth_of ht
  rw [List.length_take] at hi
  have:nth (S.take k) i=nth S i:=by
   rw [nth_eq (by rw [List.length_take]; exact hi),nth_eq (by omega),List.getElem_take]
  rw [this]
  exact cmpT_lt (h1 i (by omega))
 have ht2:∀ t∈S.drop k,cmpT ⟨e.id,e.parent,plc e,e.value⟩ t<0:=fun t ht=>by
  obtain ⟨i,hi,rfl⟩:=nth_of ht
  rw [List.length_drop] at hi
  have:nth (S.drop k) i=nth S (k+i):=by
   rw [nth_eq (by rw [List.length_drop]; exact hi),nth_eq (by omega),List.getElem_drop]
  rw [this]
  exact cmpT_lt (h2 (k+i) (by omega) (by omega))
 refine pw_ext (R:=fun a b=>cmpT a b<0) (fun a b h1 h2=>?_) (fun a h=>?_) (sib_strict (app_nodup l [e]) e.parent) ?_ fun y=>?_
 ·have:=cmpT_pre.sgn a b; omega
 ·have:=cmpT_pre.rf a; omega
 ·rw [List.pairwise_append]
  refine ⟨hs.sublist (List.take_sublist _ _),List.pairwise_cons.2 ⟨ht2,hs.sublist (List.drop_sublist _ _)⟩,fun a g1 b g2=>?_⟩
  rcases List.mem_cons.1 g2 with g3 | g3
  ·rw [g3]; exact ht1 a g1
  ·exact cmpT_pre.lt_le (ht1 a g1) (by have:=ht2 b g3; omega)
 ·rw [sib_mem,app_one hnd hk hx hp,(ssort_perm cmpN' _).mem_iff,List.mem_append,List.mem_singleton,List.mem_append,List.mem_cons]
  have hS2:y∈S↔y∈S.take k∨y∈S.drop k:=by rw [← List.mem_append,List.take_append_drop]
  constructor
  ·rintro ⟨q | q,q2⟩
   ·rcases hS2.1 ((hm y).2 ⟨q,q2⟩) with r | r
    ·exact .inl r
    ·exact .inr (.inr r)
   ·exact .inr (.inl q)
  ·rintro (q | q | q)
   ·have:=(hm y).1 (hS2.2 (.inl q)); exact ⟨.inl this.1,this.2⟩
   ·exact ⟨.inr q,by rw [q]⟩
   ·have:=(hm y).1 (hS2.2 (.inr q)); exact ⟨.inl this.1,this.2⟩
theorem ch_add (hnd:(l.map TN.node).Nodup) {e:Edit} (hk:e.kind=1) (hx:e.id ∉ l.map TN.node) (hp:e.parent=rootI∨e.parent∈l.map TN.node) {k:Nat} (hkl:k≤(sibF l e.parent).length)
  (h1:∀ j,j<k→cmpR (nth (sibF l e.parent) j).pl (plc e)<0) (h2:∀ j,k≤j→j<(sibF l e.parent).length→cmpR (plc e) (nth (sibF l e.parent) j).pl<0) :
  (chF (appF l [e]) e.parent).length=(chF l e.parent).length+1∧nth (chF (appF l [e]) e.parent) k=e.id:=by
 have h:=sib_add hnd hk hx hp hkl h1 h2
 unfold chF
 rw [h]
 have hl:((sibF l e.parent).take k ++ (⟨e.id,e.parent,plc e,e.value⟩:TN) :: (sibF l e.parent).drop k).length=(sibF l e.parent).length+1:=by
  simp; omega
 refine ⟨by rw [List.length_map,hl,List.length_map],?_⟩
 rw [nth_map _ (by rw [hl]; omega),nth_eq (by rw [hl]; omega),List.getElem_append_right (by rw [List.length_take]; omega)]
 simp [Nat.min_eq_left hkl]
end
theorem spt_S {l:List TN} (h:sptT l=true):∀ t∈l,OkS t.pl:=by
 intro t ht
 unfold sptT at h
 simp only [Bool.and_eq_true,decide_eq_true_eq,List.all_eq_true] at h
 obtain ⟨i,hi,e⟩:=List.mem_iff_getElem.1 ht
 have h1:=h.2.1 i (List.mem_range.2 hi)
 rw [nth_eq hi,e] at h1
 unfold spB at h1
 simp only [Bool.and_eq_true,decide_eq_true_eq] at h1
 have h2:=h1.2.1
 unfold fitsR at h2
 simp only [Bool.and_eq_true,decide_eq_true_eq] at h2
 exact ⟨by rw [← h1.1.2.1]; omega,by rw [← h1.1.2.2]; omega⟩
theorem spt_Pl {l:List TN} (h:sptT l=true):∀ t∈l,Pl t.pl:=by
 intro t ht
 unfold sptT at h
 simp only [Bool.and_eq_true,decide_eq_true_eq,List.all_eq_true] at h
 obtain ⟨i,hi,e⟩:=List.mem_iff_getElem.1 ht
 have h1:=h.2.1 i (List.mem_range.2 hi)
 rw [nth_eq hi,e] at h1
 unfold spB at h1
 simp only [Bool.and_eq_true,decide_eq_true_eq] at h1
 have h2:=h1.2.1
 unfold fitsR at h2
 simp only [Bool.and_eq_true,decide_eq_true_eq] at h2
 exact ⟨by rw [← h1.1.2.1]; exact h2.1,by rw [← h1.1.2.2]; exact h2.2,⟨by omega,by omega⟩⟩
theorem xg2023 (n:Nat) (l:List TN) (b:Id) (at':Int) (h:okB2 n l b at') (hr:-9223372036854775808≤at'∧at'≤9223372036854775807):(x2023 n).g [.c (.sl (l.map TN.row)),.agg b.row,.c (.v (.int .i64 at'))]=some (True,.v (ratV (keyF n l b at'))):=mkX_g injTIN (l,b,at') ⟨h,hr⟩
def xI:Id:=⟨⟨#[110,101,119]⟩,1⟩
def eN (up:Id) (K:Nv.Rt):Edit:=⟨xI,1,0,[],1,rootI,up,K.neg,K.num,K.den,⟨#[]⟩,⟨#[103,114,111,117,112]⟩,rootI,⟨#[]⟩⟩
abbrev iC (i:Id):O:=.cells [.d (.v (.string i.a)),.d (.v (.int .i64 i.n))]
abbrev pC (p:Nv.Rt):O:=.cells [.d (.v (.bool p.neg)),.d (.v (.string p.num)),.d (.v (.string p.den))]
theorem k2006 (l:List TN) (up:Id) (at':Int) (hL:l.length<1152921504606846976) (hN:∀ t∈l,OkN t) (hr:-9223372036854775808≤at'∧at'≤9223372036854775807) :
  ACalls prog (GM 0) 6 [.c (.d (.sl (l.map TN.row))),.agg (up.row.map .d),I at'] [] fun t H=>t = .bool true∧H=[]:=by
 obtain ⟨n,hn⟩:∃ n,2*big<n:=⟨_,Nat.lt_succ_self _⟩
 have s1:x2021.sc=true:=rfl
 have s2:x2010.sc=true:=rfl
 have s3:(x2022 n).sc=true:=rfl
 have s4:(x2023 n).sc=true:=rfl
 have s5:x2018.sc=false:=rfl
 have s6:x2020.sc=true:=rfl
 have s7:x2024.sc=true:=rfl
 have s8:x1091.sc=true:=rfl
 have s9:x2011.sc=false:=rfl
 have s10:x2017.sc=false:=rfl
 have g1:=xg2021 l hL hN
 have g2:=xg2010
 have hu:up.row=[.v (.string up.a),.v (.int .i64 up.n)]:=rfl
 have hW:Wf ([]:List O):=fun o ho=>by cases ho
 refine acallsX (X:=[(21,x2021),(10,x2010),(22,x2022 n),(23,x2023 n),(18,x2018),(20,x2020),(24,x2024),(25,x1091),(11,x2011),(17,x2017)])
  ⟨kx2021.gm,kx2010,(kx2022 n).gm,(kx2023 n).gm,kx2018.gm,kx2020.gm,kx2024.gm,kx1091.gm,kx2011,kx2017.gm,trivial⟩ tab hmix func6 c2006 (by rfl) fun hw=>?_
 by_cases c1:12<l.length
 ·have c1i:(12:Int)<(l.length:Int):=by omega
  simp -implicitDefEqProofs (disch:=omega) [gz,ir2006,b2006,b2006_0,b2006_1,hu,c1,c1i,s2,g2,wrap64]
  exact fin_junk (A:=[]) hw rfl trivial ⟨rfl,rfl⟩
 have c1i:¬ (12:Int)<(l.length:Int):=by omega
 cases hf:sptT l
 ·rw [hf] at g1
  simp -implicitDefEqProofs (disch:=omega) [gz,ir2006,b2006,b2006_0,b2006_1,hu,c1,c1i,s1,g1,s2,g2,wrap64]
  exact fin_junk (A:=[]) hw rfl trivial ⟨rfl,rfl⟩
 rw [hf] at g1
 by_cases hau:(100:Int)<up.a.size
 ·simp -implicitDefEqProofs (disch:=omega) [gz,ir2006,b2006,b2006_0,b2006_1,hu,c1,c1i,hau,s1,g1,s2,g2,wrap64]
  exact fin_junk (A:=[]) hw rfl trivial ⟨rfl,rfl⟩
 obtain ⟨_,hq,hc⟩:=spt_parts hf
 have hP:=spt_Pl hf
 have hS:=spt_S hf
 have hnd:=less_nodup (chk_less hc)
 obtain ⟨ok1,ok2⟩:=keys_ok (up:=up) (at':=at') hP (by omega) hnd hn
 have g3:=xg2022 n l up at' ok1 hr
 have g4:=xg2023 n l up at' ok2 hr
 have g5:=(xg2018 l up hS (by omega)).trans (by rw [sp_sib hnd,show (sibF l up).map TN.node=chF l up from rfl])
 have hKq:=key_sm (up:=up) (at':=at') hP hn
 have hkey:=key_pl (n:=n) (up:=up) (at':=at') hP
 obtain ⟨K,hK⟩:∃ K,K=keyF n l up at':=⟨_,rfl⟩
 rw [← hK] at g3 g4 hKq
 have hkey:=fun hs=>hkey hs hn
 rw [← hK] at hkey
 clear hK ok1 ok2
 have hce:cellsEq [.b,.s,.s] [.d (.v (.bool K.neg)),.d (.v (.string K.num)),.d (.v (.string K.den))] [.d (.v (.bool K.neg)),.d (.v (.string K.num)),.d (.v (.string K.den))]=some true:=by simp [cellsEq,skEq]
 have hchl:(chF l up).length=(sibF l up).length:=List.length_map ..
 have hsl:=sib_len l up
 obtain ⟨Q,hC⟩:∃ Q,Q=chF l up:=⟨_,rfl⟩
 rw [← hC] at g5 hchl
 rw [hu] at g3 g4 g5
 have hat:∀ i,i<Q.length→∃ p,p<l.length∧nth l p=nth (sibF l up) i∧x2020.g [.c (.sl (l.map TN.row)),.agg [.v (.string (nth Q i).a),.v (.int .i64 (nth Q i).n)]]=some (True,.int .i64 (p:Int)):=by
  intro i hi
  have e1:nth Q i=(nth (sibF l up) i).node:=by rw [hC]; unfold chF; exact nth_map _ (by omega)
  have m1:nth (sibF l up) i∈sibF l up:=nth_mem (by omega)
  have m2:=sib_sub m1
  obtain ⟨p,hp⟩:=fnd_ex (List.mem_map_of_mem (f:=TN.node) m2)
  obtain ⟨p1,p2⟩:=fnd_spec hp
  refine ⟨p,p1,Option.some.inj ((look_fnd hnd hp).symm.trans (alook_of_mem (addM_ok l).nd ((mem_addM hnd).1 m2))),?_⟩
  have:=xg2020 l (nth Q i) hL
  rw [e1,fnd_at hp] at this
  rw [e1]; exact this
 simp -implicitDefEqProofs (disch:=omega) [gz,ir2006,b2006,b2006_0,b2006_1,b2006_2,b2006_3,b2006_4,b2006_5,hu,c1,c1i,hau,s1,g1,s2,g2,s3,g3,s4,g4,s5,g5,hce,ratV,ratP,wrap64,fillC,fillR,splice,toPVs,toPV,frzVs,osVs,Nat.add_assoc]
 repeat' with_reducible apply And.intro
 all_goals first|omega|kernel_rfl|exact fun _ _=>rfl|skip
 refine loopE (fun k st=>∃ i,0<i∧(i≤Q.length∨i=1)∧k=Q.length-i∧(∀ j,0<j→j<i→cmpR (nth (sibF l up) (j-1)).pl (nth (sibF l up) j).pl≠0) ∧
   st=⟨ofL [(0,.v (.c (.d (.sl (l.map TN.row))))),(2,.int .i64 at'),(4,.v (.c (.ptr 0 0))),(7,.v (.c (.ptr 1 0))),(8,.v (.c (.d (.sl (Q.map Id.row))))),(9,.int .i64 i)],[iC up,pC K]⟩)
  (fun st=>(∀ j,0<j→j<(sibF l up).length→cmpR (nth (sibF l up) (j-1)).pl (nth (sibF l up) j).pl≠0)∧AtS [(0,.v (.c (.d (.sl (l.map TN.row))))),(2,.int .i64 at'),(4,.v (.c (.ptr 0 0))),(7,.v (.c (.ptr 1 0))),(8,.v (.c (.d (.sl (Q.map Id.row)))))] [iC up,pC K] st) ?_ ?_ ?_
 ·refine wk_nil [0,1] [0,2,4,7,8,9] rfl ⟨_,1,by omega,.inr rfl,rfl,(fun j h1 h2=>by omega),?_⟩
  simp [phiP,phi,O.ren,C.ren]
 ·rintro J M hJ hM k st ⟨i,i0,hi,rfl,hb,rfl⟩
  by_cases hlt:i<Q.length
  ·obtain ⟨q,hq0⟩:∃ q,q=i-1:=⟨_,rfl⟩
   have hqi:(i:Int)-1=(q:Int):=by omega
   have hql:q<Q.length:=by omega
   obtain ⟨p1,p1l,e1,g6⟩:=hat q hql
   obtain ⟨p2,p2l,e2,g7⟩:=hat i hlt
   have m1:nth (sibF l up) q∈sibF l up:=nth_mem (by omega)
   have m2:nth (sibF l up) i∈sibF l up:=nth_mem (by omega)
   have g8:=xg2024 (nth (sibF l up) q).pl (nth (sibF l up) i).pl (hq _ (sib_sub m1)) (hq _ (sib_sub m2))
   have hnext:=hb
   obtain ⟨c,hcd⟩:∃ c,c=cmpR (nth (sibF l up) q).pl (nth (sibF l up) i).pl:=⟨_,rfl⟩
   rw [← hcd] at g8
   obtain ⟨u,hu1⟩:∃ u,u=nth (sibF l up) q:=⟨_,rfl⟩
   obtain ⟨v,hv1⟩:∃ u,u=nth (sibF l up) i:=⟨_,rfl⟩
   rw [← hu1] at e1 g8 hcd
   rw [← hv1] at e2 g8 hcd
   obtain ⟨y,hy⟩:∃ y,nth Q q=y:=⟨_,rfl⟩
   obtain ⟨z,hz⟩:∃ y,nth Q i=y:=⟨_,rfl⟩
   rw [hy] at g6
   rw [hz] at g7
   have irw':∀ x:Id,x.row=[.v (.string x.a),.v (.int .i64 x.n)]:=fun _=>rfl
   by_cases c0:c=0
   ·simp -implicitDefEqProofs (disch:=omega) [gz,hlt,wrap64,hqi,hql,nth_map,hy,hz,irw',s6,g6,g7,p1l,p2l,e1,e2,trw,s7,g8,c0,s2,g2,fillC,splice]
    repeat' with_reducible apply And.intro
    all_goals first|omega|kernel_rfl|exact fun _ _=>rfl|skip
    exact fin_junk (A:=[]) hW rfl trivial ⟨rfl,rfl⟩
   ·simp -implicitDefEqProofs (disch:=omega) [gz,hlt,wrap64,hqi,hql,nth_map,hy,hz,irw',s6,g6,g7,p1l,p2l,e1,e2,trw,s7,g8,c0,fillC,splice]
    repeat' with_reducible apply And.intro
    all_goals first|omega|kernel_rfl|exact fun _ _=>rfl|skip
    subst hJ
    refine wk_nil [0,1] [0,2,4,7,8,9] rfl ⟨Q.length-(i+1),by omega,i+1,by omega,.inl (by omega),rfl,(fun j h1 h2=>?_),?_⟩
    ·by_cases k0:j=i
     ·subst k0; rw [← hq0,← hu1,← hv1,← hcd]; exact c0
     ·exact hb j h1 (by omega)
    ·simp [phiP,phi,O.ren,C.ren]
  ·simp -implicitDefEqProofs (disch:=omega) [gz,hlt]
   subst hM
   exact ⟨fun j h1 h2=>hb j h1 (by omega),at_mk (by simp) rfl⟩
 ·rintro _ ⟨hb,sl0,rfl⟩
  have hkey:=hkey hb
  obtain ⟨k,k1,k2,k3,k4⟩:=hkey
  have hub:cellsEq [.s,.i .i64] [.d (.v (.string up.a)),.d (.v (.int .i64 up.n))] [.d (.v (.string ⟨#[]⟩)),.d (.v (.int .i64 0))]=some (decide (up=rootI)):=cells_id up rootI
  have gu:x2020.g [.c (.sl (l.map TN.row)),.agg [.v (.string up.a),.v (.int .i64 up.n)]]=some (True,.int .i64 (atF l up)):=xg2020 l up hL
  have gx:x2020.g [.c (.sl (l.map TN.row)),.agg [.v (.string ⟨#[110,101,119]⟩),.v (.int .i64 1)]]=some (True,.int .i64 (atF l xI)):=xg2020 l xI hL
  have gf:x1091.g [ratP K,.c (.v (.int .i64 16))]=some (True,.bool (fitsR K 16)):=xg1091 K 16 (by have:=hKq.n; omega) (by have:=hKq.d; omega)
  have tail:(up=rootI∨up∈l.map TN.node)→∀ sl:Nat→T,sl 0 = .v (.c (.d (.sl (l.map TN.row))))→sl 2 = .int .i64 at'→sl 4 = .v (.c (.ptr 0 0))→sl 7 = .v (.c (.ptr 1 0))→sl 8 = .v (.c (.d (.sl (Q.map Id.row))))→wcodeX prog (GM 0) [(21,x2021),(10,x2010),(22,x2022 n),(23,x2023 n),(18,x2018),(20,x2020),(24,x2024),(25,x1091),(11,x2011),(17,x2017)] 0
    (.seq b2006_7 (.seq b2006_8 (.seq b2006_9 (.seq b2006_10 (.seq b2006_11 b2006_12))))) ⟨sl,[iC up,pC K]⟩ (retQ prog 0 [.tmp 6] fun t H=>t = .bool true∧H=[]):=by
   intro hup sl h0 h2 h4 h7 h8
   obtain ⟨ax,hax⟩:∃ z,z=atF l xI:=⟨_,rfl⟩
   rw [← hax] at gx
   by_cases d1:0≤ax
   ·simp -implicitDefEqProofs (disch:=omega) [gz,b2006_7,b2006_8,h0,h2,h4,h7,h8,s6,gx,d1,s2,g2,fillC,splice,Nat.add_assoc]
    repeat' with_reducible apply And.intro
    all_goals first|omega|kernel_rfl|exact fun _ _=>rfl|skip
    exact fin_junk (A:=[]) hW rfl trivial ⟨rfl,rfl⟩
   have hx:xI ∉ l.map TN.node:=fun h=>by
    obtain ⟨p,hp⟩:=fnd_ex h
    rw [fnd_at hp] at hax
    omega
   cases hfit:fitsR K 16
   ·rw [hfit] at gf
    simp -implicitDefEqProofs (disch:=omega) [gz,b2006_7,b2006_8,h0,h2,h4,h7,h8,s6,gx,d1,s8,gf,s2,g2,ratP,fillC,splice,Nat.add_assoc]
    repeat' with_reducible apply And.intro
    all_goals first|omega|kernel_rfl|exact fun _ _=>rfl|skip
    exact fin_junk (A:=[]) hW rfl trivial ⟨rfl,rfl⟩
   rw [hfit] at gf
   have hgq:=app_pl OkQ (es:=[eN up K]) hq fun e he=>by rw [List.mem_singleton.1 he]; exact hKq
   have hal:=app_len l [eN up K]
   have g6:=xg2011 l [eN up K] (by omega) (by simp)
   obtain ⟨n1,n2⟩:=ch_add (e:=eN up K) hnd rfl hx hup k1 k3 k4
   have g7:=xg2017 (appF l [eN up K]) up hgq (by simp at hal; omega)
   rw [show (eN up K).parent=up from rfl,← hC] at n1
   rw [show (eN up K).parent=up from rfl] at n2
   obtain ⟨g,hg⟩:∃ g,g=appF l [eN up K]:=⟨_,rfl⟩
   rw [← hg] at g6 g7 n1 n2
   obtain ⟨N,hN'⟩:∃ N,N=chF g up:=⟨_,rfl⟩
   rw [← hN'] at g7 n1 n2
   rw [hu] at g7
   have er:(eN up K).row=[.v (.string ⟨#[110,101,119]⟩),.v (.int .i64 1),.v (.int .i64 1),.v (.int .i64 0),.sl [],.v (.int .i64 1),.v (.string ⟨#[]⟩),.v (.int .i64 0),.v (.string up.a),.v (.int .i64 up.n),.v (.bool K.neg),.v (.string K.num),.v (.string K.den),.v (.string ⟨#[]⟩),.v (.string ⟨#[103,114,111,117,112]⟩),.v (.string ⟨#[]⟩),.v (.int .i64 0),.v (.string ⟨#[]⟩)]:=rfl
   simp only [List.map_cons,List.map_nil,er] at g6
   have hcx:cellsEq [.s,.i .i64] [.d (.v (.string ⟨#[110,101,119]⟩)),.d (.v (.int .i64 1))] [.d (.v (.string ⟨#[110,101,119]⟩)),.d (.v (.int .i64 1))]=some true:=by simp [cellsEq,skEq]
   have hxr:xI.row=[.v (.string ⟨#[110,101,119]⟩),.v (.int .i64 1)]:=rfl
   have n2':nth N k=xI:=n2
   have hkn:k<N.length:=by omega
   have n1i:(N.length:Int)=(Q.length:Int)+1:=by omega
   rw [← hchl] at k1 k2
   clear hg hN' n2 hkey hb k3 k4
   by_cases m1:(Q.length:Int)<at'
   ·have hkq:k=Q.length:=by omega
    subst hkq
    by_cases m2:0<Q.length
    ·simp -implicitDefEqProofs (disch:=omega) [gz,b2006_7,b2006_8,h0,h2,h4,h7,h8,b2006_9,b2006_10,b2006_11,b2006_12,s6,gx,d1,s8,gf,s9,g6,s10,g7,m1,m2,n1i,n1,hkn,nth_map,n2',hxr,hcx,s2,g2,ratP,wrap64,fillC,fillR,splice,toPVs,toPV,toDs,toD,frzVs,osVs,Nat.add_assoc]
     repeat' with_reducible apply And.intro
     all_goals first|omega|kernel_rfl|exact fun _ _=>rfl|skip
     exact fin_junk (A:=[]) hW rfl trivial ⟨rfl,rfl⟩
    ·have hq0:Q=[]:=List.eq_nil_of_length_eq_zero (by omega)
     subst hq0
     have m1:(0:Int)<at':=m1
     have n2':nth N 0=xI:=n2'
     have hkn:0<N.length:=hkn
     have n1:N.length=0+1:=n1
     have n1i:(N.length:Int)=0+1:=n1i
     simp -implicitDefEqProofs (disch:=omega) [gz,b2006_7,b2006_8,h0,h2,h4,h7,h8,b2006_9,b2006_10,b2006_11,b2006_12,s6,gx,d1,s8,gf,s9,g6,s10,g7,m1,m2,n1i,n1,hkn,nth_map,n2',hxr,hcx,s2,g2,ratP,wrap64,fillC,fillR,splice,toPVs,toPV,toDs,toD,frzVs,osVs,Nat.add_assoc]
     repeat' with_reducible apply And.intro
     all_goals first|omega|kernel_rfl|exact fun _ _=>rfl|skip
     exact fin_junk (A:=[]) hW rfl trivial ⟨rfl,rfl⟩
   ·by_cases m2:0<at'
    ·have hk3:at'=(k:Int):=by omega
     subst hk3
     have m2:0<k:=by omega
     simp -implicitDefEqProofs (disch:=omega) [gz,b2006_7,b2006_8,h0,h2,h4,h7,h8,b2006_9,b2006_10,b2006_11,b2006_12,s6,gx,d1,s8,gf,s9,g6,s10,g7,m1,m2,n1i,n1,hkn,nth_map,n2',hxr,hcx,s2,g2,ratP,wrap64,fillC,fillR,splice,toPVs,toPV,toDs,toD,frzVs,osVs,Nat.add_assoc]
     repeat' with_reducible apply And.intro
     all_goals first|omega|kernel_rfl|exact fun _ _=>rfl|skip
     exact fin_junk (A:=[]) hW rfl trivial ⟨rfl,rfl⟩
    ·have hk3:k=0:=by omega
     subst hk3
     simp -implicitDefEqProofs (disch:=omega) [gz,b2006_7,b2006_8,h0,h2,h4,h7,h8,b2006_9,b2006_10,b2006_11,b2006_12,s6,gx,d1,s8,gf,s9,g6,s10,g7,m1,m2,n1i,n1,hkn,nth_map,n2',hxr,hcx,s2,g2,ratP,wrap64,fillC,fillR,splice,toPVs,toPV,toDs,toD,frzVs,osVs,Nat.add_assoc]
     repeat' with_reducible apply And.intro
     all_goals first|omega|kernel_rfl|exact fun _ _=>rfl|skip
     exact fin_junk (A:=[]) hW rfl trivial ⟨rfl,rfl⟩
  by_cases e0:up=rootI
  ·rw [decide_eq_true e0] at hub
   simp -implicitDefEqProofs (disch:=omega) [gz,b2006_6,hub,fillC,splice]
   show wcodeX _ _ _ _ (.seq b2006_7 (.seq b2006_8 (.seq b2006_9 (.seq b2006_10 (.seq b2006_11 b2006_12))))) _ _
   exact tail (.inl e0) _ (by simp) (by simp) (by simp) (by simp) (by simp)
  ·rw [decide_eq_false e0] at hub
   obtain ⟨au,hau'⟩:∃ z,z=atF l up:=⟨_,rfl⟩
   rw [← hau'] at gu
   by_cases e1:au<0
   ·simp -implicitDefEqProofs (disch:=omega) [gz,b2006_6,hub,s6,gu,e1,s2,g2,fillC,splice]
    repeat' with_reducible apply And.intro
    all_goals first|omega|kernel_rfl|exact fun _ _=>rfl|skip
    exact fin_junk (A:=[]) hW rfl trivial ⟨rfl,rfl⟩
   ·simp -implicitDefEqProofs (disch:=omega) [gz,b2006_6,hub,s6,gu,e1,fillC,splice]
    repeat' with_reducible apply And.intro
    all_goals first|omega|kernel_rfl|exact fun _ _=>rfl|skip
    show wcodeX _ _ _ _ (.seq b2006_7 (.seq b2006_8 (.seq b2006_9 (.seq b2006_10 (.seq b2006_11 b2006_12))))) _ _
    exact tail (.inr (at_mem (by omega))) _ (by simp) (by simp) (by simp) (by simp) (by simp)
theorem dec_i64 {l:List D} (h:okShs [.i .i64] l):∃ n:Int,l=[.v (.int .i64 n)]∧(-9223372036854775808≤n∧n≤9223372036854775807):=by
 simp only [okShs,okSh] at h
 obtain ⟨_,_,rfl,⟨n,rfl,h⟩,rfl⟩:=h
 simp [Lit.wf,IntKind.bits,IntKind.signed,IntKind.min,IntKind.max] at h
 exact ⟨n,rfl,by omega⟩
end Go.Aw.Try
