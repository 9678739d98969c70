/- An abstract machine over the model, and contracts of functions of this program on it (part 1): words and lemmas for the proof in the last text. -/
import Derived.Orders
import Derived.Laws.Sem
import Derived.Laws.StructEq
import Derived.Below
import Derived.IntWalk
set_option linter.unusedVariables false
set_option linter.unusedSimpArgs false

namespace Go.Aw
open Go
theorem gz {α:Type _} {a:α} {l:List α}:(a :: l)[0]? = some a:=List.getElem?_cons_zero
inductive SK where
 | i (k:IntKind)
 | b
 | s
 deriving DecidableEq
structure KT where
 agg:Bool
 ks:List SK
 deriving DecidableEq
def skOk:SK→Value→Bool
 | .i k,.int k' _=>decide (k=k')
 | .b,.bool _=>true
 | .s,.string _=>true
 | _,_=>false
def sksOk:List SK→List Value→Bool
 | [],[]=>true
 | k :: r,v :: s=>skOk k v && sksOk r s
 | _,_=>false
def conf (t:KT) (v:Value):Bool :=
 if t.agg then match v with
  | .agg cs=>sksOk t.ks cs.toList
  | _=>false
 else sksOk t.ks [v]
inductive PVo (α:Type) where
 | c (x:α)
 | agg (ds:List α)
inductive D where
 | v (x:Value)
 | sl (xs:List (List D))
 | ip (cs:List D)
 | mp (kt:KT) (es:List (Value×PVo D))
 | fn (f:Nat) (caps:List D)
abbrev PV:=PVo D
inductive Cap where
 | r (r off:Nat)
 | d (x:D)
inductive C where
 | d (x:D)
 | os (r sz off len:Nat)
 | ptr (r off:Nat)
 | eptr (r sz i off:Nat)
 | mp (r:Nat)
 | fn (f:Nat) (caps:List (Nat×Nat))
 | fx (f:Nat) (caps:List Cap)
 | ifc
 | top
inductive V where
 | c (x:C)
 | agg (cs:List C)
 | any
inductive T where
 | v (x:V)
 | tup (vs:List V)
instance:Inhabited D:=⟨.v undef⟩
instance:Inhabited C:=⟨.top⟩
instance:Inhabited V:=⟨.any⟩
instance:Inhabited T:=⟨.v .any⟩
inductive O where
 | hole
 | dead
 | cells (cs:List C)
 | row (sz:Nat) (xs:List (List D))
 | frow (sz:Nat) (xs:List (List D))
 | map (kt:KT) (es:List (Value×PV))
  | iter (kt:KT) (cur:Option (Value×PV)) (left:List (Value×PV))
def O.live:O→Bool
 | .cells _ | .row _ _ | .map _ _ | .iter _ _ _=>true
 | _=>false
def PV.toV (p:PV):V:=match p with
 | .c x=>.c (.d x)
 | .agg ds=>.agg (ds.map .d)
structure Step (S:Nat→Prop) (w:World) (S':Nat→Prop) (w':World):Prop where
 sub:∀ b,S b→S' b
 keep:∀ b,S b→w'.heap[b]? = w.heap[b]?
 size:w.heap.size≤w'.heap.size
 shape:∀ b e n,w.shape? b=some (e,n)→w'.shape? b=some (e,n)
 os:w'.os=w.os
 tape:w'.tape=w.tape
 output:w'.output=w.output
theorem Step.refl (S:Nat→Prop) (w:World):Step S w S w:=⟨fun _ h=>h,fun _ _=>rfl,Nat.le_refl _,fun _ _ _ h=>h,rfl,rfl,rfl⟩
theorem Step.trans {S S' S'':Nat→Prop} {w w' w'':World} (h:Step S w S' w') (k:Step S' w' S'' w''):Step S w S'' w'' :=
  ⟨fun b hb=>k.sub b (h.sub b hb),fun b hb=>(k.keep b (h.sub b hb)).trans (h.keep b hb),Nat.le_trans h.size k.size,
   fun b e n hs=>k.shape b e n (h.shape b e n hs),k.os.trans h.os,k.tape.trans h.tape,k.output.trans h.output⟩
theorem Step.more {S S' S'':Nat→Prop} {w w':World} (h:Step S w S' w') (hT:∀ b,S' b→S'' b):Step S w S'' w' :=
 ⟨fun b hb=>hT b (h.sub b hb),h.keep,h.size,h.shape,h.os,h.tape,h.output⟩
theorem cell_of_block {w w':World} {b off:Nat} (h:w'.heap[b]? = w.heap[b]?):w'.cell? ⟨b,off,none⟩=w.cell? ⟨b,off,none⟩:=by
 simp only [World.cell?,h]
theorem shape_of_block {w w':World} {b:Nat} (h:w'.heap[b]? = w.heap[b]?):w'.shape? b=w.shape? b:=by
 simp only [World.shape?,h]
inductive DRel (S:Nat→Prop) (w:World):D→Value→Prop where
 | v (x:Value):x.oneCell'=true→DRel S w (.v x) x
 | nil (p:Option Addr) (c:Nat):DRel S w (.sl []) (.slice p 0 c)
 | sl (xs:List (List D)) (b off cap sz:Nat) (vs:Nat→Nat→Value):S b→b<w.heap.size→xs.length≤cap→(∀ (i:Nat) (x:List D),xs[i]? = some x→x.length=sz) →
   (∀ (i:Nat) (x:List D) (j:Nat) (d:D),xs[i]? = some x→x[j]? = some d→w.cell? ⟨b,off+i*sz+j,none⟩=some (vs i j)) →
   (∀ (i:Nat) (x:List D) (j:Nat) (d:D),xs[i]? = some x→x[j]? = some d→DRel S w d (vs i j))→DRel S w (.sl xs) (.slice (some ⟨b,off,none⟩) xs.length cap)
 | ip (cs:List D) (b off:Nat) (vs:Nat→Value):S b→b<w.heap.size→(∀ (j:Nat) (d:D),cs[j]? = some d→w.cell? ⟨b,off+j,none⟩=some (vs j)) →
   (∀ (j:Nat) (d:D),cs[j]? = some d→DRel S w d (vs j))→DRel S w (.ip cs) (.pointer (some ⟨b,off,none⟩))
 | mp (kt:KT) (es:List (Value×PVo D)) (b:Nat) (ces:Array MapEntry) (cl:Nat) (vals:Nat→Value) (cells:Nat→Array Value):S b→b<w.heap.size→w.heap[b]? = some (.map ces cl)→ces.size=es.length→(∀ p∈es,conf kt p.1=true) →
   (∀ (i:Nat) ky p,es[i]? = some (ky,p)→∃ e,ces[i]? = some e∧e.key=ky∧e.val=vals i) →
   (∀ (i:Nat) ky x,es[i]? = some (ky,.c x)→DRel S w x (vals i)) →
   (∀ (i:Nat) ky ds,es[i]? = some (ky,.agg ds)→vals i = .agg (cells i)∧(cells i).size=ds.length) →
   (∀ (i:Nat) ky ds (j:Nat) d,es[i]? = some (ky,.agg ds)→ds[j]? = some d→DRel S w d ((cells i).getD j undef))→DRel S w (.mp kt es) (.map (some b))
 | fn (f:Nat) (caps:List D) (cv:Array Value):cv.size=caps.length→(∀ (i:Nat) d,caps[i]? = some d→DRel S w d (cv.getD i undef))→DRel S w (.fn f caps) (.func (.func f) #[] cv)
theorem DRel.mono {S S':Nat→Prop} {w w':World} {d:D} {v:Value} (h:DRel S w d v) (k:Step S w S' w'):DRel S' w' d v:=by
 induction h with
 | v x hx=>exact .v x hx
 | nil p c=>exact .nil p c
 | sl xs b off cap sz vs hS hb hcap hsz hcell hrel ih =>
  exact .sl xs b off cap sz vs (k.sub b hS) (Nat.lt_of_lt_of_le hb k.size) hcap hsz (fun i x j d hi hj=>by rw [cell_of_block (k.keep b hS)]; exact hcell i x j d hi hj) ih
 | ip cs b off vs hS hb hcell hrel ih =>
  exact .ip cs b off vs (k.sub b hS) (Nat.lt_of_lt_of_le hb k.size) (fun j d hj=>by rw [cell_of_block (k.keep b hS)]; exact hcell j d hj) ih
 | mp kt es b ces cl vals cells hS hb hh hsz hc h1 h2 h3 h4 ih2 ih4 =>
  exact .mp kt es b ces cl vals cells (k.sub b hS) (Nat.lt_of_lt_of_le hb k.size) (by rw [k.keep b hS]; exact hh) hsz hc h1 ih2 h3 ih4
 | fn f caps cv h1 h2 ih=>exact .fn f caps cv h1 ih
theorem drel_ip {S:Nat→Prop} {w:World} {cs:List D} {v:Value} (h:DRel S w (.ip cs) v) :
  ∃ b off,S b∧b<w.heap.size∧v = .pointer (some ⟨b,off,none⟩)∧∀ (j:Nat) d,cs[j]? = some d→∃ u,w.cell? ⟨b,off+j,none⟩=some u∧DRel S w d u:=by
 cases h with
 | ip _ b off vs hS hb hc hr=>exact ⟨b,off,hS,hb,rfl,fun j d hj=>⟨vs j,hc j d hj,hr j d hj⟩⟩
theorem drel_fn {S:Nat→Prop} {w:World} {f:Nat} {caps:List D} {v:Value} (h:DRel S w (.fn f caps) v) :
  ∃ cv:Array Value,v = .func (.func f) #[] cv∧cv.size=caps.length∧∀ (i:Nat) d,caps[i]? = some d→DRel S w d (cv.getD i undef):=by
 cases h with
 | fn _ _ cv h1 h2=>exact ⟨cv,rfl,h1,h2⟩
def DsRel (S:Nat→Prop) (w:World) (ds:List D) (vs:Array Value):Prop :=
 vs.size=ds.length∧∀ (i:Nat) d v,ds[i]? = some d→vs[i]? = some v→DRel S w d v
def PRel (S:Nat→Prop) (w:World) (p:PV) (v:Value):Prop:=match p with
 | .c x=>DRel S w x v
 | .agg ds=>∃ vs,v = .agg vs∧DsRel S w ds vs
theorem DsRel.mono {S S':Nat→Prop} {w w':World} {d:List D} {v:Array Value} (h:DsRel S w d v) (k:Step S w S' w'):DsRel S' w' d v :=
 ⟨h.1,fun i d v hd hv=>(h.2 i d v hd hv).mono k⟩
theorem PRel.mono {S S':Nat→Prop} {w w':World} {d:PV} {v:Value} (h:PRel S w d v) (k:Step S w S' w'):PRel S' w' d v:=by
 cases d with
 | c x=>exact DRel.mono h k
 | agg ds=>obtain ⟨vs,e,h⟩:=h; exact ⟨vs,e,h.mono k⟩
structure K where
 ρ:Nat→Option Nat
 N:Nat
 S:Nat→Prop
 w:World
structure K.le (k k':K):Prop where
 ρ:∀ r b,k.ρ r=some b→k'.ρ r=some b
 N:k.N≤k'.N
 step:Step k.S k.w k'.S k'.w
theorem K.le.refl (k:K):k.le k:=⟨fun _ _ h=>h,Nat.le_refl _,.refl _ _⟩
theorem K.le.trans {a b c:K} (h:a.le b) (k:b.le c):a.le c:=⟨fun r x hr=>k.ρ r x (h.ρ r x hr),Nat.le_trans h.N k.N,h.step.trans k.step⟩
def CRel (_P:Program) (k:K):C→Value→Prop
 | .d x,v=>DRel k.S k.w x v
 | .os r sz off len,v=>r<k.N∧((len=0∧∃ p,v = .slice p 0 0) ∨
   ∃ b cap e n,k.ρ r=some b∧v = .slice (some ⟨b,off*sz,none⟩) len cap∧len≤cap∧k.w.shape? b=some (e,n)∧(off+cap)*sz≤n)
 | .ptr r off,v=>r<k.N∧∃ b,k.ρ r=some b∧v = .pointer (some ⟨b,off,none⟩)
 | .eptr r sz i off,v=>r<k.N∧∃ b,k.ρ r=some b∧v = .pointer (some ⟨b,i*sz+off,none⟩)
 | .mp r,v=>r<k.N∧∃ b,k.ρ r=some b∧v = .map (some b)
 | .fn f caps,v=>∃ cv:Array Value,v = .func (.func f) #[] cv∧cv.size=caps.length ∧
   ∀ (i:Nat) r off,caps[i]? = some (r,off)→r<k.N∧∃ b,k.ρ r=some b∧cv[i]? = some (.pointer (some ⟨b,off,none⟩))
 | .fx f caps,v=>∃ cv:Array Value,v = .func (.func f) #[] cv∧cv.size=caps.length ∧
   (∀ (i:Nat) r off,caps[i]? = some (.r r off)→r<k.N∧∃ b,k.ρ r=some b∧cv[i]? = some (.pointer (some ⟨b,off,none⟩))) ∧
   ∀ (i:Nat) x,caps[i]? = some (.d x)→DRel k.S k.w x (cv.getD i undef)
 | .ifc,v=>∃ t x,v = .iface t x
 | .top,v=>v.oneCell'=true
theorem CRel.mono {P:Program} {k k':K} {c:C} {v:Value} (h:CRel P k c v) (l:k.le k'):CRel P k' c v:=by
 cases c with
 | d x=>exact DRel.mono h l.step
 | os r sz off len =>
  refine ⟨Nat.lt_of_lt_of_le h.1 l.N,?_⟩
  rcases h.2 with h2 | ⟨b,cap,e,n,h1,h2,h3,h4,h5⟩
  ·exact .inl h2
  ·exact .inr ⟨b,cap,e,n,l.ρ _ _ h1,h2,h3,l.step.shape _ _ _ h4,h5⟩
 | ptr r off=>obtain ⟨h1,b,h2,h3⟩:=h; exact ⟨Nat.lt_of_lt_of_le h1 l.N,b,l.ρ _ _ h2,h3⟩
 | eptr r sz i off=>obtain ⟨h1,b,h2,h3⟩:=h; exact ⟨Nat.lt_of_lt_of_le h1 l.N,b,l.ρ _ _ h2,h3⟩
 | mp r=>obtain ⟨h1,b,h2,h3⟩:=h; exact ⟨Nat.lt_of_lt_of_le h1 l.N,b,l.ρ _ _ h2,h3⟩
 | fn f caps =>
  obtain ⟨cv,h1,h2,h3⟩:=h
  refine ⟨cv,h1,h2,fun i r off hi=>?_⟩
  obtain ⟨a,b,hb,c⟩:=h3 i r off hi
  exact ⟨Nat.lt_of_lt_of_le a l.N,b,l.ρ _ _ hb,c⟩
 | fx f caps =>
  obtain ⟨cv,h1,h2,h3,h4⟩:=h
  refine ⟨cv,h1,h2,fun i r off hi=>?_,fun i x hi=>(h4 i x hi).mono l.step⟩
  obtain ⟨a,b,hb,c⟩:=h3 i r off hi
  exact ⟨Nat.lt_of_lt_of_le a l.N,b,l.ρ _ _ hb,c⟩
 | ifc=>exact h
 | top=>exact h
def CsRel (P:Program) (k:K) (cs:List C) (vs:Array Value):Prop :=
 vs.size=cs.length∧∀ (i:Nat) c v,cs[i]? = some c→vs[i]? = some v→CRel P k c v
theorem CsRel.mono {P:Program} {k k':K} {c:List C} {v:Array Value} (h:CsRel P k c v) (l:k.le k'):CsRel P k' c v :=
 ⟨h.1,fun i c v hc hv=>(h.2 i c v hc hv).mono l⟩
def VRel (P:Program) (k:K):V→Value→Prop
 | .c x,v=>CRel P k x v
 | .agg cs,v=>∃ vs,v = .agg vs∧CsRel P k cs vs
 | .any,_=>True
theorem VRel.mono {P:Program} {k k':K} {c:V} {v:Value} (h:VRel P k c v) (l:k.le k'):VRel P k' c v:=by
 cases c with
 | c x=>exact CRel.mono (P:=P) h l
 | agg cs=>obtain ⟨vs,e,h⟩:=h; exact ⟨vs,e,h.mono l⟩
 | any=>trivial
def VsRel (P:Program) (k:K) (cs:List V) (vs:Array Value):Prop :=
 vs.size=cs.length∧∀ (i:Nat) c v,cs[i]? = some c→vs[i]? = some v→VRel P k c v
theorem VsRel.mono {P:Program} {k k':K} {c:List V} {v:Array Value} (h:VsRel P k c v) (l:k.le k'):VsRel P k' c v :=
 ⟨h.1,fun i c v hc hv=>(h.2 i c v hc hv).mono l⟩
def TRel (P:Program) (k:K):T→Value→Prop
 | .v x,v=>VRel P k x v
 | .tup xs,v=>∃ vs,v = .tuple vs∧VsRel P k xs vs
theorem TRel.mono {P:Program} {k k':K} {c:T} {v:Value} (h:TRel P k c v) (l:k.le k'):TRel P k' c v:=by
 cases c with
 | v x=>exact VRel.mono (P:=P) h l
 | tup cs=>obtain ⟨vs,e,h⟩:=h; exact ⟨vs,e,h.mono l⟩
def RowRel (S:Nat→Prop) (w:World) (c:Array Value) (sz:Nat) (xs:List (List D)):Prop :=
 xs.length*sz≤c.size∧(∀ x∈xs,x.length=sz) ∧
 ∀ (i:Nat) (x:List D) (j:Nat) (d:D),xs[i]? = some x→x[j]? = some d→∃ u,c[i*sz+j]? = some u∧DRel S w d u
theorem RowRel.mono {S S':Nat→Prop} {w w':World} {c:Array Value} {sz:Nat} {xs:List (List D)} (h:RowRel S w c sz xs) (k:Step S w S' w'):RowRel S' w' c sz xs :=
 ⟨h.1,h.2.1,fun i x j d hi hj=>let ⟨u,hu,hd⟩:=h.2.2 i x j d hi hj; ⟨u,hu,hd.mono k⟩⟩
def Stp (ces:Array MapEntry) (clock:Nat):Prop:=(∀ e∈ces.toList,e.born<clock)∧(ces.toList.map MapEntry.born).Nodup
def ERel (S:Nat→Prop) (w:World):List (Value×PV)→List MapEntry→Prop
 | [],[]=>True
 | (ky,pv) :: es,e :: ces=>e.key=ky∧PRel S w pv e.val∧ERel S w es ces
 | _,_=>False
theorem ERel.mono {S S':Nat→Prop} {w w':World} (k:Step S w S' w'):∀ {es:List (Value×PV)} {ces:List MapEntry},ERel S w es ces→ERel S' w' es ces
 | [],[],_=>trivial
 | (ky,pv) :: es,e :: ces,⟨h1,h2,h3⟩=>⟨h1,h2.mono k,ERel.mono k h3⟩
 | [],_ :: _,h=>h.elim
 | _ :: _,[],h=>h.elim
def ORel (P:Program) (k:K) (b:Option Nat):O→Prop
 | .hole=>b=none
 | .dead=>True
 | .cells cs=>∃ a c e,b=some a∧k.w.heap[a]? = some (.cells c e (0,0))∧CsRel P k cs c
 | .row sz xs=>0<sz∧((b=none∧xs=[])∨∃ a c e,b=some a∧k.w.heap[a]? = some (.cells c e (0,0))∧RowRel k.S k.w c sz xs)
 | .frow sz xs=>0<sz∧((b=none∧xs=[])∨∃ a c e fz,b=some a∧k.S a∧k.w.heap[a]? = some (.cells c e fz)∧RowRel k.S k.w c sz xs)
 | .map kt es=>(∀ p∈es,conf kt p.1=true)∧∃ (a:Nat) (ces:Array MapEntry) (clock:Nat),b=some a∧k.w.heap[a]? = some (.map ces clock)∧ces.size=es.length ∧
   (∀ (i:Nat) ky pv e,es[i]? = some (ky,pv)→ces[i]? = some e→e.key=ky∧PRel k.S k.w pv e.val)∧Stp ces clock
 | .iter kt cur left=>(∀ p∈left,conf kt p.1=true)∧(∀ p,cur=some p→conf kt p.1=true)∧∃ (a m:Nat) (ces:Array MapEntry) (clock:Nat) (seen:Array Nat),b=some a∧k.w.heap[a]? = some (.mapIter (some m) clock seen clock) ∧
   k.S m∧k.w.heap[m]? = some (.map ces clock)∧Stp ces clock∧ERel k.S k.w left (ces.toList.filter fun e=>!seen.contains e.born) ∧
   ∀ p,cur=some p→∃ e∈ces.toList,seen.back? = some e.born∧e.key=p.1∧PRel k.S k.w p.2 e.val
def stab (ρ:Nat→Option Nat) (H:List O) (w:World) (b:Nat):Prop :=
 b<w.heap.size∧∀ (r:Nat) o,H[r]? = some o→o.live=true→ρ r≠some b
def ctx (ρ:Nat→Option Nat) (H:List O) (w:World):K:=⟨ρ,H.length,stab ρ H w,w⟩
structure HRel (P:Program) (ρ:Nat→Option Nat) (H:List O) (w:World):Prop where
 objs:∀ (r:Nat) o,H[r]? = some o→ORel P (ctx ρ H w) (ρ r) o
 inj:∀ (r r':Nat) o o' b,H[r]? = some o→H[r']? = some o'→o.live=true→o'.live=true→ρ r=some b→ρ r'=some b→r=r'
 small:∀ r b,ρ r=some b→r<H.length∧b<w.heap.size
inductive NK where
 | sl | map | ptr | iface | func
inductive A where
 | mov (x:Operand)
 | pick (c a b:Operand)
 | box (j:Nat) (x:Operand)
 | zero (j:Nat) (z:List D)
 | build (z:List D) (parts:List (Nat×Nat×Operand))
 | bsl (j sz:Nat) (z:List D) (len:Nat) (parts:List (Nat×Operand))
 | load (agg:Bool) (n:Nat) (x:Operand)
 | store (n:Nat) (x v:Operand)
 | chk (x:Operand)
 | binI (op:BinOp) (k:IntKind) (x y:Operand)
 | shf (op:BinOp) (k:IntKind) (x y:Operand)
 | binS (op:BinOp) (x y:Operand)
 | eqB (neg:Bool) (x y:Operand)
 | eqA (neg:Bool) (ks:List SK) (x y:Operand)
 | eqN (neg:Bool) (k:NK) (x:Operand)
 | not (x:Operand)
 | neg (k:IntKind) (x:Operand)
 | cpl (k:IntKind) (x:Operand)
 | conv (k:IntKind) (x:Operand)
 | mkfn (f:Nat) (caps:List Operand)
 | mkmap (j:Nat) (kt:KT)
 | mksl (j sz bytes:Nat) (z:List D) (l c:Operand)
 | sliceS (x:Operand) (lo hi:Option Operand)
 | slice (sz:Nat) (x:Operand) (lo hi:Option Operand)
 | faddr (off:Nat) (x:Operand)
 | field (agg:Bool) (n off:Nat) (x:Operand)
 | iaddr (sz:Nat) (x i:Operand)
 | index (x i:Operand)
 | look (kt:KT) (z:PV) (x k:Operand) (ok:Bool)
 | mapup (kt:KT) (m k v:Operand)
 | mapdel (kt:KT) (m k:Operand)
 | rng (j:Nat) (kt:KT) (x:Operand)
 | nxt (x:Operand)
 | ent (x:Operand)
 | ext (x:Operand) (i:Nat)
 | call (f:Nat) (args:List Operand)
 | callv (f:Operand) (args:List Operand)
 | str (x:Operand)
 | lenS (x:Operand)
 | lenL (x:Operand)
 | lenM (x:Operand)
 | app (p:Bool) (j sz bytes:Nat) (s x:Operand)
 | maxmin (mx:Bool) (k:IntKind) (x y:Operand)
 | clr (sz:Nat) (z:List D) (x:Operand)
structure St where
 sl:Nat→T
 hp:List O
def putS (f:Nat→T) (d:Nat) (t:T):Nat→T:=fun i=>if i=d then t else f i
theorem putS_same (f:Nat→T) (d:Nat) (t:T):putS f d t d=t:=by simp [putS]
theorem putS_other (f:Nat→T) (d i:Nat) (t:T) (h:i≠d):putS f d t i=f i:=by simp [putS,h]
theorem putS_eq (f:Nat→T) (d i:Nat) (t:T):putS f d t i=if i=d then t else f i:=rfl
def ofL:List (Nat×T)→Nat→T
 | [],_=>.v .any
 | (d,t) :: r,i=>if i=d then t else ofL r i
def St.put (s:St) (d:Option Nat) (t:T):St :=
 match d with
 | some d=>⟨putS s.sl d t,s.hp⟩
 | none=>s
def cv:Value→T
 | .agg vs=>if vs.toList.all Value.oneCell' then .v (.agg (vs.toList.map fun v=>.d (.v v))) else .v .any
 | .tuple _=>.v .any
 | v=>.v (.c (.d (.v v)))
abbrev Gl:=Nat→Option (List D)
def ev (G:Gl) (s:Nat→T):Operand→T
 | .tmp t=>s t
 | .const v=>cv v
 | .global g=>match G g with
  | some cs=>.v (.c (.d (.ip cs)))
  | none=>.v .any
 | .func f=>.v (.c (.fn f []))
abbrev T.c (x:C):T:=.v (.c x)
abbrev T.val (x:Value):T:=.v (.c (.d (.v x)))
abbrev T.int (k:IntKind) (n:Int):T:=.v (.c (.d (.v (.int k n))))
abbrev T.bool (b:Bool):T:=.v (.c (.d (.v (.bool b))))
abbrev T.str (s:ByteArray):T:=.v (.c (.d (.v (.string s))))
def strLt (a b:ByteArray):Bool:=Op.bytesLess a.toList b.toList
def toD (H:List O):C→Option D
 | .d (.v (.slice none 0 _))=>some (.sl [])
 | .d x=>some x
 | .os r sz off len=>match H[r]? with
  | some (.row sz' xs)=>if sz'=sz∧off+len≤xs.length then some (.sl ((xs.drop off).take len)) else none
  | some (.frow sz' xs)=>if sz'=sz∧off+len≤xs.length then some (.sl ((xs.drop off).take len)) else none
  | _=>none
 | _=>none
def toDs (H:List O):List C→Option (List D)
 | []=>some []
 | c :: r=>match toD H c,toDs H r with
  | some d,some ds=>some (d :: ds)
  | _,_=>none
def frz1 (H:List O):C→List O
 | .os r _ _ _=>match H[r]? with
  | some (.row sz xs)=>H.set r (.frow sz xs)
  | _=>H
 | _=>H
def frz (H:List O):List C→List O
 | []=>H
 | c :: r=>frz (frz1 H c) r
def V.cells:V→List C
 | .c x=>[x]
 | .agg cs=>cs
 | .any=>[]
def V.known:V→Bool
 | .any=>false
 | _=>true
def toPV (H:List O) (u:V):Option PV:=match u with
 | .c x=>match toD H x with | some d=>some (.c d) | none=>none
 | .agg cs=>match toDs H cs with | some ds=>some (.agg ds) | none=>none
 | .any=>none
def splice {α:Type} (l:List α) (off:Nat) (xs:List α):List α:=l.take off ++ xs ++ l.drop (off+xs.length)
def nth {α:Type} [Inhabited α] (l:List α) (i:Nat):α:=l.getD i default
def fillC:List C→List (Nat×Nat×T)→Option (List C)
 | z,[]=>some z
 | z,(off,n,.v v) :: r=>if v.known=true∧v.cells.length=n∧off+n≤z.length then fillC (splice z off v.cells) r else none
 | _,_=>none
def fillR (H:List O) (sz:Nat):List (List D)→List (Nat×T)→Option (List (List D)×List O)
 | z,[]=>some (z,H)
 | z,(i,.v v) :: r=>match toDs H v.cells with
  | some ds=>if v.known=true∧ds.length=sz∧i<z.length then fillR (frz H v.cells) sz (z.set i ds) r else none
  | none=>none
 | _,_=>none
def skEq:SK→Value→Value→Option Bool
 | .i k0,.int k a,.int k' b=>if k0=k∧k=k' then some (decide (a=b)) else none
 | .s,.string a,.string b=>some (decide (a=b))
 | .b,.bool a,.bool b=>some (decide (a=b))
 | _,_,_=>none
def cellsEq:List SK→List C→List C→Option Bool
 | [],[],[]=>some true
 | k :: ks,.d (.v x) :: r,.d (.v y) :: r'=>match skEq k x y,cellsEq ks r r' with
  | some b,some c=>some (b && c)
  | _,_=>none
 | _,_,_=>none
def valB:Value→Value→Bool
 | .int k a,.int k' b=>k == k' && a == b
 | .bool a,.bool b=>a == b
 | .string a,.string b=>decide (a=b)
 | .slice none 0 0,.slice none 0 0=>true
 | .map none,.map none=>true
 | .pointer none,.pointer none=>true
 | .nilIface,.nilIface=>true
 | .nilFunc,.nilFunc=>true
 | _,_=>false
def valsB:List Value→List Value→Bool
 | [],[]=>true
 | a :: r,b :: s=>valB a b && valsB r s
 | _,_=>false
def keyB:Value→Value→Bool
 | .agg a,.agg b=>valsB a.toList b.toList
 | x,y=>valB x y
def mfind (es:List (Value×PV)) (k:Value):Option PV :=
 match es with
 | []=>none
 | (k',v) :: r=>if keyB k k' then some v else mfind r k
def mput (es:List (Value×PV)) (k:Value) (v:PV):List (Value×PV) :=
 match es with
 | []=>[(k,v)]
 | (k',v') :: r=>if keyB k k' then (k,v) :: r else (k',v') :: mput r k v
def mdel (es:List (Value×PV)) (k:Value):List (Value×PV) :=
 match es with
 | []=>[]
 | (k',v') :: r=>if keyB k k' then r else (k',v') :: mdel r k
def keyOf:T→Option Value
 | .v (.c (.d (.v (.int k n))))=>some (.int k n)
 | .v (.c (.d (.v (.string s))))=>some (.string s)
 | .v (.c (.d (.v (.bool b))))=>some (.bool b)
 | .v (.agg cs)=>(scals cs).map fun l=>.agg l.toArray
 | _=>none
where scals:List C→Option (List Value)
 | []=>some []
 | .d (.v (.int k n)) :: r=>(scals r).map (.int k n :: ·)
 | .d (.v (.string s)) :: r=>(scals r).map (.string s :: ·)
 | .d (.v (.bool b)) :: r=>(scals r).map (.bool b :: ·)
 | _=>none
def elems (H:List O):T→Option (List (List D))
 | .v (.c (.d (.sl xs)))=>some xs
 | .v (.c (.d (.v (.slice none 0 _))))=>some []
 | .v (.c (.os r sz off len))=>match H[r]? with
  | some (.row sz' xs)=>if sz'=sz∧off+len≤xs.length then some ((xs.drop off).take len) else none
  | some (.frow sz' xs)=>if sz'=sz∧off+len≤xs.length then some ((xs.drop off).take len) else none
  | _=>none
 | _=>none
def bytR:List (List D)→Option (List UInt8)
 | []=>some []
 | [.v (.int .u8 n)] :: r=>match bytR r with
  | some l=>some (UInt8.ofNat n.toNat :: l)
  | none=>none
 | _=>none
def maxLen47:Nat:=140737488355328
abbrev Kt:=T→St→Prop
def keyV:Value→V
 | .agg vs=>.agg (vs.toList.map fun v=>.d (.v v))
 | v=>.c (.d (.v v))
def rngW (B j:Nat) (kt:KT) (t:T) (st:St) (κ:Kt):Prop :=
 match t,st.hp[B+j]? with
 | .v (.c (.mp r)),some .hole=>match st.hp[r]? with
  | some (.map kt' es)=>kt'=kt∧κ (.v (.c (.ptr (B+j) 0))) ⟨st.sl,(st.hp.set r .dead).set (B+j) (.iter kt none es)⟩
  | _=>False
 | _,_=>False
def nxtW (t:T) (st:St) (κ:Kt):Prop :=
 match t with
 | .v (.c (.ptr r 0))=>match st.hp[r]? with
  | some (.iter kt _ left)=>(left=[]→κ (.tup [.c (.d (.v (.bool false)))]) st) ∧
    ∀ (i:Nat) p,left[i]? = some p→κ (.tup [.c (.d (.v (.bool true))),.any,.any]) ⟨st.sl,st.hp.set r (.iter kt (some p) (left.eraseIdx i))⟩
  | _=>False
 | _=>False
def entW (t:T) (st:St) (κ:Kt):Prop :=
 match t with
 | .v (.c (.ptr r 0))=>match st.hp[r]? with
  | some (.iter _ (some p) _)=>κ (.tup [keyV p.1,p.2.toV]) st
  | _=>False
 | _=>False
def binIF (op:BinOp) (k:IntKind) (a b:Int):Option (Prop×Value) :=
 match op with
 | .add=>some (True,.int k (k.wrap (a+b)))
 | .sub=>some (True,.int k (k.wrap (a-b)))
 | .mul=>some (True,.int k (k.wrap (a*b)))
 | .quo=>some (b≠0,.int k (k.wrap (a.tdiv b)))
 | .rem=>some (b≠0,.int k (a.tmod b))
 | .and=>some (True,.int k (k.wrap (BitVec.ofInt k.bits a &&& BitVec.ofInt k.bits b).toNat))
 | .or=>some (True,.int k (k.wrap (BitVec.ofInt k.bits a ||| BitVec.ofInt k.bits b).toNat))
 | .xor=>some (True,.int k (k.wrap (BitVec.ofInt k.bits a ^^^ BitVec.ofInt k.bits b).toNat))
 | .andNot=>some (True,.int k (k.wrap (BitVec.ofInt k.bits a &&& ~~~ BitVec.ofInt k.bits b).toNat))
 | .eql=>some (True,.bool (decide (a=b)))
 | .neq=>some (True,.bool (!decide (a=b)))
 | .lss=>some (True,.bool (decide (a<b)))
 | .leq=>some (True,.bool (decide (a≤b)))
 | .gtr=>some (True,.bool (decide (b<a)))
 | .geq=>some (True,.bool (decide (b≤a)))
 | _=>none
def binSF (op:BinOp) (a b:ByteArray):Option (Prop×Value) :=
 match op with
 | .add=>some (a.size+b.size≤9223372036854775807,.string (a ++ b))
 | .eql=>some (True,.bool (decide (a=b)))
 | .neq=>some (True,.bool (!decide (a=b)))
 | .lss=>some (True,.bool (strLt a b))
 | .leq=>some (True,.bool (strLt a b || decide (a=b)))
 | .gtr=>some (True,.bool (!(strLt a b || decide (a=b))))
 | .geq=>some (True,.bool (!strLt a b))
 | _=>none
def optI (s:Option T) (dflt:Int):Option Int :=
 match s with
 | none=>some dflt
 | some (.v (.c (.d (.v (.int _ n)))))=>some n
 | _=>none
structure R where
 ob:Prop
 val:T
 hp:List O
def ptrTo (r off:Nat):T:=.v (.c (.ptr r off))
def valOf (agg:Bool) (cs:List C):T:=if agg then .v (.agg cs) else match cs with | [c]=>.v (.c c) | _=>.v .any
def fop (B:Nat) (H:List O) (e:Operand→T):A→Option R
 | .mov x=>some ⟨True,e x,H⟩
 | .pick c a b=>match e c with
  | .v (.c (.d (.v (.bool t))))=>some ⟨True,if t then e a else e b,H⟩
  | _=>none
 | .box j x=>match e x,H[B+j]? with
  | .v v,some .hole=>if v.known=true then some ⟨True,ptrTo (B+j) 0,H.set (B+j) (.cells v.cells)⟩ else none
  | _,_=>none
 | .zero j z=>match H[B+j]? with
  | some .hole=>some ⟨True,ptrTo (B+j) 0,H.set (B+j) (.cells (z.map .d))⟩
  | _=>none
 | .build z parts=>match fillC (z.map .d) (parts.map fun p=>(p.1,p.2.1,e p.2.2)) with
  | some cs=>some ⟨True,.v (.agg cs),H⟩
  | none=>none
 | .bsl j sz z len parts=>match H[B+j]? with
  | some .hole=>match fillR H sz (List.replicate len z) (parts.map fun p=>(p.1,e p.2)) with
   | some (xs,H')=>some ⟨True,.v (.c (.os (B+j) sz 0 len)),H'.set (B+j) (.row sz xs)⟩
   | none=>none
  | _=>none
 | .load agg n x=>match e x with
  | .v (.c (.ptr r off))=>match H[r]? with
   | some (.cells cs)=>if off+n≤cs.length then some ⟨True,valOf agg ((cs.drop off).take n),H⟩ else none
   | _=>none
  | .v (.c (.eptr r sz i off))=>match H[r]? with
   | some (.row sz' xs)=>if sz'=sz∧off+n≤sz then some ⟨i<xs.length,valOf agg ((((nth xs i).drop off).take n).map .d),H⟩ else none
   | some (.frow sz' xs)=>if sz'=sz∧off+n≤sz then some ⟨i<xs.length,valOf agg ((((nth xs i).drop off).take n).map .d),H⟩ else none
   | _=>none
  | .v (.c (.d (.ip cs)))=>some ⟨n≤cs.length,valOf agg ((cs.take n).map .d),H⟩
  | _=>none
 | .store n x v=>match e x,e v with
  | .v (.c (.ptr r off)),.v u=>match H[r]? with
   | some (.cells cs)=>if u.known=true∧off+n≤cs.length∧u.cells.length=n then some ⟨True,.v .any,H.set r (.cells (splice cs off u.cells))⟩ else none
   | _=>none
  | .v (.c (.eptr r sz i off)),.v u=>match toDs H u.cells with
   | some ds=>match (frz H u.cells)[r]? with
    | some (.row sz' xs)=>if u.known=true∧sz'=sz∧off+n≤sz∧ds.length=n then some ⟨i<xs.length,.v .any,(frz H u.cells).set r (.row sz (xs.set i (splice (nth xs i) off ds)))⟩ else none
    | _=>none
   | none=>none
  | _,_=>none
 | .chk x=>match e x with
  | .v (.c (.ptr r off))=>some ⟨True,ptrTo r off,H⟩
  | .v (.c (.eptr r sz i off))=>some ⟨True,.v (.c (.eptr r sz i off)),H⟩
  | .v (.c (.d (.ip cs)))=>some ⟨True,.v (.c (.d (.ip cs))),H⟩
  | .v (.c (.fn f caps))=>some ⟨True,.v (.c (.fn f caps)),H⟩
  | _=>none
 | .binI op k x y=>match e x,e y with
  | .v (.c (.d (.v (.int k1 a)))),.v (.c (.d (.v (.int k2 b))))=>if k1=k∧k2=k then match binIF op k a b with
   | some (p,v)=>some ⟨p,.val v,H⟩
   | none=>none else none
  | _,_=>none
 | .shf op k x y=>match e x,e y with
  | .v (.c (.d (.v (.int k1 a)))),.v (.c (.d (.v (.int _ b))))=>if k1=k then match op with
   | .shl=>some ⟨0≤b,.int k (k.wrap (a*2^(min b.toNat k.bits))),H⟩
   | .shr=>some ⟨0≤b,.int k (a.fdiv (2^(min b.toNat k.bits))),H⟩
   | _=>none else none
  | _,_=>none
 | .binS op x y=>match e x,e y with
  | .v (.c (.d (.v (.string a)))),.v (.c (.d (.v (.string b))))=>match binSF op a b with
   | some (p,v)=>some ⟨p,.val v,H⟩
   | none=>none
  | _,_=>none
 | .eqB ng x y=>match e x,e y with
  | .v (.c (.d (.v (.bool a)))),.v (.c (.d (.v (.bool b))))=>some ⟨True,.bool (if ng then !decide (a=b) else decide (a=b)),H⟩
  | _,_=>none
 | .eqA ng ks x y=>match e x,e y with
  | .v (.agg a),.v (.agg b)=>match cellsEq ks a b with
   | some r=>some ⟨True,.bool (if ng then !r else r),H⟩
   | none=>none
  | _,_=>none
 | .eqN ng k x=>match k,e x with
  | .iface,.v (.c (.d (.v .nilIface)))=>some ⟨True,.bool (!ng),H⟩
  | .iface,.v (.c .ifc)=>some ⟨True,.bool ng,H⟩
  | .sl,.v (.c (.d (.v (.slice none _ _))))=>some ⟨True,.bool (!ng),H⟩
  | .func,.v (.c (.fn _ _))=>some ⟨True,.bool ng,H⟩
  | .func,.v (.c (.d (.fn _ _)))=>some ⟨True,.bool ng,H⟩
  | .func,.v (.c (.d (.v .nilFunc)))=>some ⟨True,.bool (!ng),H⟩
  | .map,.v (.c (.mp _))=>some ⟨True,.bool ng,H⟩
  | .map,.v (.c (.d (.v (.map none))))=>some ⟨True,.bool (!ng),H⟩
  | .ptr,.v (.c (.ptr _ _))=>some ⟨True,.bool ng,H⟩
  | .ptr,.v (.c (.d (.v (.pointer none))))=>some ⟨True,.bool (!ng),H⟩
  | _,_=>none
 | .not x=>match e x with
  | .v (.c (.d (.v (.bool a))))=>some ⟨True,.bool (!a),H⟩
  | _=>none
 | .neg k x=>match e x with
  | .v (.c (.d (.v (.int k1 a))))=>if k1=k then some ⟨True,.int k (k.wrap (0-a)),H⟩ else none
  | _=>none
 | .cpl k x=>match e x with
  | .v (.c (.d (.v (.int k1 a))))=>if k1=k then some ⟨True,.int k (k.wrap (BitVec.ofInt k.bits (if k.signed then -1 else k.max) ^^^ BitVec.ofInt k.bits a).toNat),H⟩ else none
  | _=>none
 | .conv k x=>match e x with
  | .v (.c (.d (.v (.int _ a))))=>some ⟨True,.int k (k.wrap a),H⟩
  | _=>none
 | .mkfn f caps=>match capsOf (caps.map e) with
  | some l=>some ⟨True,.v (.c (.fn f l)),H⟩
  | none=>match capsX (caps.map e) with
   | some l=>some ⟨True,.v (.c (.fx f l)),H⟩
   | none=>none
 | .mkmap j kt=>match H[B+j]? with
  | some .hole=>some ⟨True,.v (.c (.mp (B+j))),H.set (B+j) (.map kt [])⟩
  | _=>none
 | .mksl j sz bytes z l c=>match e l,e c,H[B+j]? with
  | .v (.c (.d (.v (.int _ n)))),.v (.c (.d (.v (.int _ m)))),some .hole =>
   some ⟨0≤n∧n≤m∧m*bytes≤140737488355328∧m≤140737488355328,.v (.c (.os (B+j) sz 0 n.toNat)),H.set (B+j) (.row sz (List.replicate n.toNat z))⟩
  | _,_,_=>none
 | .sliceS x lo hi=>match e x with
  | .v (.c (.d (.v (.string s))))=>match optI (lo.map e) 0,optI (hi.map e) s.size with
   | some l,some h=>some ⟨0≤l∧l≤h∧h≤s.size,.str (s.extract l.toNat h.toNat),H⟩
   | _,_=>none
  | _=>none
 | .slice sz x lo hi=>match e x with
  | .v (.c (.d (.sl xs)))=>match optI (lo.map e) 0,optI (hi.map e) xs.length with
   | some l,some h=>some ⟨0≤l∧l≤h∧h≤xs.length∧(l=0∨∀ x∈xs,x.length=sz),.v (.c (.d (.sl ((xs.take h.toNat).drop l.toNat)))),H⟩
   | _,_=>none
  | .v (.c (.os r sz' off len))=>if sz'=sz then match optI (lo.map e) 0,optI (hi.map e) len with
   | some l,some h=>some ⟨0≤l∧l≤h∧h≤len,.v (.c (.os r sz (off+l.toNat) (h.toNat-l.toNat))),H⟩
   | _,_=>none else none
  | .v (.c (.d (.v (.slice none 0 0))))=>match optI (lo.map e) 0,optI (hi.map e) 0 with
   | some l,some h=>some ⟨l=0∧h=0,.v (.c (.d (.v (.slice none 0 0)))),H⟩
   | _,_=>none
  | _=>none
 | .faddr off x=>match e x with
  | .v (.c (.ptr r o))=>some ⟨True,ptrTo r (o+off),H⟩
  | .v (.c (.eptr r sz i o))=>some ⟨True,.v (.c (.eptr r sz i (o+off))),H⟩
  | .v (.c (.d (.ip cs)))=>some ⟨True,.v (.c (.d (.ip (cs.drop off)))),H⟩
  | _=>none
 | .field agg n off x=>match e x with
  | .v (.agg cs)=>if off+n≤cs.length then some ⟨True,valOf agg ((cs.drop off).take n),H⟩ else none
  | _=>none
 | .iaddr sz x i=>match e x,e i with
  | .v (.c (.d (.sl xs))),.v (.c (.d (.v (.int _ n))))=>some ⟨0≤n∧n<xs.length∧(nth xs n.toNat).length=sz,.v (.c (.d (.ip (nth xs n.toNat)))),H⟩
  | .v (.c (.os r sz' off len)),.v (.c (.d (.v (.int _ n))))=>if sz'=sz then some ⟨0≤n∧n<len,.v (.c (.eptr r sz (off+n.toNat) 0)),H⟩ else none
  | _,_=>none
 | .index x i=>match e x,e i with
  | .v (.c (.d (.v (.string s)))),.v (.c (.d (.v (.int _ n))))=>some ⟨0≤n∧n<s.size,.int .u8 (s.data.toList.getD n.toNat 0).toNat,H⟩
  | _,_=>none
 | .look kt z x k ok=>match e x,keyOf (e k) with
  | .v (.c (.mp r)),some ky=>match H[r]? with
   | some (.map kt' es)=>if kt'=kt∧conf kt ky=true then match mfind es ky with
    | some v=>some ⟨True,if ok then .tup [v.toV,.c (.d (.v (.bool true)))] else .v v.toV,H⟩
    | none=>some ⟨True,if ok then .tup [z.toV,.c (.d (.v (.bool false)))] else .v z.toV,H⟩ else none
   | _=>none
  | .v (.c (.d (.mp kt' es))),some ky=>if kt'=kt∧conf kt ky=true then match mfind es ky with
    | some v=>some ⟨True,if ok then .tup [v.toV,.c (.d (.v (.bool true)))] else .v v.toV,H⟩
    | none=>some ⟨True,if ok then .tup [z.toV,.c (.d (.v (.bool false)))] else .v z.toV,H⟩ else none
  | _,_=>none
 | .mapup kt m k v=>match e m,keyOf (e k),e v with
  | .v (.c (.mp r)),some ky,.v u=>match toPV H u with
   | some pv=>match (frz H u.cells)[r]? with
    | some (.map kt' es)=>if kt'=kt∧conf kt ky=true then some ⟨True,.v .any,(frz H u.cells).set r (.map kt (mput es ky pv))⟩ else none
    | _=>none
   | none=>none
  | _,_,_=>none
 | .mapdel kt m k=>match e m,keyOf (e k) with
  | .v (.c (.mp r)),some ky=>match H[r]? with
   | some (.map kt' es)=>if kt'=kt∧conf kt ky=true then some ⟨True,.tup [],H.set r (.map kt (mdel es ky))⟩ else none
   | _=>none
  | _,_=>none
 | .ext x i=>match e x with
  | .tup vs=>match vs[i]? with
   | some v=>some ⟨True,.v v,H⟩
   | none=>none
  | _=>none
 | .str x=>match elems H (e x) with
  | some xs=>match bytR xs with
   | some l=>some ⟨True,.str ⟨l.toArray⟩,H⟩
   | none=>none
  | none=>none
 | .lenS x=>match e x with
  | .v (.c (.d (.v (.string s))))=>some ⟨True,.int .i64 s.size,H⟩
  | _=>none
 | .lenL x=>match e x with
  | .v (.c (.d (.sl xs)))=>some ⟨True,.int .i64 xs.length,H⟩
  | .v (.c (.d (.v (.slice none n _))))=>some ⟨True,.int .i64 n,H⟩
  | .v (.c (.os _ _ _ len))=>some ⟨True,.int .i64 len,H⟩
  | _=>none
 | .lenM x=>match e x with
  | .v (.c (.mp r))=>match H[r]? with
   | some (.map _ es)=>some ⟨True,.int .i64 es.length,H⟩
   | _=>none
  | _=>none
 | .app p j sz bytes s x=>match H[B+j]?,elems H (e x) with
  | some .hole,some ys=>match e s with
   | .v (.c (.d (.v (.slice none 0 0))))=>some ⟨ys.length*bytes≤maxLen47∧∀ y∈ys,y.length=sz,.v (.c (.os (B+j) sz 0 ys.length)),H.set (B+j) (.row sz ys)⟩
   | .v (.c (.os r sz' 0 len))=>match H[r]? with
    | some (.row sz2 xs)=>if sz'=sz∧sz2=sz then
      some ⟨(if p then len≤xs.length else len=xs.length)∧((if p then len else xs.length)+ys.length)*bytes≤maxLen47∧∀ y∈ys,y.length=sz,.v (.c (.os (B+j) sz 0 (len+ys.length))),(H.set r .dead).set (B+j) (.row sz ((if p then xs.take len else xs) ++ ys))⟩ else none
    | _=>none
   | _=>none
  | _,_=>none
 | .maxmin mx k x y=>match e x,e y with
  | .v (.c (.d (.v (.int k1 a)))),.v (.c (.d (.v (.int k2 b))))=>if k1=k∧k2=k then some ⟨True,.int k (if mx then (if a<b then b else a) else (if b<a then b else a)),H⟩ else none
  | _,_=>none
 | .clr sz z x=>match e x with
  | .v (.c (.os r sz' off len))=>match H[r]? with
   | some (.row sz2 xs)=>if sz'=sz∧sz2=sz then some ⟨off+len≤xs.length,.tup [],H.set r (.row sz (splice xs off (List.replicate len z)))⟩ else none
   | _=>none
  | .v (.c (.d (.v (.slice none _ _))))=>some ⟨True,.tup [],H⟩
  | _=>none
 | .call _ _=>none
 | .callv _ _=>none
 | .rng _ _ _=>none
 | .nxt _=>none
 | .ent _=>none
where
 capsOf:List T→Option (List (Nat×Nat))
  | []=>some []
  | .v (.c (.ptr r off)) :: rest=>match capsOf rest with
   | some l=>some ((r,off) :: l)
   | none=>none
  | _=>none
 capsX:List T→Option (List Cap)
  | []=>some []
  | .v (.c (.ptr r off)) :: rest=>match capsX rest with
   | some l=>some (.r r off :: l)
   | none=>none
  | .v (.c (.d (.ip ds))) :: rest=>match capsX rest with
   | some l=>some (.d (.ip ds) :: l)
   | none=>none
  | _=>none
def GRel (G:Gl) (S:Nat→Prop) (w:World):Prop :=
 ∀ g cs,G g=some cs→S g∧g<w.heap.size∧∀ (j:Nat) d,cs[j]? = some d→∃ u,w.cell? ⟨g,j,none⟩=some u∧DRel S w d u
theorem GRel.mono {G:Gl} {S S':Nat→Prop} {w w':World} (h:GRel G S w) (k:Step S w S' w'):GRel G S' w':=fun g cs hg=>by
 obtain ⟨h1,h2,h3⟩:=h g cs hg
 refine ⟨k.sub g h1,Nat.lt_of_lt_of_le h2 k.size,fun j d hj=>?_⟩
 obtain ⟨u,hu,hd⟩:=h3 j d hj
 exact ⟨u,by rw [cell_of_block (k.keep g h1)]; exact hu,hd.mono k⟩
def Callable (P:Program) (f:Nat):Prop:=∃ fn,P.funcs[f]? = some fn∧fn.body.isNone=false∧(fn.name == "runtime.NumGoroutine")=false
def ACalls (P:Program) (G:Gl) (f:Nat) (args:List V) (H:List O) (R:T→List O→Prop):Prop :=
 Callable P f∧∀ (ρ:Nat→Option Nat) (w:World) (vs:Array Value),HRel P ρ H w→GRel G (stab ρ H w) w→VsRel P (ctx ρ H w) args vs →
  Calls P f vs w fun e w'=>∃ v t ρ' H',e = .returned v∧R t H'∧HRel P ρ' H' w'∧TRel P (ctx ρ' H' w') t v∧(ctx ρ H w).le (ctx ρ' H' w')
theorem ACalls.mono {P:Program} {G:Gl} {f:Nat} {args:List V} {H:List O} {R R':T→List O→Prop} (h:ACalls P G f args H R)
  (hr:∀ t H',R t H'→R' t H'):ACalls P G f args H R':=⟨h.1,fun ρ w vs a b c =>
 (h.2 ρ w vs a b c).mono fun _ _ ⟨v,t,ρ',H',e1,e2,e3⟩=>⟨v,t,ρ',H',e1,hr _ _ e2,e3⟩⟩
structure AOper where
 dst:Option Nat
 op:A
 guard:Option (Nat×Bool)
inductive AC where
 | skip
 | region (n:Nat) (ops:List AOper)
 | dregion (n:Nat) (ops:List AOper) (after:List (List Nat))
 | seq (a b:AC)
 | cond (c:Operand) (a b:AC)
 | block (id:Nat) (a:AC)
 | loop (a:AC)
 | exit (id:Nat)
 | ret
inductive AExit where
 | normal
 | exit (id:Nat)
 | ret
abbrev Qt:=AExit→St→Prop
def condP (t:T) (A B:Prop):Prop :=
 match t with
 | .v (.c (.d (.v (.bool b))))=>(b=true→A)∧(b=false→B)
 | _=>False
def nrmC:C→C
 | .d (.v (.slice none 0 _))=>.d (.sl [])
 | c=>c
def nrm:V→V
 | .c x=>.c (nrmC x)
 | .agg cs=>.agg (cs.map nrmC)
 | .any=>.any
def argsOf:List T→Option (List V)
 | []=>some []
 | .v x :: r=>match argsOf r with
  | some l=>some (nrm x :: l)
  | none=>none
 | _=>none
section
variable (P:Program) (G:Gl)
def callK (s:Nat→T) (k:Kt):T→List O→Prop:=fun t H=>k t ⟨s,H⟩
def wop (B:Nat) (a:A) (st:St) (κ:Kt):Prop :=
 match a with
 | .call f args=>match argsOf (args.map (ev G st.sl)) with
  | some vs=>ACalls P G f vs st.hp (callK st.sl κ)
  | none=>False
 | .callv f args=>match ev G st.sl f,argsOf (args.map (ev G st.sl)) with
  | .v (.c (.fn f caps)),some vs=>ACalls P G f (vs ++ caps.map fun c=>.c (.ptr c.1 c.2)) st.hp (callK st.sl κ)
  | .v (.c (.d (.fn f caps))),some vs=>ACalls P G f (vs ++ caps.map fun c=>.c (.d c)) st.hp (callK st.sl κ)
  | _,_=>False
 | .pick c a b=>condP (ev G st.sl c) (κ (ev G st.sl a) st) (κ (ev G st.sl b) st)
 | .eqN ng k x=>match k,ev G st.sl x with
  | .sl,.v (.c (.d (.sl xs)))=>∀ b,(xs≠[]→b=false)→κ (.bool (if ng then !b else b)) st
  | .sl,.v (.c (.os _ _ _ len))=>∀ b,(len≠0→b=false)→κ (.bool (if ng then !b else b)) st
  | k,_=>match fop B st.hp (ev G st.sl) (.eqN ng k x) with
   | some r=>r.ob∧κ r.val ⟨st.sl,r.hp⟩
   | none=>False
 | .rng j kt x=>rngW B j kt (ev G st.sl x) st κ
 | .nxt x=>nxtW (ev G st.sl x) st κ
 | .ent x=>entW (ev G st.sl x) st κ
 | a=>match fop B st.hp (ev G st.sl) a with
  | some r=>r.ob∧κ r.val ⟨st.sl,r.hp⟩
  | none=>False
def condW (t:T) (want:Bool) (A B:Prop):Prop :=
 match t with
 | .v (.c (.d (.v (.bool b))))=>(b=want→A)∧(b = !want→B)
 | .tup []=>B
 | _=>False
def wops (B:Nat):List AOper→St→(St→Prop)→Prop
 | [],st,k=>k st
 | o :: r,st,k=>match o.guard with
  | none=>wop P G B o.op st fun t s=>wops B r (s.put o.dst t) k
  | some (t,want)=>condW (st.sl t) want (wop P G B o.op st fun t s=>wops B r (s.put o.dst t) k) (wops B r (st.put o.dst (.tup [])) k)
def wone (B:Nat) (o:AOper) (st:St) (k:St→Prop):Prop :=
 match o.guard with
 | none=>wop P G B o.op st fun t s=>k (s.put o.dst t)
 | some (t,want)=>condW (st.sl t) want (wop P G B o.op st fun t s=>k (s.put o.dst t)) (k (st.put o.dst (.tup [])))
def readyA (after:List (List Nat)) (dn:List Nat):List Nat :=
 (List.range after.length).filter fun i=>!dn.contains i && (after.getD i []).all fun e=>dn.contains e
def wAny (B:Nat) (ops:List AOper) (after:List (List Nat)):Nat→List Nat→St→(St→Prop)→Prop
 | 0,dn,st,k=>readyA after dn=[]∧k st
 | f+1,dn,st,k=>(readyA after dn=[]→k st)∧∀ i∈readyA after dn,∀ o,ops[i]? = some o→wone P G B o st fun s=>wAny B ops after f (i :: dn) s k
structure Base where
 S0:Nat→Prop
 w0:World
 ρ0:Nat→Option Nat
 N0:Nat
def Base.k (b:Base):K:=⟨b.ρ0,b.N0,b.S0,b.w0⟩
structure Sim (n:Nat) (b:Base) (ρ:Nat→Option Nat) (st:St) (a:Act) (w:World):Prop where
 heap:HRel P ρ st.hp w
 size:a.tmps.size=n
 defers:a.defers=[]
 slots:∀ t,TRel P (ctx ρ st.hp w) (st.sl t) (a.tmps.getD t undef)
 glob:GRel G (stab ρ st.hp w) w
 le:b.k.le (ctx ρ st.hp w)
def Weak (N0:Nat) (s s':St):Prop:=∀ n b ρ a w,b.N0=N0→(∀ r x,b.ρ0 r=some x→r<N0)→Sim P G n b ρ s a w→∃ ρ',Sim P G n b ρ' s' a w
def wk (N0:Nat) (s:St) (I:St→Prop):Prop:=∃ s',Weak P G N0 s s'∧I s'
def normQ (Q:Qt):St→Prop:=fun s=>Q .normal s
def blockQ (id:Nat) (Q:Qt):Qt
 | .exit i,s=>if i=id then Q .normal s else Q (.exit i) s
 | e,s=>Q e s
def loopQ (N0:Nat) (I:St→Prop) (μ:St→Nat) (s:St) (Q:Qt):Qt
 | .normal,s'=>wk P G N0 s' fun s''=>I s''∧μ s''<μ s
 | e,s'=>Q e s'
def thenQ (F:St→Qt→Prop) (Q:Qt):Qt
 | .normal,s=>F s Q
 | e,s=>Q e s
def holes (n:Nat) (st:St):St:=⟨st.sl,st.hp ++ List.replicate n .hole⟩
def loopW (N0:Nat) (F:St→Qt→Prop) (st:St) (Q:Qt):Prop :=
 ∃ (I:St→Prop) (μ:St→Nat),wk P G N0 st I∧∀ s,I s→F s (loopQ P G N0 I μ s Q)
def wcode (N0:Nat):AC→St→Qt→Prop
 | .skip,st,Q=>Q .normal st
 | .region n ops,st,Q=>wops P G st.hp.length ops (holes n st) (normQ Q)
 | .dregion n ops after,st,Q=>wAny P G st.hp.length ops after after.length [] (holes n st) (normQ Q)
 | .seq x y,st,Q=>wcode N0 x st (thenQ (wcode N0 y) Q)
 | .cond c x y,st,Q=>condP (ev G st.sl c) (wcode N0 x st Q) (wcode N0 y st Q)
 | .block id x,st,Q=>wcode N0 x st (blockQ id Q)
 | .loop x,st,Q=>loopW P G N0 (wcode N0 x) st Q
 | .exit id,st,Q=>Q (.exit id) st
 | .ret,st,Q=>Q .ret st
end
theorem ORel.mono {P:Program} {k k':K} {b:Option Nat} {o:O} (h:ORel P k b o) (l:k.le k') (hb:o.live=true→∀ a,b=some a→k'.w.heap[a]? = k.w.heap[a]?):ORel P k' b o:=by
 cases o with
 | hole=>exact h
 | dead=>trivial
 | cells cs =>
  obtain ⟨a,c,e,h1,h2,h3⟩:=h
  exact ⟨a,c,e,h1,by rw [hb rfl a h1]; exact h2,h3.mono l⟩
 | row sz xs =>
  refine ⟨h.1,?_⟩
  rcases h.2 with h2 | ⟨a,c,e,h1,h2,h3⟩
  ·exact .inl h2
  ·exact .inr ⟨a,c,e,h1,by rw [hb rfl a h1]; exact h2,h3.mono l.step⟩
 | frow sz xs =>
  refine ⟨h.1,?_⟩
  rcases h.2 with h2 | ⟨a,c,e,fz,h1,hS,h2,h3⟩
  ·exact .inl h2
  ·exact .inr ⟨a,c,e,fz,h1,l.step.sub a hS,by rw [l.step.keep a hS]; exact h2,h3.mono l.step⟩
 | map kt es =>
  obtain ⟨h0,a,ces,cl,h1,h2,h3,h4,h5⟩:=h
  exact ⟨h0,a,ces,cl,h1,by rw [hb rfl a h1]; exact h2,h3,fun i ky pv e hi he=>⟨(h4 i ky pv e hi he).1,(h4 i ky pv e hi he).2.mono l.step⟩,h5⟩
 | iter kt cur left =>
  obtain ⟨h0,h0',a,m,ces,cl,seen,h1,h2,hS,h3,h4,h5,h6⟩:=h
  refine ⟨h0,h0',a,m,ces,cl,seen,h1,by rw [hb rfl a h1]; exact h2,l.step.sub m hS,by rw [l.step.keep m hS]; exact h3,h4,h5.mono l.step,fun p hp=>?_⟩
  obtain ⟨e,e1,e2,e3,e4⟩:=h6 p hp
  exact ⟨e,e1,e2,e3,e4.mono l.step⟩
theorem HRel.change {P:Program} {ρ ρ':Nat→Option Nat} {H H':List O} {w w':World} (h:HRel P ρ H w) (le:(ctx ρ H w).le (ctx ρ' H' w'))
  (each:∀ (r:Nat) o,H'[r]? = some o→ORel P (ctx ρ' H' w') (ρ' r) o∨(H[r]? = some o∧ρ' r=ρ r∧(o.live=true→∀ a,ρ r=some a→w'.heap[a]? = w.heap[a]?)))
  (inj:∀ (r r':Nat) o o' b,H'[r]? = some o→H'[r']? = some o'→o.live=true→o'.live=true→ρ' r=some b→ρ' r'=some b→r=r')
  (small:∀ r b,ρ' r=some b→r<H'.length∧b<w'.heap.size):HRel P ρ' H' w':=by
 refine ⟨fun r o hr=>?_,inj,small⟩
 rcases each r o hr with h1 | ⟨h1,h2,h3⟩
 ·exact h1
 ·rw [h2]
  exact (h.objs r o h1).mono le h3
def pushO (w:World) (o:Obj):World:={ w with heap:=w.heap.push o }
def upd (ρ:Nat→Option Nat) (i b:Nat):Nat→Option Nat:=fun r=>if r=i then some b else ρ r
theorem upd_same (ρ:Nat→Option Nat) (i b:Nat):upd ρ i b i=some b:=by simp [upd]
theorem upd_other (ρ:Nat→Option Nat) (i b r:Nat) (h:r≠i):upd ρ i b r=ρ r:=by simp [upd,h]
theorem push_keep (w:World) (o:Obj) (b:Nat) (h:b<w.heap.size):(pushO w o).heap[b]? = w.heap[b]? := by
 simp only [pushO,Array.getElem?_push]
 rw [if_neg (by omega)]
theorem push_at (w:World) (o:Obj):(pushO w o).heap[w.heap.size]? = some o:=by show (w.heap.push o)[w.heap.size]? = some o; rw [Array.getElem?_push,if_pos rfl]
theorem push_size (w:World) (o:Obj):(pushO w o).heap.size=w.heap.size+1:=by simp [pushO]
theorem shape_lt {w:World} {b:Nat} {x:TypeId×Nat} (h:w.shape? b=some x):b<w.heap.size:=by
 simp only [World.shape?] at h
 by_cases hb:b<w.heap.size
 ·exact hb
 ·rw [Array.getElem?_eq_none (by omega)] at h; simp at h
theorem step_push {S S':Nat→Prop} {w:World} (o:Obj) (hS:∀ b,S b→b<w.heap.size) (sub:∀ b,S b→S' b):Step S w S' (pushO w o) :=
 ⟨sub,fun b hb=>push_keep w o b (hS b hb),by simp [pushO],fun b e n h=>by rw [shape_of_block (push_keep w o b (shape_lt h))]; exact h,rfl,rfl,rfl⟩
theorem getElem?_set' {α:Type} (l:List α) (i j:Nat) (x y:α) (h:(l.set i x)[j]? = some y):(j=i∧y=x)∨(j≠i∧l[j]? = some y):=by
 by_cases e:j=i
 ·subst e
  by_cases hl:j<l.length
  ·rw [List.getElem?_set_self hl] at h; exact .inl ⟨rfl,by simpa using h.symm⟩
  ·rw [List.getElem?_eq_none (by simpa using Nat.le_of_not_lt hl)] at h; cases h
 ·rw [List.getElem?_set_ne (fun x=>e x.symm)] at h; exact .inr ⟨e,h⟩
theorem lt_of_get {α:Type} {l:List α} {i:Nat} {x:α} (h:l[i]? = some x):i<l.length:=by
 by_cases hl:i<l.length
 ·exact hl
 ·rw [List.getElem?_eq_none (by omega)] at h; cases h
theorem HRel.le_alloc {P:Program} {ρ:Nat→Option Nat} {H:List O} {w:World} (h:HRel P ρ H w) {id:Nat} (hid:H[id]? = some .hole) (o:Obj) (ob:O) :
  (ctx ρ H w).le (ctx (upd ρ id w.heap.size) (H.set id ob) (pushO w o)):=by
 have hn:ρ id=none:=h.objs id _ hid
 refine ⟨fun r b hr=>?_,by simp [ctx],?_⟩
 ·have:r≠id:=fun e=>by subst e; rw [show (ctx ρ H w).ρ r=none from hn] at hr; cases hr
  show upd ρ id _ r=some b
  rw [upd_other _ _ _ _ this]; exact hr
 ·refine step_push o (fun b hb=>hb.1) (fun b hb=>⟨by have:=hb.1; rw [push_size]; omega,fun r ob' hr hl=>?_⟩)
  rcases getElem?_set' _ _ _ _ _ hr with ⟨rfl,rfl⟩ | ⟨hne,hr'⟩
  ·rw [upd_same]; intro e; have:=hb.1; injection e; omega
  ·rw [upd_other _ _ _ _ hne]; exact hb.2 r ob' hr' hl
theorem HRel.alloc {P:Program} {ρ:Nat→Option Nat} {H:List O} {w:World} (h:HRel P ρ H w) {id:Nat} (hid:H[id]? = some .hole) (o:Obj) (ob:O)
  (hob:ORel P (ctx (upd ρ id w.heap.size) (H.set id ob) (pushO w o)) (some w.heap.size) ob) :
  HRel P (upd ρ id w.heap.size) (H.set id ob) (pushO w o):=by
 refine h.change (h.le_alloc hid o ob) (fun r o' hr=>?_) (fun r r' o1 o2 b h1 h2 l1 l2 e1 e2=>?_) (fun r b hr=>?_)
 ·rcases getElem?_set' _ _ _ _ _ hr with ⟨rfl,rfl⟩ | ⟨hne,hr'⟩
  ·rw [upd_same]; exact .inl hob
  ·refine .inr ⟨hr',upd_other _ _ _ _ hne,fun _ a ha=>push_keep _ _ _ (h.small r a ha).2⟩
 ·rcases getElem?_set' _ _ _ _ _ h1 with ⟨rfl,rfl⟩ | ⟨n1,h1'⟩
  ·rcases getElem?_set' _ _ _ _ _ h2 with ⟨rfl,rfl⟩ | ⟨n2,h2'⟩
   ·rfl
   ·rw [upd_same] at e1; rw [upd_other _ _ _ _ n2] at e2
    have:=(h.small _ _ e2).2
    injection e1; omega
  ·rcases getElem?_set' _ _ _ _ _ h2 with ⟨rfl,rfl⟩ | ⟨n2,h2'⟩
   ·rw [upd_same] at e2; rw [upd_other _ _ _ _ n1] at e1
    have:=(h.small _ _ e1).2
    injection e2; omega
   ·rw [upd_other _ _ _ _ n1] at e1; rw [upd_other _ _ _ _ n2] at e2
    exact h.inj r r' o1 o2 b h1' h2' l1 l2 e1 e2
 ·by_cases e:r=id
  ·subst e; rw [upd_same] at hr; injection hr with hr; subst hr
   exact ⟨by simpa using lt_of_get hid,by rw [push_size]; omega⟩
  ·rw [upd_other _ _ _ _ e] at hr
   have:=h.small r b hr
   exact ⟨by simpa using this.1,by rw [push_size]; omega⟩
def setB (w:World) (b:Nat) (o:Obj):World:={ w with heap:=w.heap.setIfInBounds b o }
theorem setB_other (w:World) (b a:Nat) (o:Obj) (h:a≠b):(setB w b o).heap[a]? = w.heap[a]? := by
 simp only [setB]; rw [Array.getElem?_setIfInBounds_ne (fun e=>h e.symm)]
theorem setB_same (w:World) (b:Nat) (o:Obj) (h:b<w.heap.size):(setB w b o).heap[b]? = some o:=by
 simp only [setB]; rw [Array.getElem?_setIfInBounds_self_of_lt h]
theorem setB_size (w:World) (b:Nat) (o:Obj):(setB w b o).heap.size=w.heap.size:=by simp [setB]
def Obj.shape:Obj→Option (TypeId×Nat)
 | .cells c e _=>some (e,c.size)
 | _=>none
theorem shape?_eq (w:World) (b:Nat):w.shape? b=(w.heap[b]?).bind Obj.shape:=by
 simp only [World.shape?]
 cases w.heap[b]? with
 | none=>rfl
 | some o=>cases o <;> rfl
theorem step_setB {S S':Nat→Prop} {w:World} {b:Nat} {o o':Obj} (ho:w.heap[b]? = some o) (hs:Obj.shape o'=Obj.shape o) (hb:¬ S b) (sub:∀ b,S b→S' b):Step S w S' (setB w b o'):=by
 refine ⟨sub,fun a ha=>setB_other w b a o' (fun e=>hb (e▸ha)),by rw [setB_size]; exact Nat.le_refl _,fun a e n h=>?_,rfl,rfl,rfl⟩
 by_cases e:a=b
 ·subst e
  have hlt:=shape_lt h
  rw [shape?_eq,setB_same _ _ _ hlt]
  rw [shape?_eq,ho] at h
  simpa [hs] using h
 ·rw [shape_of_block (setB_other w b a o' e)]; exact h
theorem HRel.le_setB {ρ:Nat→Option Nat} {H:List O} {w:World} {r b:Nat} {o:O} (hr:H[r]? = some o) (hl:o.live=true) (hρ:ρ r=some b)
  {ob ob':Obj} (hob:w.heap[b]? = some ob) (hs:Obj.shape ob'=Obj.shape ob) (o':O) (hl':o'.live=true):(ctx ρ H w).le (ctx ρ (H.set r o') (setB w b ob')):=by
 refine ⟨fun _ _ h=>h,by simp [ctx],step_setB hob hs (fun hst=>hst.2 r o hr hl hρ) (fun a ha=>⟨by rw [setB_size]; exact ha.1,fun r' o1 h1 l1=>?_⟩)⟩
 rcases getElem?_set' _ _ _ _ _ h1 with ⟨rfl,rfl⟩ | ⟨hne,h1'⟩
 ·exact ha.2 r' o hr hl
 ·exact ha.2 r' o1 h1' l1
theorem HRel.setB {P:Program} {ρ:Nat→Option Nat} {H:List O} {w:World} (h:HRel P ρ H w) {r b:Nat} {o:O} (hr:H[r]? = some o) (hl:o.live=true) (hρ:ρ r=some b)
  {ob ob':Obj} (hob:w.heap[b]? = some ob) (hs:Obj.shape ob'=Obj.shape ob) (o':O) (hl':o'.live=true)
  (hO:ORel P (ctx ρ (H.set r o') (setB w b ob')) (some b) o'):HRel P ρ (H.set r o') (Aw.setB w b ob'):=by
 have inj':∀ (r1 r2:Nat) o1 o2 x,(H.set r o')[r1]? = some o1→(H.set r o')[r2]? = some o2→o1.live=true→o2.live=true→ρ r1=some x→ρ r2=some x→r1=r2:=by
  intro r1 r2 o1 o2 x h1 h2 l1 l2 e1 e2
  have g1:∃ o,H[r1]? = some o∧o.live=true:=by
   rcases getElem?_set' _ _ _ _ _ h1 with ⟨rfl,rfl⟩ | ⟨_,h1'⟩
   ·exact ⟨o,hr,hl⟩
   ·exact ⟨o1,h1',l1⟩
  have g2:∃ o,H[r2]? = some o∧o.live=true:=by
   rcases getElem?_set' _ _ _ _ _ h2 with ⟨rfl,rfl⟩ | ⟨_,h2'⟩
   ·exact ⟨o,hr,hl⟩
   ·exact ⟨o2,h2',l2⟩
  obtain ⟨p1,q1,m1⟩:=g1
  obtain ⟨p2,q2,m2⟩:=g2
  exact h.inj r1 r2 p1 p2 x q1 q2 m1 m2 e1 e2
 refine h.change (HRel.le_setB hr hl hρ hob hs o' hl') (fun r' o1 h1=>?_) inj' (fun r' x hx=>?_)
 ·rcases getElem?_set' _ _ _ _ _ h1 with ⟨rfl,rfl⟩ | ⟨hne,h1'⟩
  ·rw [hρ]; exact .inl hO
  ·refine .inr ⟨h1',rfl,fun l1 a ha=>setB_other _ _ _ _ (fun e=>?_)⟩
   subst e
   exact hne (h.inj r' r o1 o a h1' hr l1 hl ha hρ)
 ·have:=h.small r' x hx
  exact ⟨by simpa using this.1,by rw [setB_size]; exact this.2⟩
theorem le_drop {ρ:Nat→Option Nat} {H:List O} {w:World} (r:Nat) (o':O) (hl:o'.live=false):(ctx ρ H w).le (ctx ρ (H.set r o') w):=by
 refine ⟨fun _ _ h=>h,by simp [ctx],⟨fun b hb=>⟨hb.1,fun r' o1 h1 l1=>?_⟩,fun _ _=>rfl,Nat.le_refl _,fun _ _ _ h=>h,rfl,rfl,rfl⟩⟩
 rcases getElem?_set' _ _ _ _ _ h1 with ⟨rfl,rfl⟩ | ⟨hne,h1'⟩
 ·rw [hl] at l1; cases l1
 ·exact hb.2 r' o1 h1' l1
theorem HRel.drop {P:Program} {ρ:Nat→Option Nat} {H:List O} {w:World} (h:HRel P ρ H w) (r:Nat) (o':O) (hl:o'.live=false)
  (hO:ORel P (ctx ρ (H.set r o') w) (ρ r) o'):HRel P ρ (H.set r o') w:=by
 refine h.change (le_drop r o' hl) (fun r' o1 h1=>?_) (fun r1 r2 o1 o2 x h1 h2 l1 l2 e1 e2=>?_) (fun r' x hx=>?_)
 ·rcases getElem?_set' _ _ _ _ _ h1 with ⟨rfl,rfl⟩ | ⟨hne,h1'⟩
  ·exact .inl hO
  ·exact .inr ⟨h1',rfl,fun _ _ _=>rfl⟩
 ·rcases getElem?_set' _ _ _ _ _ h1 with ⟨rfl,rfl⟩ | ⟨n1,h1'⟩
  ·rw [hl] at l1; cases l1
  ·rcases getElem?_set' _ _ _ _ _ h2 with ⟨rfl,rfl⟩ | ⟨n2,h2'⟩
   ·rw [hl] at l2; cases l2
   ·exact h.inj r1 r2 o1 o2 x h1' h2' l1 l2 e1 e2
 ·have:=h.small r' x hx
  exact ⟨by simpa using this.1,this.2⟩
theorem HRel.freeze {P:Program} {ρ:Nat→Option Nat} {H:List O} {w:World} (h:HRel P ρ H w) {r sz:Nat} {xs:List (List D)} (hr:H[r]? = some (.row sz xs)) :
  HRel P ρ (H.set r (.frow sz xs)) w:=by
 refine h.drop r _ rfl ?_
 have ho:=h.objs r _ hr
 have le:(ctx ρ H w).le (ctx ρ (H.set r (.frow sz xs)) w):=le_drop r _ rfl
 refine ⟨ho.1,?_⟩
 rcases ho.2 with h2 | ⟨a,c,e,h1,h2,h3⟩
 ·exact .inl h2
 ·refine .inr ⟨a,c,e,(0,0),h1,⟨(h.small r a h1).2,fun r' o1 g1 l1=>?_⟩,h2,h3.mono le.step⟩
  rcases getElem?_set' _ _ _ _ _ g1 with ⟨rfl,rfl⟩ | ⟨n1,g1'⟩
  ·cases l1
  ·intro e1
   exact n1 (h.inj r' r o1 _ a g1' hr l1 rfl e1 h1)
inductive TK where
 | int (k:IntKind)
 | bool
 | str
 | sl (e:Nat)
 | st (fs:List (Nat×Nat))
 | arr (n e:Nat)
 | map (k e:Nat)
 | ptr
 | iface
 | func
 | other
structure TI where
 kind:TK
 size:Nat
 bytes:Nat
 zero:List Value
 agg:Bool
 eqOk:Bool
 pre:Bool
abbrev TT:=List (Nat×TI)
def tget:TT→Nat→Option TI
 | [],_=>none
 | (t,i) :: r,u=>if t == u then some i else tget r u
theorem valB_eq {a b:Value} (h:valB a b=true):a=b:=by
 unfold valB at h
 split at h <;> simp_all
theorem valB_one {a b:Value} (h:valB a b=true):b.oneCell'=true:=by
 unfold valB at h
 split at h <;> first | rfl | cases h
theorem valsB_one:∀ {a b:List Value},valsB a b=true→∀ x∈b,x.oneCell'=true
 | [],[],_,x,hx=>by cases hx
 | a :: r,b :: s,h,x,hx=>by
  simp only [valsB,Bool.and_eq_true] at h
  rcases List.mem_cons.1 hx with rfl | hx
  ·exact valB_one h.1
  ·exact valsB_one h.2 x hx
 | [],_ :: _,h,_,_=>by simp [valsB] at h
 | _ :: _,[],h,_,_=>by simp [valsB] at h
theorem valsB_eq:∀ {a b:List Value},valsB a b=true→a=b
 | [],[],_=>rfl
 | a :: r,b :: s,h=>by
  simp only [valsB,Bool.and_eq_true] at h
  rw [valB_eq h.1,valsB_eq h.2]
 | [],_ :: _,h=>by simp [valsB] at h
 | _ :: _,[],h=>by simp [valsB] at h
def kindB:TypeDesc→TK→Bool
 | .int k,.int k'=>k == k'
 | .bool,.bool=>true
 | .string,.str=>true
 | .slice e,.sl e'=>e == e'
 | .struct fs,.st l=>fs.toList.map (fun f=>(f.offset,f.type)) == l && fs.toList.all (fun f=>f.name != "_")
 | .array n e,.arr n' e'=>n == n' && e == e'
 | .map k e,.map k' e'=>k == k' && e == e'
 | .pointer _,.ptr=>true
 | .interface _,.iface=>true
 | .func _ _ _,.func=>true
 | _,.other=>true
 | _,_=>false
structure TIok (P:Program) (t:Nat) (ti:TI):Prop where
 info:∃ i z,P.info? t=some i∧i.size=ti.size∧i.bytes=ti.bytes∧i.zero=some z∧z.cells.toList=ti.zero∧(ti.agg=true→∃ cs,z = .agg cs)∧(ti.agg=false→z.cells = #[z])∧(∀ x∈ti.zero,x.oneCell'=true)
 kind:∃ d,P.underlying t=some d∧kindB d ti.kind=true
 agg:∀ w,(isAgg t).run P w = .ok ti.agg w
 eqOk:ti.eqOk=true→P.stoodInHeld t=false∧P.eqGuardType P.depth t=false
def tiB (P:Program) (t:Nat) (ti:TI):Bool :=
  (match P.info? t with
   | some i=>i.size == ti.size && i.bytes == ti.bytes && (match i.zero with
     | some z=>valsB z.cells.toList ti.zero && (match z,ti.agg with
       | .agg _,b=>b
       | .tuple _,_=>false
       | _,b=>!b)
     | none=>false)
   | none=>false) &&
  (match P.underlying t with
   | some d=>kindB d ti.kind && (match d with | .struct _ | .array _ _=>ti.agg | _=>!ti.agg)
   | none=>false) &&
  (!ti.eqOk || (!P.stoodInHeld t && !P.eqGuardType P.depth t))
theorem tiB_ok {P:Program} {t:Nat} {ti:TI} (h:tiB P t ti=true):TIok P t ti:=by
 unfold tiB at h
 simp only [Bool.and_eq_true] at h
 obtain ⟨⟨h1,h2⟩,h3⟩:=h
 refine ⟨?_,?_,?_,?_⟩
 ·cases hi:P.info? t with
  | none=>rw [hi] at h1; cases h1
  | some i =>
   rw [hi] at h1
   simp only [Bool.and_eq_true,beq_iff_eq] at h1
   obtain ⟨⟨a,b⟩,c⟩:=h1
   cases hz:i.zero with
   | none=>rw [hz] at c; cases c
   | some z =>
    rw [hz] at c
    simp only [Bool.and_eq_true] at c
    refine ⟨i,z,rfl,a,b,hz,valsB_eq c.1,fun hg=>?_,fun hg=>?_,valsB_one c.1⟩
    ·have c2:=c.2; rw [hg] at c2
     cases z <;> first | exact ⟨_,rfl⟩ | cases c2
    ·have c2:=c.2; rw [hg] at c2
     cases z <;> first | rfl | cases c2
 ·cases hu:P.underlying t with
  | none=>rw [hu] at h2; cases h2
  | some d=>rw [hu] at h2; simp only [Bool.and_eq_true] at h2; exact ⟨d,rfl,h2.1⟩
 ·intro w
  cases hu:P.underlying t with
  | none=>rw [hu] at h2; cases h2
  | some d =>
   rw [hu] at h2; simp only [Bool.and_eq_true] at h2
   have h4:=h2.2
   simp only [isAgg,Sem.run_bind,run_underlying hu,Result.andThen_ok]
   cases d <;> simp at h4 <;> simp [h4]
 ·intro he
  rw [he] at h3
  simpa using h3
def tabB (P:Program) (tt:TT):Bool:=tt.all fun p=>tiB P p.1 p.2
theorem tget_mem:∀ {tt:TT} {t:Nat} {ti:TI},tget tt t=some ti→(t,ti)∈tt
 | [],_,_,h=>by cases h
 | (u,i) :: r,t,ti,h=>by
  simp only [tget] at h
  split at h
  ·rename_i e; injection h with h; subst h; simp at e; subst e; exact List.mem_cons_self
  ·exact List.mem_cons_of_mem _ (tget_mem h)
theorem tab_ok {P:Program} {tt:TT} (h:tabB P tt=true) {t:Nat} {ti:TI} (ht:tget tt t=some ti):TIok P t ti:=by
 have:=List.all_eq_true.1 h _ (tget_mem ht)
 exact tiB_ok this
def isNil (k:NK) (y:Operand):Bool:=match k,y with
 | .sl,.const (.slice none 0 0) | .iface,.const .nilIface | .map,.const (.map none) | .ptr,.const (.pointer none) | .func,.const .nilFunc=>true
 | _,_=>false
def nkOf:TK→Option NK
 | .sl _=>some .sl
 | .map _ _=>some .map
 | .ptr=>some .ptr
 | .iface=>some .iface
 | .func=>some .func
 | _=>none
def TI.pv (ti:TI):PV:=if ti.agg then .agg (ti.zero.map .v) else match ti.zero with | [x]=>.c (.v x) | _=>.c (.v undef)
mutual
def flatK (tt:TT):Nat→Nat→Option (List SK)
 | 0,_=>none
 | d+1,t=>match tget tt t with
  | some ti=>match ti.kind with
   | .int k=>if ti.agg then none else some [.i k]
   | .bool=>if ti.agg then none else some [.b]
   | .str=>if ti.agg then none else some [.s]
   | .st fs=>if ti.eqOk && ti.agg then flatF tt d 0 fs else none
   | _=>none
  | none=>none
def flatF (tt:TT):Nat→Nat→List (Nat×Nat)→Option (List SK)
 | _,_,[]=>some []
 | 0,_,_=>none
 | d+1,run,(off,ty) :: r=>if off=run then match flatK tt d ty with
  | some ks=>match tget tt ty with
   | some ti=>if ks.length=ti.size then match flatF tt d (run+ks.length) r with
    | some l=>some (ks ++ l)
    | none=>none else none
   | none=>none
  | none=>none else none
end
def compParts (tt:TT) (fs:List (Nat×Nat)):List (Nat×Operand)→Option (List (Nat×Nat×Operand))
 | []=>some []
 | (i,x) :: r=>match fs[i]? with
  | some (off,ty)=>match tget tt ty,compParts tt fs r with
   | some ti,some l=>some ((off,ti.size,x) :: l)
   | _,_=>none
  | none=>none
def keyT (tt:TT) (t:Nat):Option KT:=match tget tt t with
 | some ti=>match flatK tt 60 t with
  | some ks=>some ⟨ti.agg,ks⟩
  | none=>none
 | none=>none
def compCall (tt:TT) (j:Nat) (c:Call):Option A :=
 match c.callee with
 | .value (.func f)=>some (.call f c.args.toList)
 | .value (.tmp t)=>some (.callv (.tmp t) c.args.toList)
 | .builtin .len=>match c.argTypes[0]?,c.args.toList with
  | some t,[x]=>match tget tt t with
   | some ti=>match ti.kind with
    | .str=>some (.lenS x)
    | .sl _=>some (.lenL x)
    | .map _ _=>some (.lenM x)
    | _=>none
   | none=>none
  | _,_=>none
 | .builtin .append=>match c.argTypes[0]?,c.argTypes[1]?,c.args.toList with
  | some t,some u,[s,x]=>match tget tt t,tget tt u with
   | some ti,some ui=>match ti.kind,ui.kind with
    | .sl e,.sl e'=>match tget tt e with
     | some ei=>if e=e'∧0<ei.size∧0<ei.bytes∧ei.zero.length=ei.size then some (.app ei.pre j ei.size ei.bytes s x) else none
     | none=>none
    | _,_=>none
   | _,_=>none
  | _,_,_=>none
 | .builtin .max=>match c.argTypes[0]?,c.args.toList with
  | some t,[x,y]=>match tget tt t with
   | some ti=>match ti.kind with
    | .int k=>some (.maxmin true k x y)
    | _=>none
   | none=>none
  | _,_=>none
 | .builtin .min=>match c.argTypes[0]?,c.args.toList with
  | some t,[x,y]=>match tget tt t with
   | some ti=>match ti.kind with
    | .int k=>some (.maxmin false k x y)
    | _=>none
   | none=>none
  | _,_=>none
 | .builtin .clear=>match c.argTypes[0]?,c.args.toList with
  | some t,[x]=>match tget tt t with
   | some ti=>match ti.kind with
    | .sl e=>match tget tt e with
     | some ei=>if 0<ei.size∧ei.zero.length=ei.size then some (.clr ei.size (ei.zero.map .v) x) else none
     | none=>none
    | _=>none
   | none=>none
  | _,_=>none
 | .builtin .delete=>match c.argTypes[0]?,c.args.toList with
  | some t,[m,k]=>match tget tt t with
   | some ti=>match ti.kind with
    | .map t _=>match keyT tt t with
     | some kt=>some (.mapdel kt m k)
     | none=>none
    | _=>none
   | none=>none
  | _,_=>none
 | _=>none
def compOp (tt:TT) (j:Nat):Op→Option A
 | .move x | .assign x=>some (.mov x)
 | .pick c a b=>some (.pick c a b)
 | .alloc t=>match tget tt t with
  | some ti=>some (.zero j (ti.zero.map .v))
  | none=>none
 | .box _ x=>some (.box j x)
 | .build t parts=>match tget tt t with
  | some ti=>match ti.kind with
   | .st fs=>match compParts tt fs parts.toList with
    | some l=>if fs.all (fun p=>(tget tt p.2).isSome) && ti.agg then some (.build (ti.zero.map .v) l) else none
    | none=>none
   | _=>none
  | none=>none
 | .buildSlice t len parts=>match tget tt t with
  | some ti=>match ti.kind with
   | .sl e=>match tget tt e with
    | some ei=>if 0<ei.size∧ei.zero.length=ei.size∧len*ei.size≤16777216 then some (.bsl j ei.size (ei.zero.map .v) len parts.toList) else none
    | none=>none
   | _=>none
  | none=>none
 | .load t a=>match tget tt t with
  | some ti=>if ti.agg || ti.size == 1 then some (.load ti.agg ti.size a) else none
  | none=>none
 | .store t a x=>match tget tt t with
  | some ti=>some (.store ti.size a x)
  | none=>none
 | .nilCheck x=>some (.chk x)
 | .binOp op t x y _=>match tget tt t with
  | some ti=>match op,ti.kind with
   | .shl,.int k=>some (.shf .shl k x y)
   | .shr,.int k=>some (.shf .shr k x y)
   | op,.int k=>some (.binI op k x y)
   | op,.str=>some (.binS op x y)
   | .eql,.bool=>some (.eqB false x y)
   | .neq,.bool=>some (.eqB true x y)
   | .eql,.st _=>match flatK tt 60 t with
    | some ks=>some (.eqA false ks x y)
    | none=>none
   | .neq,.st _=>match flatK tt 60 t with
    | some ks=>some (.eqA true ks x y)
    | none=>none
   | .eql,kd=>match nkOf kd with
    | some k=>if isNil k y then some (.eqN false k x) else none
    | none=>none
   | .neq,kd=>match nkOf kd with
    | some k=>if isNil k y then some (.eqN true k x) else none
    | none=>none
   | _,_=>none
  | none=>none
 | .unOp .not _ x=>some (.not x)
 | .unOp .xor t x=>match tget tt t with
  | some ti=>match ti.kind with
   | .int k=>some (.cpl k x)
   | _=>none
  | none=>none
 | .unOp .neg t x=>match tget tt t with
  | some ti=>match ti.kind with
   | .int k=>some (.neg k x)
   | _=>none
  | none=>none
 | .convert s t x=>match tget tt s,tget tt t with
  | some si,some ti=>match si.kind,ti.kind with
   | .int _,.int k=>some (.conv k x)
   | .sl e,.str=>match tget tt e with
    | some ei=>match ei.kind with
     | .int .u8=>some (.str x)
     | _=>none
    | none=>none
   | _,_=>none
  | _,_=>none
 | .makeFunc (.func f) first captured=>if first.size=0 then some (.mkfn f captured.toList) else none
 | .makeMap t none=>match tget tt t with
  | some ti=>match ti.kind with
   | .map t _=>match keyT tt t with
    | some kt=>some (.mkmap j kt)
    | none=>none
   | _=>none
  | none=>none
 | .makeSlice t l c=>match tget tt t with
  | some ti=>match ti.kind with
   | .sl e=>match tget tt e with
    | some ei=>if 0<ei.size∧ei.zero.length=ei.size then some (.mksl j ei.size ei.bytes (ei.zero.map .v) l c) else none
    | none=>none
   | _=>none
  | none=>none
 | .slice t x lo hi none=>match tget tt t with
  | some ti=>match ti.kind with
   | .str=>some (.sliceS x lo hi)
   | .sl e=>match tget tt e with
    | some ei=>if 0<ei.size then some (.slice ei.size x lo hi) else none
    | none=>none
   | _=>none
  | none=>none
 | .fieldAddr s x f=>match tget tt s with
  | some si=>match si.kind with
   | .st fs=>match fs[f]? with
    | some (off,ty)=>match tget tt ty with
     | some fi=>if 0<fi.size then some (.faddr off x) else none
     | none=>none
    | none=>none
   | _=>none
  | none=>none
 | .field s x f=>match tget tt s with
  | some si=>match si.kind with
   | .st fs=>match fs[f]? with
    | some (off,ty)=>match tget tt ty with
     | some fi=>if fi.agg || fi.size == 1 then some (.field fi.agg fi.size off x) else none
     | none=>none
    | none=>none
   | _=>none
  | none=>none
 | .indexAddr t x i=>match tget tt t with
  | some ti=>match ti.kind with
   | .sl e=>match tget tt e with
    | some ei=>some (.iaddr ei.size x i)
    | none=>none
   | _=>none
  | none=>none
 | .index t x i=>match tget tt t with
  | some ti=>match ti.kind with
   | .str=>some (.index x i)
   | _=>none
  | none=>none
 | .lookup t x k ok=>match tget tt t with
  | some ti=>match ti.kind with
   | .map t e=>match tget tt e,keyT tt t with
    | some ei,some kt=>some (.look kt ei.pv x k ok)
    | _,_=>none
   | _=>none
  | none=>none
 | .mapUpdate t m k v=>match tget tt t with
  | some ti=>match ti.kind with
   | .map t _=>match keyT tt t with
    | some kt=>some (.mapup kt m k v)
    | none=>none
   | _=>none
  | none=>none
 | .insert t m k v=>match tget tt t with
  | some ti=>match ti.kind with
   | .map t _=>match keyT tt t with
    | some kt=>some (.mapup kt m k v)
    | none=>none
   | _=>none
  | none=>none
 | .extract x i=>some (.ext x i)
 | .range t x=>match tget tt t with
  | some ti=>match ti.kind with
   | .map t _=>match keyT tt t with
    | some kt=>some (.rng j kt x)
    | none=>none
   | _=>none
  | none=>none
 | .next x false=>some (.nxt x)
 | .entry x=>some (.ent x)
 | .call c=>compCall tt j c
 | _=>none
def A.makes:A→Bool
 | .box .. | .zero .. | .bsl .. | .mkmap .. | .mksl .. | .app .. | .rng .. => true
 | _=>false
def dOk (n:Nat):Option Nat→Bool
 | some d=>decide (d<n)
 | none=>true
def compOps (tt:TT) (n:Nat) (ops:Array Oper):Nat→List Oper→Option (Nat×List AOper)
 | j,[]=>some (j,[])
 | j,o :: r =>
  match compOp tt j o.op with
  | none=>none
  | some a =>
   if dOk n o.dst then
    match o.guard with
    | none=>match compOps tt n ops (if a.makes then j+1 else j) r with
     | some (j',l)=>some (j',⟨o.dst,a,none⟩ :: l)
     | none=>none
    | some (g,want)=>match (ops[g]?).bind (·.dst) with
     | some t=>match compOps tt n ops (if a.makes then j+1 else j) r with
      | some (j',l)=>if t<n then some (j',⟨o.dst,a,some (t,want)⟩ :: l) else none
      | none=>none
     | none=>none
   else none
def compC (tt:TT) (n:Nat):Code→Option AC
 | .skip=>some .skip
 | .region _ ops draw=>match compOps tt n ops 0 ops.toList with
  | some (k,l)=>some (if draw then .dregion k l (ops.toList.map fun o=>(o.after.toList.filter fun e=>Region.binds .any e).map Edge.on) else .region k l)
  | none=>none
 | .seq a b=>match compC tt n a,compC tt n b with
  | some x,some y=>some (.seq x y)
  | _,_=>none
 | .cond c a b=>match compC tt n a,compC tt n b with
  | some x,some y=>some (.cond c x y)
  | _,_=>none
 | .block id a=>match compC tt n a with
  | some x=>some (.block id x)
  | none=>none
 | .loop a=>match compC tt n a with
  | some x=>some (.loop x)
  | none=>none
 | .exit id=>some (.exit id)
 | .ret=>some .ret
 | _=>none
inductive AR where
 | tmp (t:Nat)
 | cell (a:Nat) (agg:Bool) (n:Nat)
structure AF where
 n:Nat
 res:List AR
 body:AC
def compR (tt:TT):List ResultVar→Option (List AR)
 | []=>some []
 | .tmp t :: r=>match compR tt r with
  | some l=>some (.tmp t :: l)
  | none=>none
 | .cell a ty :: r=>match tget tt ty,compR tt r with
  | some ti,some l=>if ti.agg || ti.size == 1 then some (.cell a ti.agg ti.size :: l) else none
  | _,_=>none
def compF (tt:TT) (fn:Func):Option AF :=
 match fn.body with
 | some c=>if fn.name == "runtime.NumGoroutine" then none else match compC tt fn.ntmps c,compR tt fn.results.toList with
  | some b,some r=>some ⟨fn.ntmps,r,b⟩
  | _,_=>none
 | none=>none
theorem drel_v {S:Nat→Prop} {w:World} {x v:Value} (h:DRel S w (.v x) v):v=x:=by cases h; rfl
theorem drel_one {S:Nat→Prop} {w:World} {d:D} {v:Value} (h:DRel S w d v):v.oneCell'=true:=by
 cases h <;> first | assumption | rfl
theorem trel_val {P:Program} {k:K} {x v:Value} (h:TRel P k (.v (.c (.d (.v x)))) v):v=x:=drel_v h
theorem crel_one {P:Program} {k:K} {c:C} {v:Value} (h:CRel P k c v):v.oneCell'=true:=by
 cases c with
 | d x=>exact drel_one h
 | os r sz off len =>
  rcases h.2 with ⟨_,p,rfl⟩ | ⟨b,cap,e,n,_,rfl,_⟩ <;> rfl
 | ptr r off=>obtain ⟨_,b,_,rfl⟩:=h; rfl
 | eptr r sz i off=>obtain ⟨_,b,_,rfl⟩:=h; rfl
 | mp r=>obtain ⟨_,b,_,rfl⟩:=h; rfl
 | fn f caps=>obtain ⟨cv,rfl,_⟩:=h; rfl
 | fx f caps=>obtain ⟨cv,rfl,_⟩:=h; rfl
 | ifc=>obtain ⟨t,x,rfl⟩:=h; rfl
 | top=>exact h
theorem cv_sound (P:Program) (k:K) (v:Value):TRel P k (cv v) v:=by
 unfold cv
 cases v <;> first
  | exact DRel.v _ rfl
  | trivial
  | skip
 rename_i cs
 dsimp only
 split
 ·rename_i hall
  refine ⟨cs,rfl,by simp,fun i c v hc hv=>?_⟩
  rw [List.getElem?_map,Array.getElem?_toList,hv] at hc
  simp only [Option.map_some,Option.some.injEq] at hc
  subst hc
  exact DRel.v _ (List.all_eq_true.1 hall v (List.mem_of_getElem? (by rw [Array.getElem?_toList]; exact hv)))
 ·trivial
section
variable {P:Program} {G:Gl} {n:Nat} {b:Base} {ρ:Nat→Option Nat} {st:St} {a:Act} {w:World}
theorem ev_sound (hs:Sim P G n b ρ st a w) (x:Operand):TRel P (ctx ρ st.hp w) (ev G st.sl x) (a.eval x):=by
 cases x with
 | tmp t=>exact hs.slots t
 | const v=>exact cv_sound P _ v
 | global g =>
  simp only [ev,Act.eval]
  cases hg:G g with
  | none=>trivial
  | some cs =>
   obtain ⟨h1,h2,h3⟩:=hs.glob g cs hg
   refine DRel.ip cs g 0 (fun j=>((w.cell? ⟨g,j,none⟩).getD undef)) h1 h2 (fun j d hj=>?_) (fun j d hj=>?_)
   ·obtain ⟨u,hu,hd⟩:=h3 j d hj
    rw [Nat.zero_add]; show w.cell? _=_; rw [hu]; rfl
   ·obtain ⟨u,hu,hd⟩:=h3 j d hj
    rw [hu]; exact hd
 | func f=>exact ⟨#[],rfl,rfl,fun i r off hi=>by simp at hi⟩
end
def Does (P:Program) (o:Oper) (a:Act) (w:World) (v:Value) (w':World):Prop :=
 (execOp a.eval o).run P w = .ok (.value v) w'∨(v=undef∧(execOp a.eval o).run P w = .ok .skip w')
def Sound (P:Program) (G:Gl) (n:Nat) (b:Base) (ρ:Nat→Option Nat) (st:St) (a:Act) (w:World) (o:Oper) (r:R):Prop :=
 ∃ v w' ρ',Does P o a w v w'∧HRel P ρ' r.hp w'∧(ctx ρ st.hp w).le (ctx ρ' r.hp w')∧TRel P (ctx ρ' r.hp w') r.val v
theorem Sound.same {P:Program} {G:Gl} {n:Nat} {b:Base} {ρ:Nat→Option Nat} {st:St} {a:Act} {w:World} (hs:Sim P G n b ρ st a w) {o:Oper} {p:Prop} {t:T} {v:Value}
  (h:(execOp a.eval o).run P w = .ok (.value v) w) (ht:TRel P (ctx ρ st.hp w) t v):Sound P G n b ρ st a w o ⟨p,t,st.hp⟩ :=
 ⟨v,w,ρ,.inl h,hs.heap,.refl _,ht⟩
theorem csrel_get {P:Program} {k:K} {cs:List C} {vs:Array Value} (h:CsRel P k cs vs) {i:Nat} {c:C} (hc:cs[i]? = some c):∃ v,vs[i]? = some v∧CRel P k c v:=by
 have hi:i<vs.size:=by rw [h.1]; exact lt_of_get hc
 exact ⟨vs[i],by simp [hi],h.2 i c _ hc (by simp [hi])⟩
theorem csrel_list {P:Program} {k:K} {cs:List C} {vs:List Value} (hl:vs.length=cs.length) (h:∀ (i:Nat) c v,cs[i]? = some c→vs[i]? = some v→CRel P k c v):CsRel P k cs vs.toArray :=
 ⟨by simpa using hl,fun i c v hc hv=>h i c v hc (by simpa using hv)⟩
theorem vrel_cells {P:Program} {k:K} {u:V} {v:Value} (h:VRel P k u v) (hk:u.known=true):CsRel P k u.cells v.cells:=by
 cases u with
 | any=>cases hk
 | agg cs=>obtain ⟨vs,rfl,h⟩:=h; exact h
 | c x =>
  have h1:=crel_one (P:=P) (c:=x) h
  have hvc:v.cells = #[v]:=by cases v <;> first | rfl | cases h1
  rw [hvc]
  refine ⟨rfl,fun i c y hc hy=>?_⟩
  cases i with
  | zero=>simp [V.cells] at hc hy; subst hc; subst hy; exact h
  | succ i=>simp [V.cells] at hc
section
variable {P:Program} {G:Gl} {n:Nat} {b:Base} {ρ:Nat→Option Nat} {st:St} {a:Act} {w:World} {B:Nat} {r:R} {o:Oper}
theorem does_v {o:Oper} {v:Value} {s:Sem Value} {w':World} (he:execOp a.eval o=(do pure (.value (← s)))) (hr:s.run P w = .ok v w'):(execOp a.eval o).run P w = .ok (.value v) w':=by
 rw [he]; simp [hr]
theorem s_mov (hs:Sim P G n b ρ st a w) (x:Operand) (ho:o.op = .move x∨o.op = .assign x)
  (hf:fop B st.hp (ev G st.sl) (.mov x)=some r):Sound P G n b ρ st a w o r:=by
 simp only [fop,Option.some.injEq] at hf
 subst hf
 refine Sound.same hs (v:=a.eval x) ?_ (ev_sound hs x)
 rcases ho with ho | ho <;> simp [execOp,ho]
theorem ev_int (hs:Sim P G n b ρ st a w) {x:Operand} {k:IntKind} {m:Int} (h:ev G st.sl x = .v (.c (.d (.v (.int k m))))):a.eval x = .int k m:=by
 have:=ev_sound hs x
 rw [h] at this
 exact trel_val this
theorem ev_val (hs:Sim P G n b ρ st a w) {x:Operand} {v:Value} (h:ev G st.sl x = .v (.c (.d (.v v)))):a.eval x=v:=by
 have:=ev_sound hs x
 rw [h] at this
 exact trel_val this
theorem ev_rel (hs:Sim P G n b ρ st a w) {x:Operand} {t:T} (h:ev G st.sl x=t):TRel P (ctx ρ st.hp w) t (a.eval x):=h▸ev_sound hs x
theorem run_binInt (op:BinOp) (t:Nat) (x y:Operand) (k:IntKind) (p q:Int) (v:Value) (ob:Prop) (hf:binIF op k p q=some (ob,v)) (hob:ob) (w:World) :
  (do eqGuard op t x y (.int k p) (.int k q); binOp op t (.int k p) (.int k q):Sem Value).run P w = .ok v w:=by
 have g:(eqGuard op t x y (.int k p) (.int k q)).run P w = .ok () w:=by
  cases op <;> simp [eqGuard]
 rw [Sem.run_bind,g]
 simp only [Result.andThen_ok]
 cases op <;> simp only [binIF,Option.some.injEq,Prod.mk.injEq,reduceCtorEq] at hf <;> first
  | (obtain ⟨rfl,rfl⟩:=hf; simp [binOp,Op.intArith,Op.intBits,Op.intCmp]; done)
  | (obtain ⟨rfl,rfl⟩:=hf; simp [binOp,Op.intDiv,hob]; done)
  | (obtain ⟨rfl,rfl⟩:=hf; have e1:(p == q)=decide (p=q):=rfl; have e2:(p != q) = !decide (p=q):=rfl; simp only [binOp,Op.intCmp,e1,e2,ne_eq,not_true_eq_false,if_false,Sem.run_pure]; done)
  | skip
theorem s_binI (hs:Sim P G n b ρ st a w) (op:BinOp) (k:IntKind) (t t':Nat) (x y:Operand) (ho:o.op = .binOp op t x y t')
  (hf:fop B st.hp (ev G st.sl) (.binI op k x y)=some r) (hob:r.ob):Sound P G n b ρ st a w o r:=by
 simp only [fop] at hf
 split at hf
 ·rename_i k1 p k2 q e1 e2
  split at hf
  ·rename_i hk
   obtain ⟨rfl,rfl⟩:=hk
   split at hf
   ·rename_i ob v hv
    injection hf with hf; subst hf
    refine Sound.same hs (v:=v) (does_v (s:=do eqGuard op t x y (a.eval x) (a.eval y); binOp op t (a.eval x) (a.eval y)) (by simp [execOp,ho]) ?_) (DRel.v _ ?_)
    ·rw [ev_int hs e1,ev_int hs e2]
     exact run_binInt op t x y _ p q v ob hv hob w
    ·cases op <;> simp only [binIF,Option.some.injEq,Prod.mk.injEq,reduceCtorEq] at hv <;> first | (obtain ⟨_,rfl⟩:=hv; rfl) | cases hv
   ·cases hf
  ·cases hf
 ·cases hf
theorem s_shf (hs:Sim P G n b ρ st a w) (op:BinOp) (k:IntKind) (t t':Nat) (x y:Operand) (ho:o.op = .binOp op t x y t')
    (hf:fop B st.hp (ev G st.sl) (.shf op k x y)=some r) (hob:r.ob):Sound P G n b ρ st a w o r:=by
  simp only [fop] at hf
  split at hf
  · rename_i k1 p k2 q e1 e2
    split at hf
    · rename_i hk
      subst hk
      split at hf
      all_goals first
        | (injection hf with hf
           subst hf
           refine Sound.same hs (does_v (s:=do eqGuard _ t x y (a.eval x) (a.eval y); binOp _ t (a.eval x) (a.eval y)) (by simp [execOp,ho]; rfl) ?_) (DRel.v _ rfl)
           rw [ev_int hs e1,ev_int hs e2]
           have hq:¬ q<0:=by have h0:0≤q:=hob; omega
           simp [eqGuard,binOp,Op.shift,hq])
        | cases hf
    · cases hf
  · cases hf
theorem toList_eq_decide (x y:ByteArray):(x.toList == y.toList)=decide (x=y):=by
 by_cases h:x=y
 ·subst h; simp
 ·simp only [h,decide_false]
  have:x.toList≠y.toList:=by
   intro e
   rw [ByteArray.toList_eq,ByteArray.toList_eq] at e
   obtain ⟨⟨x⟩⟩:=x
   obtain ⟨⟨y⟩⟩:=y
   simp at e
   exact h (by rw [e])
  simpa using this
theorem s_binS (hs:Sim P G n b ρ st a w) (op:BinOp) (t t':Nat) (x y:Operand) (ho:o.op = .binOp op t x y t')
    (hf:fop B st.hp (ev G st.sl) (.binS op x y)=some r) (hob:r.ob):Sound P G n b ρ st a w o r:=by
  simp only [fop] at hf
  split at hf
  · rename_i p q e1 e2
    split at hf
    · rename_i ob v hv
      injection hf with hf; subst hf
      refine Sound.same hs (v:=v) (does_v (s:=do eqGuard op t x y (a.eval x) (a.eval y); binOp op t (a.eval x) (a.eval y)) (by simp [execOp,ho]) ?_) (DRel.v _ ?_)
      · rw [ev_val hs e1,ev_val hs e2]
        have hob':ob:=hob
        clear hob
        cases op <;> simp only [binSF,Option.some.injEq,Prod.mk.injEq,reduceCtorEq] at hv <;> first
          | (obtain ⟨rfl,rfl⟩:=hv; simp [eqGuard,binOp,Op.stringOp,toList_eq_decide,strLt]; done)
          | (obtain ⟨rfl,rfl⟩:=hv
             have h2:¬ (((p.size+q.size:Nat):Int)>IntKind.i64.max):=by
               have:IntKind.i64.max=9223372036854775807:=rfl
               omega
             simp only [eqGuard,binOp,Op.stringOp,if_neg h2]; rfl)
          | cases hv
      · cases op <;> simp only [binSF,Option.some.injEq,Prod.mk.injEq,reduceCtorEq] at hv <;> first | (obtain ⟨_,rfl⟩:=hv; rfl) | cases hv
    · cases hf
  · cases hf
theorem s_not (hs:Sim P G n b ρ st a w) (t:Nat) (x:Operand) (ho:o.op = .unOp .not t x)
  (hf:fop B st.hp (ev G st.sl) (.not x)=some r):Sound P G n b ρ st a w o r:=by
 simp only [fop] at hf
 split at hf
 ·rename_i p e1
  injection hf with hf; subst hf
  refine Sound.same hs (does_v (s:=Op.unary .not (a.eval x)) (by simp [execOp,ho]) ?_) (DRel.v _ rfl)
  rw [ev_val hs e1]; rfl
 ·cases hf
theorem s_neg (hs:Sim P G n b ρ st a w) (k:IntKind) (t:Nat) (x:Operand) (ho:o.op = .unOp .neg t x)
  (hf:fop B st.hp (ev G st.sl) (.neg k x)=some r):Sound P G n b ρ st a w o r:=by
 simp only [fop] at hf
 split at hf
 ·rename_i k1 p e1
  split at hf
  ·rename_i hk; subst hk
   injection hf with hf; subst hf
   refine Sound.same hs (does_v (s:=Op.unary .neg (a.eval x)) (by simp [execOp,ho]) ?_) (DRel.v _ rfl)
   rw [ev_val hs e1]; rfl
  ·cases hf
 ·cases hf
theorem s_cpl (hs:Sim P G n b ρ st a w) (k:IntKind) (t:Nat) (x:Operand) (ho:o.op = .unOp .xor t x)
  (hf:fop B st.hp (ev G st.sl) (.cpl k x)=some r):Sound P G n b ρ st a w o r:=by
 simp only [fop] at hf
 split at hf
 ·rename_i k1 p e1
  split at hf
  ·rename_i hk; subst hk
   injection hf with hf; subst hf
   refine Sound.same hs (does_v (s:=Op.unary .xor (a.eval x)) (by simp [execOp,ho]) ?_) (DRel.v _ rfl)
   rw [ev_val hs e1]; rfl
  ·cases hf
 ·cases hf
theorem s_ext (hs:Sim P G n b ρ st a w) (x:Operand) (i:Nat) (ho:o.op = .extract x i)
  (hf:fop B st.hp (ev G st.sl) (.ext x i)=some r):Sound P G n b ρ st a w o r:=by
 simp only [fop] at hf
 split at hf
 ·rename_i vs e1
  split at hf
  ·rename_i v hv
   injection hf with hf; subst hf
   obtain ⟨us,hu,hus⟩:=ev_rel hs e1
   have hi:i<us.size:=by rw [hus.1]; exact lt_of_get hv
   refine Sound.same hs (v:=us[i]) (does_v (s:=Instr.extract (a.eval x) i) (by simp [execOp,ho]) ?_) (hus.2 i v _ hv (by simp [hi]))
   rw [hu]; simp [Instr.extract,hi]
  ·cases hf
 ·cases hf
theorem s_conv {src dst:Nat} {ks k:IntKind} (h1:P.underlying src=some (.int ks)) (h2:P.underlying dst=some (.int k)) (hs:Sim P G n b ρ st a w) (x:Operand) (ho:o.op = .convert src dst x)
  (hf:fop B st.hp (ev G st.sl) (.conv k x)=some r):Sound P G n b ρ st a w o r:=by
 simp only [fop] at hf
 split at hf
 ·rename_i k1 p e1
  injection hf with hf; subst hf
  refine Sound.same hs (does_v (s:=convert src dst (a.eval x)) (by simp [execOp,ho]) ?_) (DRel.v _ rfl)
  rw [ev_val hs e1]
  simp [convert,run_underlying h1,run_underlying h2,Conv.intToInt]
 ·cases hf
theorem s_eqB {t:Nat} (h1:P.underlying t=some .bool) (hs:Sim P G n b ρ st a w) (ng:Bool) (x y:Operand) (t':Nat) (ho:o.op = .binOp (if ng then .neq else .eql) t x y t')
  (hf:fop B st.hp (ev G st.sl) (.eqB ng x y)=some r):Sound P G n b ρ st a w o r:=by
 simp only [fop] at hf
 split at hf
 ·rename_i p q e1 e2
  injection hf with hf; subst hf
  refine Sound.same hs (does_v (s:=do eqGuard (if ng then .neq else .eql) t x y (a.eval x) (a.eval y); binOp (if ng then .neq else .eql) t (a.eval x) (a.eval y)) (by simp [execOp,ho]) ?_) (DRel.v _ rfl)
  rw [ev_val hs e1,ev_val hs e2]
  have hq:(Op.equal t (.bool p) (.bool q)).run P w = .ok (p == q) w:=run_equalIn_bool w 9999 t p q h1
  have hd:decide (p=q)=(p == q):=by cases p <;> cases q <;> rfl
  cases ng <;> simp [eqGuard,binOp,hq,hd]
 ·cases hf
theorem capsOf_sound (hs:Sim P G n b ρ st a w):∀ (xs:List Operand) (l:List (Nat×Nat)),fop.capsOf (xs.map (ev G st.sl))=some l →
  xs.length=l.length∧∀ (i:Nat) r off,l[i]? = some (r,off)→∃ x,xs[i]? = some x∧r<st.hp.length∧∃ b,ρ r=some b∧a.eval x = .pointer (some ⟨b,off,none⟩)
 | [],l,h=>by
  simp only [List.map_nil,fop.capsOf,Option.some.injEq] at h
  subst h
  exact ⟨rfl,fun i r off hi=>by simp at hi⟩
 | x :: xs,l,h=>by
  simp only [List.map_cons] at h
  generalize he:ev G st.sl x=t at h
  unfold fop.capsOf at h
  split at h
  ·rename_i heq; cases heq
  ·rename_i r0 off0 rest heq
   injection heq with h1 h2
   subst h1; subst h2
   split at h
   ·rename_i l' hl'
    injection h with h; subst h
    obtain ⟨q1,q2⟩:=capsOf_sound hs xs l' hl'
    refine ⟨by simp [q1],fun i r off hi=>?_⟩
    cases i with
    | zero =>
     simp only [gz,Option.some.injEq,Prod.mk.injEq] at hi
     obtain ⟨rfl,rfl⟩:=hi
     obtain ⟨g1,b',g2,g3⟩:=ev_rel hs he
     exact ⟨x,rfl,g1,b',g2,g3⟩
    | succ i =>
     obtain ⟨x',g⟩:=q2 i r off (by simpa using hi)
     exact ⟨x',by simpa using g.1,g.2⟩
   ·cases h
  ·cases h
theorem capsX_sound (hs:Sim P G n b ρ st a w):∀ (xs:List Operand) (l:List Cap),fop.capsX (xs.map (ev G st.sl))=some l →
  xs.length=l.length∧(∀ (i:Nat) r off,l[i]? = some (.r r off)→∃ x,xs[i]? = some x∧r<st.hp.length∧∃ b,ρ r=some b∧a.eval x = .pointer (some ⟨b,off,none⟩)) ∧
   ∀ (i:Nat) y,l[i]? = some (.d y)→∃ x,xs[i]? = some x∧DRel (stab ρ st.hp w) w y (a.eval x)
 | [],l,h=>by
  simp only [List.map_nil,fop.capsX,Option.some.injEq] at h
  subst h
  exact ⟨rfl,fun i r off hi=>by simp at hi,fun i y hi=>by simp at hi⟩
 | x :: xs,l,h=>by
  simp only [List.map_cons] at h
  generalize he:ev G st.sl x=t at h
  unfold fop.capsX at h
  split at h
  ·rename_i heq; cases heq
  ·rename_i r0 off0 rest heq
   injection heq with h1 h2
   subst h1; subst h2
   split at h
   ·rename_i l' hl'
    injection h with h; subst h
    obtain ⟨q1,q2,q3⟩:=capsX_sound hs xs l' hl'
    refine ⟨by simp [q1],fun i r off hi=>?_,fun i y hi=>?_⟩
    ·cases i with
     | zero =>
      simp only [gz,Option.some.injEq,Cap.r.injEq] at hi
      obtain ⟨rfl,rfl⟩:=hi
      obtain ⟨g1,b',g2,g3⟩:=ev_rel hs he
      exact ⟨x,rfl,g1,b',g2,g3⟩
     | succ i =>
      obtain ⟨x',g⟩:=q2 i r off (by simpa using hi)
      exact ⟨x',by simpa using g.1,g.2⟩
    ·cases i with
     | zero=>simp at hi
     | succ i =>
      obtain ⟨x',g⟩:=q3 i y (by simpa using hi)
      exact ⟨x',by simpa using g.1,g.2⟩
   ·cases h
  ·rename_i ds rest heq
   injection heq with h1 h2
   subst h1; subst h2
   split at h
   ·rename_i l' hl'
    injection h with h; subst h
    obtain ⟨q1,q2,q3⟩:=capsX_sound hs xs l' hl'
    refine ⟨by simp [q1],fun i r off hi=>?_,fun i y hi=>?_⟩
    ·cases i with
     | zero=>simp at hi
     | succ i =>
      obtain ⟨x',g⟩:=q2 i r off (by simpa using hi)
      exact ⟨x',by simpa using g.1,g.2⟩
    ·cases i with
     | zero =>
      simp only [gz,Option.some.injEq,Cap.d.injEq] at hi
      subst hi
      exact ⟨x,rfl,ev_rel hs he⟩
     | succ i =>
      obtain ⟨x',g⟩:=q3 i y (by simpa using hi)
      exact ⟨x',by simpa using g.1,g.2⟩
   ·cases h
  ·cases h
theorem s_mkfn (hs:Sim P G n b ρ st a w) (f:Nat) (first captured:Array Operand) (hfirst:first.size=0) (ho:o.op = .makeFunc (.func f) first captured)
  (hf:fop B st.hp (ev G st.sl) (.mkfn f captured.toList)=some r):Sound P G n b ρ st a w o r:=by
 simp only [fop] at hf
 split at hf
 ·rename_i l hl
  injection hf with hf; subst hf
  obtain ⟨h1,h2⟩:=capsOf_sound hs _ _ hl
  have h0:first = #[]:=by simpa using hfirst
  refine Sound.same hs (v:=.func (.func f) #[] (captured.map a.eval)) (does_v (s:=Instr.makeFunc (.func f) (first.map a.eval) (captured.map a.eval)) (by simp [execOp,ho]) ?_) ?_
  ·subst h0; simp [Instr.makeFunc]
  ·refine ⟨captured.map a.eval,rfl,by simpa using h1,fun i r off hi=>?_⟩
   obtain ⟨x,g1,g2,b',g3,g4⟩:=h2 i r off hi
   refine ⟨g2,b',g3,?_⟩
   rw [Array.getElem?_map]
   rw [Array.getElem?_toList] at g1
   rw [g1]; simp [g4]
 ·split at hf
  ·rename_i l hl
   injection hf with hf; subst hf
   obtain ⟨h1,h2,h3⟩:=capsX_sound hs _ _ hl
   have h0:first = #[]:=by simpa using hfirst
   refine Sound.same hs (v:=.func (.func f) #[] (captured.map a.eval)) (does_v (s:=Instr.makeFunc (.func f) (first.map a.eval) (captured.map a.eval)) (by simp [execOp,ho]) ?_) ?_
   ·subst h0; simp [Instr.makeFunc]
   ·refine ⟨captured.map a.eval,rfl,by simpa using h1,fun i r off hi=>?_,fun i y hi=>?_⟩
    ·obtain ⟨x,g1,g2,b',g3,g4⟩:=h2 i r off hi
     refine ⟨g2,b',g3,?_⟩
     rw [Array.getElem?_map]
     rw [Array.getElem?_toList] at g1
     rw [g1]; simp [g4]
    ·obtain ⟨x,g1,g2⟩:=h3 i y hi
     rw [Array.getD_eq_getD_getElem?,Array.getElem?_map]
     rw [Array.getElem?_toList] at g1
     rw [g1]; exact g2
  ·cases hf
theorem s_maxmin (hs:Sim P G n b ρ st a w) (mx:Bool) (k:IntKind) (x y:Operand) (tys:Array TypeId) (hdst:True)
  (ho:o.op = .call { callee:=.builtin (if mx then .max else .min),args:=#[x,y],argTypes:=tys })
  (hf:fop B st.hp (ev G st.sl) (.maxmin mx k x y)=some r):Sound P G n b ρ st a w o r:=by
 simp only [fop] at hf
 split at hf
 ·rename_i k1 p k2 q e1 e2
  split at hf
  ·rename_i hk; obtain ⟨rfl,rfl⟩:=hk
   injection hf with hf; subst hf
   refine Sound.same hs ?_ (DRel.v _ rfl)
   cases mx <;> simp [execOp,ho,resolve,invoke,builtin,Builtin.max_,Builtin.min_,Builtin.max2,Builtin.min2,ev_int hs e1,ev_int hs e2]
  ·cases hf
 ·cases hf
end
def skEqs:List SK→List Value→List Value→Option Bool
 | [],[],[]=>some true
 | k :: ks,x :: r,y :: s=>match skEq k x y,skEqs ks r s with
  | some b,some c=>some (b && c)
  | _,_=>none
 | _,_,_=>none
theorem skEqs_len:∀ {ks:List SK} {xs ys:List Value} {r:Bool},skEqs ks xs ys=some r→xs.length=ks.length∧ys.length=ks.length
 | [],[],[],_,_=>⟨rfl,rfl⟩
 | k :: ks,x :: r,y :: s,b,h=>by
  simp only [skEqs] at h
  split at h
  ·rename_i p q h1 h2
   obtain ⟨a,c⟩:=skEqs_len h2
   exact ⟨by simp [a],by simp [c]⟩
  ·cases h
 | [],_ :: _,_,_,h=>by simp [skEqs] at h
 | [],[],_ :: _,_,h=>by simp [skEqs] at h
 | _ :: _,[],_,_,h=>by simp [skEqs] at h
 | _ :: _,_ :: _,[],_,h=>by simp [skEqs] at h
theorem skEqs_append:∀ {ks ks':List SK} {xs ys:List Value} {r:Bool},skEqs (ks ++ ks') xs ys=some r →
  ∃ p q,skEqs ks (xs.take ks.length) (ys.take ks.length)=some p∧skEqs ks' (xs.drop ks.length) (ys.drop ks.length)=some q∧r=(p && q)
 | [],ks',xs,ys,r,h=>⟨true,r,by simp [skEqs],by simpa using h,by simp⟩
 | k :: ks,ks',x :: xs,y :: ys,r,h=>by
  simp only [List.cons_append,skEqs] at h
  split at h
  ·rename_i b c h1 h2
   injection h with h; subst h
   obtain ⟨p,q,g1,g2,g3⟩:=skEqs_append h2
   refine ⟨b && p,q,by simp [skEqs,h1,g1],by simpa using g2,by subst g3; cases b <;> simp⟩
  ·cases h
 | k :: ks,ks',[],_,r,h=>by simp [skEqs] at h
 | k :: ks,ks',_ :: _,[],r,h=>by simp [skEqs] at h
theorem cellsEq_vals {P:Program} {kk:K}:∀ {ks:List SK} {cs ds:List C} {r:Bool} {xs ys:List Value},cellsEq ks cs ds=some r→xs.length=cs.length→ys.length=ds.length →
  (∀ (i:Nat) c v,cs[i]? = some c→xs[i]? = some v→CRel P kk c v)→(∀ (i:Nat) c v,ds[i]? = some c→ys[i]? = some v→CRel P kk c v)→skEqs ks xs ys=some r
 | [],[],[],r,xs,ys,h,hx,hy,_,_=>by
  obtain rfl:xs=[]:=by simpa using hx
  obtain rfl:ys=[]:=by simpa using hy
  simpa [cellsEq,skEqs] using h
 | k :: ks,c :: cs,d :: ds,r,[],_,_,hx,_,_,_=>by simp at hx
 | k :: ks,c :: cs,d :: ds,r,_ :: _,[],_,_,hy,_,_=>by simp at hy
 | k :: ks,c :: cs,d :: ds,r,x :: xs,y :: ys,h,hx,hy,h1,h2=>by
  unfold cellsEq at h
  split at h
  ·rename_i heq1 heq2 heq3; cases heq2
  ·rename_i k0 ks0 x0 r0 y0 r0' heq1 heq2 heq3
   injection heq1 with e1 e2; injection heq2 with e3 e4; injection heq3 with e5 e6
   subst e1; subst e2; subst e3; subst e4; subst e5; subst e6
   split at h
   ·rename_i b c hb hc
    injection h with h; subst h
    have a1:x=x0:=drel_v (h1 0 _ x rfl rfl)
    have a2:y=y0:=drel_v (h2 0 _ y rfl rfl)
    subst a1; subst a2
    have:=cellsEq_vals (P:=P) (kk:=kk) hc (by simpa using hx) (by simpa using hy) (fun i c v hc hv=>h1 (i+1) c v (by simpa using hc) (by simpa using hv)) (fun i c v hc hv=>h2 (i+1) c v (by simpa using hc) (by simpa using hv))
    simp [skEqs,hb,this]
   ·cases h
  ·cases h
 | [],_ :: _,_,r,xs,ys,h,_,_,_,_=>by simp [cellsEq] at h
 | [],[],_ :: _,r,xs,ys,h,_,_,_,_=>by simp [cellsEq] at h
 | _ :: _,[],_,r,xs,ys,h,_,_,_,_=>by simp [cellsEq] at h
 | _ :: _,_ :: _,[],r,xs,ys,h,_,_,_,_=>by simp [cellsEq] at h
theorem int_beq (p q:Int):(p == q)=decide (p=q):=rfl
theorem bool_beq (p q:Bool):(p == q)=decide (p=q):=by cases p <;> cases q <;> rfl
theorem run_ti {P:Program} {t:Nat} {i:TypeInfo} (h:P.info? t=some i) (w:World):(typeInfo t).run P w = .ok i w:=by
 simp [typeInfo,h]
section
variable {P:Program} {tt:TT}
def Is (ti:TI) (v:Value) (l:List Value):Prop:=if ti.agg then v = .agg l.toArray else l=[v]
theorem kindB_int {d:TypeDesc} {k:IntKind} (h:kindB d (.int k)=true):d = .int k:=by cases d <;> simp [kindB] at h; rw [h]
theorem kindB_bool {d:TypeDesc} (h:kindB d .bool=true):d = .bool:=by cases d <;> simp [kindB] at h; rfl
theorem kindB_str {d:TypeDesc} (h:kindB d .str=true):d = .string:=by cases d <;> simp [kindB] at h; rfl
theorem kindB_sl {d:TypeDesc} {e:Nat} (h:kindB d (.sl e)=true):d = .slice e:=by cases d <;> simp [kindB] at h; rw [h]
theorem kindB_map {d:TypeDesc} {k e:Nat} (h:kindB d (.map k e)=true):d = .map k e:=by cases d <;> simp [kindB] at h; rw [h.1,h.2]
theorem kindB_st {d:TypeDesc} {l:List (Nat×Nat)} (h:kindB d (.st l)=true):∃ fs:Array Field,d = .struct fs∧fs.toList.map (fun f=>(f.offset,f.type))=l∧∀ f∈fs.toList,f.name ≠ "_" := by
 cases d <;> simp only [kindB,Bool.and_eq_true,Bool.false_eq_true] at h
 rename_i fs
 refine ⟨fs,rfl,by simpa using h.1,fun f hf=>?_⟩
 have:=List.all_eq_true.1 h.2 f hf
 simpa using this
theorem run_size (htab:tabB P tt=true) {t:Nat} {ti:TI} (ht:tget tt t=some ti) (w:World):(sizeOf t).run P w = .ok ti.size w:=by
 obtain ⟨i,z,hi,hs,_⟩:=(tab_ok htab ht).info
 simp [sizeOf,run_ti hi,hs]
theorem run_zero (htab:tabB P tt=true) {t:Nat} {ti:TI} (ht:tget tt t=some ti) (w:World):∃ z,(zeroValue t).run P w = .ok z w∧z.cells.toList=ti.zero∧(ti.agg=true→∃ cs,z = .agg cs)∧(ti.agg=false→z.cells = #[z]):=by
 obtain ⟨i,z,hi,hs,hb,hz,h1,h2,h3,_⟩:=(tab_ok htab ht).info
 exact ⟨z,by simp [zeroValue,run_ti hi,hz],h1,h2,h3⟩
theorem run_under (htab:tabB P tt=true) {t:Nat} {ti:TI} (ht:tget tt t=some ti):∃ d,P.underlying t=some d∧kindB d ti.kind=true:=(tab_ok htab ht).kind
theorem part_run (htab:tabB P tt=true) {t:Nat} {ti:TI} (ht:tget tt t=some ti) (cs:Array Value) (off:Nat) (hsz:ti.agg=false→ti.size=1) (hlen:off+ti.size≤cs.size) (w:World) :
  ∃ v,(part t cs off).run P w = .ok v w∧Is ti v ((cs.toList.drop off).take ti.size):=by
 have ok:=tab_ok htab ht
 obtain ⟨i,z,hi,hs,hb,hz,hzl,_⟩:=ok.info
 have hag:=ok.agg w
 unfold part
 rw [Sem.run_bind,hag]
 simp only [Result.andThen_ok]
 cases hg:ti.agg with
 | true =>
  simp only [if_true]
  refine ⟨.agg (cs.extract off (off+ti.size)),?_,?_⟩
  ·rw [Sem.run_bind,run_size htab ht]
   rfl
  ·simp only [Is,hg,if_true]
   congr 1
   apply Array.ext'
   simp [List.take_drop]
 | false =>
  have h1:=hsz hg
  have hlt:off<cs.size:=by omega
  simp only [Bool.false_eq_true,if_false]
  refine ⟨cs[off],by simp [hlt],?_⟩
  simp only [Is,hg,Bool.false_eq_true,if_false,h1]
  rw [List.take_one,List.head?_drop]
  simp [hlt]
theorem flatK_size:∀ (d:Nat) (t:Nat) (ks:List SK) (ti:TI),tget tt t=some ti→flatK tt d t=some ks→ti.agg=false→ks.length=1:=by
 intro d t ks ti ht h hg
 cases d with
 | zero=>simp [flatK] at h
 | succ d =>
  simp only [flatK,ht] at h
  split at h <;> simp [hg] at h <;> (subst h; rfl)
theorem flat_eq (htab:tabB P tt=true):∀ d,
  (∀ (N:Nat) t ti ks x y xs ys r,d≤N→tget tt t=some ti→flatK tt d t=some ks→Is ti x xs→Is ti y ys→skEqs ks xs ys=some r→∀ w,(Op.equalIn N t x y).run P w = .ok r w) ∧
  (∀ (N:Nat) run (fl:List Field) ks (xs ys:Array Value) r,d≤N→(∀ f∈fl,f.name ≠ "_")→flatF tt d run (fl.map fun f=>(f.offset,f.type))=some ks →
   run+ks.length≤xs.size→run+ks.length≤ys.size→skEqs ks ((xs.toList.drop run).take ks.length) ((ys.toList.drop run).take ks.length)=some r→∀ w,(Op.eqFields N xs ys fl).run P w = .ok r w):=by
 intro d
 induction d with
 | zero =>
  refine ⟨fun N t ti ks x y xs ys r _ ht h=>by simp [flatK] at h,fun N run fl ks xs ys r _ hn h _ _ hr w=>?_⟩
  cases fl with
  | nil =>
   simp only [List.map_nil,flatF,Option.some.injEq] at h
   subst h
   simp only [List.length_nil,List.take_zero,skEqs,Option.some.injEq] at hr
   subst hr
   simp [Op.eqFields]
  | cons f fl=>simp [flatF] at h
 | succ d ih =>
  refine ⟨fun N t ti ks x y xs ys r hN ht h hx hy hr w=>?_,fun N run fl ks xs ys r hN hn h hlx hly hr w=>?_⟩
  ·obtain ⟨N,rfl⟩:∃ m,N=m+1:=⟨N-1,by omega⟩
   obtain ⟨dd,hu,hk⟩:=run_under htab ht
   simp only [flatK,ht] at h
   split at h
   ·rename_i k hkind
    rw [hkind] at hk
    cases hg:ti.agg with
    | true=>simp [hg] at h
    | false =>
     simp only [hg,Bool.false_eq_true,if_false,Option.some.injEq] at h
     subst h
     simp only [Is,hg,Bool.false_eq_true,if_false] at hx hy
     subst hx; subst hy
     rw [kindB_int hk] at hu
     cases x <;> cases y <;> simp only [skEqs,skEq] at hr <;> try (cases hr; done)
     rename_i k1 p k2 q
     by_cases hkk:k=k1∧k1=k2
     ·obtain ⟨rfl,rfl⟩:=hkk
      simp only [and_self,if_true,Option.some.injEq,Bool.and_true] at hr
      subst hr
      rw [run_equalIn_int (P:=P) w N t k k p q hu,int_beq]
     ·simp [hkk] at hr
   ·rename_i hkind
    rw [hkind] at hk
    cases hg:ti.agg with
    | true=>simp [hg] at h
    | false =>
     simp only [hg,Bool.false_eq_true,if_false,Option.some.injEq] at h
     subst h
     simp only [Is,hg,Bool.false_eq_true,if_false] at hx hy
     subst hx; subst hy
     rw [kindB_bool hk] at hu
     cases x <;> cases y <;> simp only [skEqs,skEq] at hr <;> try (cases hr; done)
     simp only [Option.some.injEq,Bool.and_true] at hr
     subst hr
     rw [run_equalIn_bool' (P:=P) w N t _ _ hu,bool_beq]
   ·rename_i hkind
    rw [hkind] at hk
    cases hg:ti.agg with
    | true=>simp [hg] at h
    | false =>
     simp only [hg,Bool.false_eq_true,if_false,Option.some.injEq] at h
     subst h
     simp only [Is,hg,Bool.false_eq_true,if_false] at hx hy
     subst hx; subst hy
     rw [kindB_str hk] at hu
     cases x <;> cases y <;> simp only [skEqs,skEq] at hr <;> try (cases hr; done)
     simp only [Option.some.injEq,Bool.and_true] at hr
     subst hr
     rw [run_equalIn_string (P:=P) w N t _ _ hu,toList_eq_decide]
   ·rename_i fs hkind
    rw [hkind] at hk
    split at h
    ·rename_i hc
     simp only [Bool.and_eq_true] at hc
     obtain ⟨flds,hd,hmap,hnames⟩:=kindB_st hk
     subst hd
     simp only [Is,hc.2,if_true] at hx hy
     subst hx; subst hy
     have hstood:=((tab_ok htab ht).eqOk hc.1).1
     have hf:P.fieldsOf t=flds:=by simp [Program.fieldsOf,hu]
     rw [run_equalIn_struct (P:=P) w N t _ _ (by rw [hf]; exact hu) hstood,hf]
     obtain ⟨l1,l2⟩:=skEqs_len hr
     refine ih.2 N 0 flds.toList ks xs.toArray ys.toArray r (by omega) hnames (by rw [hmap]; exact h) (by simp [l1]) (by simp [l2]) ?_ w
     simp only [List.drop_zero]
     rw [List.take_of_length_le (by simp [l1]),List.take_of_length_le (by simp [l2])]
     exact hr
    ·cases h
   ·cases h
  ·cases fl with
   | nil =>
    simp only [List.map_nil,flatF,Option.some.injEq] at h
    subst h
    simp only [List.length_nil,List.take_zero,skEqs,Option.some.injEq] at hr
    subst hr
    simp [Op.eqFields]
   | cons f fl =>
    simp only [List.map_cons,flatF] at h
    split at h
    ·rename_i hoff
     split at h
     ·rename_i ks1 hks1
      split at h
      ·rename_i ti1 hti1
       split at h
       ·rename_i hlen1
        split at h
        ·rename_i ks2 hks2
         injection h with h
         subst h
         simp only [List.length_append] at hlx hly
         obtain ⟨p,q,g1,g2,g3⟩:=skEqs_append hr
         have e1:∀ l:List Value,((l.drop run).take (ks1 ++ ks2).length).take ks1.length=(l.drop run).take ks1.length:=fun l=>by
          rw [List.take_take]; congr 1; simp
         have e2:∀ l:List Value,((l.drop run).take (ks1 ++ ks2).length).drop ks1.length=(l.drop (run+ks1.length)).take ks2.length:=fun l=>by
          rw [List.drop_take,List.drop_drop]; congr 1; simp
         rw [e1,e1] at g1
         rw [e2,e2] at g2
         have hsz1:ti1.agg=false→ti1.size=1:=fun hg=>by
          rw [← hlen1]; exact flatK_size d f.type ks1 ti1 hti1 hks1 hg
         obtain ⟨x1,hx1,ix1⟩:=part_run htab hti1 xs f.offset hsz1 (by rw [hoff,← hlen1]; omega) w
         obtain ⟨y1,hy1,iy1⟩:=part_run htab hti1 ys f.offset hsz1 (by rw [hoff,← hlen1]; omega) w
         rw [hoff,← hlen1] at ix1 iy1
         have hq1:=ih.1 N f.type ti1 ks1 x1 y1 _ _ p (by omega) hti1 hks1 ix1 iy1 g1 w
         have hq2:=ih.2 N (run+ks1.length) fl ks2 xs ys q (by omega) (fun g hg=>hn g (List.mem_cons_of_mem _ hg)) hks2 (by omega) (by omega) g2 w
         have hne:=hn f List.mem_cons_self
         simp only [Op.eqFields,if_pos hne,Sem.run_bind,hx1,hy1,hq1,Result.andThen_ok]
         subst g3
         cases p
         ·simp
         ·simpa using hq2
        ·cases h
       ·cases h
      ·cases h
     ·cases h
    ·cases h
end
section
variable {P:Program} {G:Gl} {n:Nat} {b:Base} {ρ:Nat→Option Nat} {st:St} {a:Act} {w:World} {B:Nat} {r:R} {o:Oper} {tt:TT}
theorem run_equal_agg (htab:tabB P tt=true) {t:Nat} {ti:TI} {ks:List SK} (ht:tget tt t=some ti) (hks:flatK tt 60 t=some ks) (hagg:ti.agg=true) (xs ys:Array Value) {r:Bool}
  (h:skEqs ks xs.toList ys.toList=some r) (w:World):(Op.equal t (.agg xs) (.agg ys)).run P w = .ok r w :=
 (flat_eq htab 60).1 10000 t ti ks _ _ xs.toList ys.toList r (by omega) ht hks (by simp [Is,hagg]) (by simp [Is,hagg]) h w
theorem flatK_st {d t:Nat} {ti:TI} {ks:List SK} (ht:tget tt t=some ti) (h:flatK tt d t=some ks) (hk:∃ fs,ti.kind = .st fs):ti.agg=true∧ti.eqOk=true:=by
 obtain ⟨fs,hk⟩:=hk
 cases d with
 | zero=>simp [flatK] at h
 | succ d =>
  simp only [flatK,ht,hk] at h
  split at h
  ·rename_i hc; simp only [Bool.and_eq_true] at hc; exact ⟨hc.2,hc.1⟩
  ·cases h
theorem s_eqA (htab:tabB P tt=true) (hs:Sim P G n b ρ st a w) {t t':Nat} {ti:TI} {ks:List SK} {fs:List (Nat×Nat)} (ht:tget tt t=some ti) (hk:ti.kind = .st fs) (hks:flatK tt 60 t=some ks) (ng:Bool) (x y:Operand)
  (ho:o.op = .binOp (if ng then .neq else .eql) t x y t')
  (hf:fop B st.hp (ev G st.sl) (.eqA ng ks x y)=some r):Sound P G n b ρ st a w o r:=by
 obtain ⟨hagg,heq⟩:=flatK_st ht hks ⟨fs,hk⟩
 have hguard:=((tab_ok htab ht).eqOk heq).2
 simp only [fop] at hf
 split at hf
 ·rename_i p q e1 e2
  split at hf
  ·rename_i rr hrr
   injection hf with hf; subst hf
   obtain ⟨xs,hx,hxs⟩:=ev_rel hs e1
   obtain ⟨ys,hy,hys⟩:=ev_rel hs e2
   refine Sound.same hs (does_v (s:=do eqGuard (if ng then .neq else .eql) t x y (a.eval x) (a.eval y); binOp (if ng then .neq else .eql) t (a.eval x) (a.eval y)) (by simp [execOp,ho]) ?_) (DRel.v _ rfl)
   rw [hx,hy]
   have hv:=cellsEq_vals (P:=P) (kk:=ctx ρ st.hp w) (xs:=xs.toList) (ys:=ys.toList) hrr (by simpa using hxs.1) (by simpa using hys.1)
    (fun i c v hc hv=>hxs.2 i c v hc (by simpa using hv)) (fun i c v hc hv=>hys.2 i c v hc (by simpa using hv))
   have hq:=run_equal_agg htab ht hks hagg xs ys hv w
   have hg:=run_eqGuard_agg (P:=P) w (if ng then .neq else .eql) t x y xs ys hguard
   rw [Sem.run_bind,hg]
   cases ng <;> simp [binOp,hq]
  ·cases hf
 ·cases hf
theorem run_eqnil_sl' (d:Nat) {t e:Nat} (hu:P.underlying t=some (.slice e)) (p:Option Addr) (n c:Nat) (w:World):(Op.equalIn (d+1) t (.slice p n c) (.slice none 0 0)).run P w = .ok p.isNone w:=by
 cases p <;> simp [Op.equalIn,run_underlying hu]
theorem run_eqnil_sl {t e:Nat} (hu:P.underlying t=some (.slice e)) (p:Option Addr) (n c:Nat) (w:World):(Op.equal t (.slice p n c) (.slice none 0 0)).run P w = .ok p.isNone w:=run_eqnil_sl' 9999 hu p n c w
theorem run_eqnil_iface' (d:Nat) {t:Nat} {ms:Array (String×TypeId)} (hu:P.underlying t=some (.interface ms)) (v:Value) (hv:v = .nilIface∨∃ u x,v = .iface u x) (w:World) :
  (Op.equalIn (d+1) t v .nilIface).run P w = .ok (match v with | .nilIface=>true | _=>false) w:=by
 rcases hv with rfl | ⟨u,x,rfl⟩ <;> simp [Op.equalIn,run_underlying hu]
theorem run_eqnil_iface {t:Nat} {ms:Array (String×TypeId)} (hu:P.underlying t=some (.interface ms)) (v:Value) (hv:v = .nilIface∨∃ u x,v = .iface u x) (w:World) :
  (Op.equal t v .nilIface).run P w = .ok (match v with | .nilIface=>true | _=>false) w:=run_eqnil_iface' 9999 hu v hv w
theorem run_eqnil_map' (d:Nat) {t k e:Nat} (hu:P.underlying t=some (.map k e)) (p:Option Nat) (w:World):(Op.equalIn (d+1) t (.map p) (.map none)).run P w = .ok p.isNone w:=by
 cases p <;> simp [Op.equalIn,run_underlying hu]
theorem run_eqnil_map {t k e:Nat} (hu:P.underlying t=some (.map k e)) (p:Option Nat) (w:World):(Op.equal t (.map p) (.map none)).run P w = .ok p.isNone w:=run_eqnil_map' 9999 hu p w
theorem run_eqnil_ptr' (d:Nat) {t e:Nat} (hu:P.underlying t=some (.pointer e)) (p:Option Addr) (w:World):(Op.equalIn (d+1) t (.pointer p) (.pointer none)).run P w = .ok p.isNone w:=by
 cases p <;> simp [Op.equalIn,run_underlying hu]
theorem run_eqnil_ptr {t e:Nat} (hu:P.underlying t=some (.pointer e)) (p:Option Addr) (w:World):(Op.equal t (.pointer p) (.pointer none)).run P w = .ok p.isNone w:=run_eqnil_ptr' 9999 hu p w
theorem run_eqnil_func' (d:Nat) {t:Nat} {x y:Array TypeId} {z:Bool} (hu:P.underlying t=some (.func x y z)) (v:Value) (hv:v = .nilFunc∨∃ f g h,v = .func f g h) (w:World) :
  (Op.equalIn (d+1) t v .nilFunc).run P w = .ok (match v with | .nilFunc=>true | _=>false) w:=by
 rcases hv with rfl | ⟨u,x,h,rfl⟩ <;> simp [Op.equalIn,run_underlying hu]
theorem run_eqnil_func {t:Nat} {x y:Array TypeId} {z:Bool} (hu:P.underlying t=some (.func x y z)) (v:Value) (hv:v = .nilFunc∨∃ f g h,v = .func f g h) (w:World) :
  (Op.equal t v .nilFunc).run P w = .ok (match v with | .nilFunc=>true | _=>false) w:=run_eqnil_func' 9999 hu v hv w
theorem run_nilcmp (ng:Bool) (t:Nat) (x y:Operand) (u v:Value) (hu:∀ cs,u≠.agg cs) (hg:(eqGuard (if ng then .neq else .eql) t x y u v).run P w = .ok () w)
  (hb:binOp (if ng then .neq else .eql) t u v=(fun r=>Value.bool (if ng then !r else r)) <$> Op.equal t u v) {r:Bool} (h:(Op.equal t u v).run P w = .ok r w) :
  (do eqGuard (if ng then .neq else .eql) t x y u v; binOp (if ng then .neq else .eql) t u v:Sem Value).run P w = .ok (.bool (if ng then !r else r)) w:=by
 rw [Sem.run_bind,hg]
 simp only [Result.andThen_ok,hb]
 cases ng <;> simp [h]
theorem kindB_ptr {d:TypeDesc} (h:kindB d .ptr=true):∃ e,d = .pointer e:=by cases d <;> simp [kindB] at h; exact ⟨_,rfl⟩
theorem kindB_iface {d:TypeDesc} (h:kindB d .iface=true):∃ e,d = .interface e:=by cases d <;> simp [kindB] at h; exact ⟨_,rfl⟩
theorem kindB_func {d:TypeDesc} (h:kindB d .func=true):∃ x y z,d = .func x y z:=by cases d <;> simp [kindB] at h; exact ⟨_,_,_,rfl⟩
theorem nil_sl (htab:tabB P tt=true) {t:Nat} {ti:TI} (ht:tget tt t=some ti) (hk:nkOf ti.kind=some .sl):∃ e,P.underlying t=some (.slice e):=by
 obtain ⟨d,hu,hd⟩:=run_under htab ht
 cases hkk:ti.kind <;> simp [hkk,nkOf] at hk
 rw [hkk] at hd
 exact ⟨_,by rw [hu,kindB_sl hd]⟩
theorem nil_map (htab:tabB P tt=true) {t:Nat} {ti:TI} (ht:tget tt t=some ti) (hk:nkOf ti.kind=some .map):∃ k e,P.underlying t=some (.map k e):=by
 obtain ⟨d,hu,hd⟩:=run_under htab ht
 cases hkk:ti.kind <;> simp [hkk,nkOf] at hk
 rw [hkk] at hd
 exact ⟨_,_,by rw [hu,kindB_map hd]⟩
theorem nil_ptr (htab:tabB P tt=true) {t:Nat} {ti:TI} (ht:tget tt t=some ti) (hk:nkOf ti.kind=some .ptr):∃ e,P.underlying t=some (.pointer e):=by
 obtain ⟨d,hu,hd⟩:=run_under htab ht
 cases hkk:ti.kind <;> simp [hkk,nkOf] at hk
 rw [hkk] at hd
 obtain ⟨e,rfl⟩:=kindB_ptr hd
 exact ⟨e,hu⟩
theorem nil_iface (htab:tabB P tt=true) {t:Nat} {ti:TI} (ht:tget tt t=some ti) (hk:nkOf ti.kind=some .iface):∃ e,P.underlying t=some (.interface e):=by
 obtain ⟨d,hu,hd⟩:=run_under htab ht
 cases hkk:ti.kind <;> simp [hkk,nkOf] at hk
 rw [hkk] at hd
 obtain ⟨e,rfl⟩:=kindB_iface hd
 exact ⟨e,hu⟩
theorem nil_func (htab:tabB P tt=true) {t:Nat} {ti:TI} (ht:tget tt t=some ti) (hk:nkOf ti.kind=some .func):∃ x y z,P.underlying t=some (.func x y z):=by
 obtain ⟨d,hu,hd⟩:=run_under htab ht
 cases hkk:ti.kind <;> simp [hkk,nkOf] at hk
 rw [hkk] at hd
 obtain ⟨x,y,z,rfl⟩:=kindB_func hd
 exact ⟨x,y,z,hu⟩
theorem run_slnil (htab:tabB P tt=true) {t:Nat} {ti:TI} (ht:tget tt t=some ti) (hk:nkOf ti.kind=some .sl) (ng:Bool) (x y:Operand) (p:Option Addr) (m c:Nat) (w:World) :
  (do eqGuard (if ng then .neq else .eql) t x y (.slice p m c) (.slice none 0 0); binOp (if ng then .neq else .eql) t (.slice p m c) (.slice none 0 0):Sem Value).run P w = .ok (.bool (if ng then !p.isNone else p.isNone)) w:=by
 obtain ⟨e,hu⟩:=nil_sl htab ht hk
 refine run_nilcmp ng t x y _ _ (fun cs h=>by cases h) ?_ ?_ (run_eqnil_sl hu p m c w)
 ·cases ng <;> simp [eqGuard]
 ·cases ng <;> simp [binOp]
def nilV:NK→Value
 | .sl=>.slice none 0 0
 | .iface=>.nilIface
 | .map=>.map none
 | .ptr=>.pointer none
 | .func=>.nilFunc
theorem isNil_eval {k:NK} {y:Operand} (h:isNil k y=true) (a:Act):a.eval y=nilV k:=by
 unfold isNil at h
 split at h <;> first | rfl | cases h
theorem s_eqN (htab:tabB P tt=true) (hs:Sim P G n b ρ st a w) {t t':Nat} {ti:TI} (ht:tget tt t=some ti) {k:NK} (hk:nkOf ti.kind=some k) (ng:Bool) (x y:Operand) (hy:isNil k y=true)
  (ho:o.op = .binOp (if ng then .neq else .eql) t x y t')
  (hf:fop B st.hp (ev G st.sl) (.eqN ng k x)=some r):Sound P G n b ρ st a w o r:=by
 have hey:=isNil_eval hy a
 have hd:∀ v,(do eqGuard (if ng then .neq else .eql) t x y (a.eval x) (a.eval y); binOp (if ng then .neq else .eql) t (a.eval x) (a.eval y):Sem Value).run P w = .ok v w→(execOp a.eval o).run P w = .ok (.value v) w :=
  fun v hv=>does_v (by simp [execOp,ho]) hv
 simp only [fop] at hf
 have hyc:∃ v,y = .const v:=by
  unfold isNil at hy
  split at hy <;> first | exact ⟨_,rfl⟩ | cases hy
 split at hf
 ·rename_i e1
  injection hf with hf; subst hf
  obtain ⟨ms,hu⟩:=nil_iface htab ht hk
  refine Sound.same hs (hd (.bool (!ng)) ?_) (DRel.v _ rfl)
  rw [ev_val hs e1,hey,nilV]
  obtain ⟨c,rfl⟩:=hyc
  have:=run_nilcmp (P:=P) (w:=w) ng t x (.const c) .nilIface .nilIface (fun cs h=>by cases h) (by cases ng <;> simp [eqGuard]) (by cases ng <;> simp [binOp]) (run_eqnil_iface hu _ (.inl rfl) w)
  rw [this]; cases ng <;> rfl
 ·rename_i e1
  injection hf with hf; subst hf
  obtain ⟨ms,hu⟩:=nil_iface htab ht hk
  obtain ⟨tt0,x0,hx⟩:=ev_rel hs e1
  refine Sound.same hs (hd (.bool ng) ?_) (DRel.v _ rfl)
  rw [hx,hey,nilV]
  have:=run_nilcmp (P:=P) (w:=w) ng t x y (.iface tt0 x0) .nilIface (fun cs h=>by cases h) (by cases ng <;> simp [eqGuard]) (by cases ng <;> simp [binOp]) (run_eqnil_iface hu _ (.inr ⟨_,_,rfl⟩) w)
  rw [this]; cases ng <;> rfl
 ·rename_i m c e1
  injection hf with hf; subst hf
  refine Sound.same hs (hd (.bool (!ng)) ?_) (DRel.v _ rfl)
  rw [ev_val hs e1,hey,nilV]
  rw [run_slnil htab ht hk]; cases ng <;> rfl
 ·rename_i f0 c0 e1
  injection hf with hf; subst hf
  obtain ⟨x1,y1,z1,hu⟩:=nil_func htab ht hk
  obtain ⟨cv,hx,_⟩:=ev_rel hs e1
  refine Sound.same hs (hd (.bool ng) ?_) (DRel.v _ rfl)
  rw [hx,hey,nilV]
  have:=run_nilcmp (P:=P) (w:=w) ng t x y (.func (.func f0) #[] cv) .nilFunc (fun cs h=>by cases h) (by cases ng <;> simp [eqGuard]) (by cases ng <;> simp [binOp]) (run_eqnil_func hu _ (.inr ⟨_,_,_,rfl⟩) w)
  rw [this]; cases ng <;> rfl
 ·rename_i f0 c0 e1
  injection hf with hf; subst hf
  obtain ⟨x1,y1,z1,hu⟩:=nil_func htab ht hk
  obtain ⟨cv,hx,_⟩:=drel_fn (ev_rel hs e1)
  refine Sound.same hs (hd (.bool ng) ?_) (DRel.v _ rfl)
  rw [hx,hey,nilV]
  have:=run_nilcmp (P:=P) (w:=w) ng t x y (.func (.func f0) #[] cv) .nilFunc (fun cs h=>by cases h) (by cases ng <;> simp [eqGuard]) (by cases ng <;> simp [binOp]) (run_eqnil_func hu _ (.inr ⟨_,_,_,rfl⟩) w)
  rw [this]; cases ng <;> rfl
 ·rename_i e1
  injection hf with hf; subst hf
  obtain ⟨x1,y1,z1,hu⟩:=nil_func htab ht hk
  refine Sound.same hs (hd (.bool (!ng)) ?_) (DRel.v _ rfl)
  rw [ev_val hs e1,hey,nilV]
  have:=run_nilcmp (P:=P) (w:=w) ng t x y .nilFunc .nilFunc (fun cs h=>by cases h) (by cases ng <;> simp [eqGuard]) (by cases ng <;> simp [binOp]) (run_eqnil_func hu _ (.inl rfl) w)
  rw [this]; cases ng <;> rfl
 ·rename_i r0 e1
  injection hf with hf; subst hf
  obtain ⟨k1,e2,hu⟩:=nil_map htab ht hk
  obtain ⟨_,b0,_,hx⟩:=ev_rel hs e1
  refine Sound.same hs (hd (.bool ng) ?_) (DRel.v _ rfl)
  rw [hx,hey,nilV]
  have:=run_nilcmp (P:=P) (w:=w) ng t x y (.map (some b0)) (.map none) (fun cs h=>by cases h) (by cases ng <;> simp [eqGuard]) (by cases ng <;> simp [binOp]) (run_eqnil_map hu _ w)
  rw [this]; cases ng <;> rfl
 ·rename_i e1
  injection hf with hf; subst hf
  obtain ⟨k1,e2,hu⟩:=nil_map htab ht hk
  refine Sound.same hs (hd (.bool (!ng)) ?_) (DRel.v _ rfl)
  rw [ev_val hs e1,hey,nilV]
  have:=run_nilcmp (P:=P) (w:=w) ng t x y (.map none) (.map none) (fun cs h=>by cases h) (by cases ng <;> simp [eqGuard]) (by cases ng <;> simp [binOp]) (run_eqnil_map hu _ w)
  rw [this]; cases ng <;> rfl
 ·rename_i r0 o0 e1
  injection hf with hf; subst hf
  obtain ⟨e2,hu⟩:=nil_ptr htab ht hk
  obtain ⟨_,b0,_,hx⟩:=ev_rel hs e1
  refine Sound.same hs (hd (.bool ng) ?_) (DRel.v _ rfl)
  rw [hx,hey,nilV]
  have:=run_nilcmp (P:=P) (w:=w) ng t x y (.pointer (some ⟨b0,o0,none⟩)) (.pointer none) (fun cs h=>by cases h) (by cases ng <;> simp [eqGuard]) (by cases ng <;> simp [binOp]) (run_eqnil_ptr hu _ w)
  rw [this]; cases ng <;> rfl
 ·rename_i e1
  injection hf with hf; subst hf
  obtain ⟨e2,hu⟩:=nil_ptr htab ht hk
  refine Sound.same hs (hd (.bool (!ng)) ?_) (DRel.v _ rfl)
  rw [ev_val hs e1,hey,nilV]
  have:=run_nilcmp (P:=P) (w:=w) ng t x y (.pointer none) (.pointer none) (fun cs h=>by cases h) (by cases ng <;> simp [eqGuard]) (by cases ng <;> simp [binOp]) (run_eqnil_ptr hu _ w)
  rw [this]; cases ng <;> rfl
 ·cases hf
theorem does_builtin {bi:Builtin} {args:Array Operand} {tys:Array TypeId} (ho:o.op = .call { callee:=.builtin bi,args:=args,argTypes:=tys }) {s:Sem Value}
  (hb:∀ consts,builtin bi tys o.type consts (args.map a.eval)=(do pure (.value (← s)))) {v:Value} {w w':World} (hr:s.run P w = .ok v w'):(execOp a.eval o).run P w = .ok (.value v) w':=by
 simp [execOp,ho,resolve,invoke,hb,hr]
theorem s_lenS (htab:tabB P tt=true) (hs:Sim P G n b ρ st a w) {t:Nat} {ti:TI} (ht:tget tt t=some ti) (x:Operand) (tys:Array TypeId) (ht0:tys[0]? = some t) (hk:ti.kind = .str)
  (ho:o.op = .call { callee:=.builtin .len,args:=#[x],argTypes:=tys })
  (hf:fop B st.hp (ev G st.sl) (.lenS x)=some r):Sound P G n b ρ st a w o r:=by
 obtain ⟨d,hu,hd⟩:=run_under htab ht
 rw [hk] at hd
 rw [kindB_str hd] at hu
 simp only [fop] at hf
 split at hf
 ·rename_i s e1
  injection hf with hf; subst hf
  refine Sound.same hs (does_builtin ho (s:=Builtin.len_ tys o.type #[a.eval x]) (fun c=>by simp [builtin]) ?_) (DRel.v _ rfl)
  rw [ev_val hs e1]
  simp [Builtin.len_,ht0,run_underlying hu,goInt]
 ·cases hf
theorem s_lenL (htab:tabB P tt=true) (hs:Sim P G n b ρ st a w) {t e:Nat} {ti:TI} (ht:tget tt t=some ti) (x:Operand) (tys:Array TypeId) (ht0:tys[0]? = some t) (hk:ti.kind = .sl e)
  (ho:o.op = .call { callee:=.builtin .len,args:=#[x],argTypes:=tys })
  (hf:fop B st.hp (ev G st.sl) (.lenL x)=some r):Sound P G n b ρ st a w o r:=by
 obtain ⟨d,hu,hd⟩:=run_under htab ht
 rw [hk] at hd
 rw [kindB_sl hd] at hu
 have key:∀ p m c,a.eval x = .slice p m c→(execOp a.eval o).run P w = .ok (.value (.int .i64 m)) w:=by
  intro p m c hx
  refine does_builtin ho (s:=Builtin.len_ tys o.type #[a.eval x]) (fun c=>by simp [builtin]) ?_
  rw [hx]
  simp [Builtin.len_,ht0,run_underlying hu,goInt]
 simp only [fop] at hf
 split at hf
 ·rename_i xs e1
  injection hf with hf; subst hf
  have h1:=ev_rel hs e1
  generalize a.eval x=v at h1 key
  cases h1 with
  | nil p0 c0=>exact Sound.same hs (key p0 0 c0 rfl) (DRel.v _ rfl)
  | sl _ b0 off cap sz vs _ _ _ _ _ _=>exact Sound.same hs (key _ _ _ rfl) (DRel.v _ rfl)
 ·rename_i m c e1
  injection hf with hf; subst hf
  exact Sound.same hs (key none m c (ev_val hs e1)) (DRel.v _ rfl)
 ·rename_i r0 sz off len e1
  injection hf with hf; subst hf
  rcases (ev_rel hs e1).2 with ⟨rfl,p0,hx⟩ | ⟨b0,cap,_,_,_,hx,_⟩
  ·exact Sound.same hs (key _ _ _ hx) (DRel.v _ rfl)
  ·exact Sound.same hs (key _ _ _ hx) (DRel.v _ rfl)
 ·cases hf
theorem s_lenM (htab:tabB P tt=true) (hs:Sim P G n b ρ st a w) {t k e:Nat} {ti:TI} (ht:tget tt t=some ti) (x:Operand) (tys:Array TypeId) (ht0:tys[0]? = some t) (hk:ti.kind = .map k e)
  (ho:o.op = .call { callee:=.builtin .len,args:=#[x],argTypes:=tys })
  (hf:fop B st.hp (ev G st.sl) (.lenM x)=some r):Sound P G n b ρ st a w o r:=by
 obtain ⟨d,hu,hd⟩:=run_under htab ht
 rw [hk] at hd
 rw [kindB_map hd] at hu
 simp only [fop] at hf
 split at hf
 ·rename_i r0 e1
  split at hf
  ·rename_i kt es hes
   injection hf with hf; subst hf
   obtain ⟨_,b0,hb0,hx⟩:=ev_rel hs e1
   obtain ⟨_,b1,ces,cl,hb1,hh,hsz,_⟩:=hs.heap.objs r0 _ hes
   have hbe:b0=b1:=by have:ρ r0=some b0:=hb0; rw [hb1] at this; injection this with this; exact this.symm
   subst hbe
   have hh':w.heap[b0]? = some (.map ces cl):=hh
   refine Sound.same hs (does_builtin ho (s:=Builtin.len_ tys o.type #[a.eval x]) (fun c=>by simp [builtin]) ?_) (DRel.v (.int .i64 es.length) rfl)
   rw [hx]
   have hg:(getObj b0).run P w = .ok (.map ces cl) w:=by simp only [getObj,Sem.run,hh']
   simp [Builtin.len_,ht0,run_underlying hu,goInt,hg,hsz]
  ·cases hf
 ·cases hf
theorem valOf_rel {k:K} {ti:TI} (hsz:ti.agg=false→ti.size=1) {cs:List C} {vs:List Value} {v:Value} (hv:Is ti v vs) (hlen:cs.length=ti.size) (hvl:vs.length=cs.length)
  (hr:∀ (i:Nat) c v,cs[i]? = some c→vs[i]? = some v→CRel P k c v):TRel P k (valOf ti.agg cs) v:=by
 unfold valOf
 cases hg:ti.agg with
 | true =>
  simp only [if_true]
  simp only [Is,hg,if_true] at hv
  exact ⟨vs.toArray,hv,csrel_list hvl hr⟩
 | false =>
  simp only [Is,hg,Bool.false_eq_true,if_false] at hv
  rw [hsz hg] at hlen
  subst hv
  obtain ⟨c,rfl⟩:=List.length_eq_one_iff.1 hlen
  simp only [Bool.false_eq_true,if_false]
  exact hr 0 c v rfl rfl
theorem s_field (htab:tabB P tt=true) (hs:Sim P G n b ρ st a w) {t ty f off:Nat} {ti fi:TI} {fs:List (Nat×Nat)} (ht:tget tt t=some ti) (hk:ti.kind = .st fs) (hfo:fs[f]? = some (off,ty)) (hfi:tget tt ty=some fi)
  (hsz:fi.agg=false→fi.size=1) (x:Operand) (ho:o.op = .field t x f)
  (hf:fop B st.hp (ev G st.sl) (.field fi.agg fi.size off x)=some r):Sound P G n b ρ st a w o r:=by
 obtain ⟨d,hu,hd⟩:=run_under htab ht
 rw [hk] at hd
 obtain ⟨flds,rfl,hmap,_⟩:=kindB_st hd
 simp only [fop] at hf
 split at hf
 ·rename_i cs e1
  split at hf
  ·rename_i hle
   injection hf with hf; subst hf
   obtain ⟨xs,hx,hxs⟩:=ev_rel hs e1
   have hfl:∃ fl:Field,flds[f]? = some fl∧fl.offset=off∧fl.type=ty:=by
    rw [← hmap,List.getElem?_map] at hfo
    cases hq:flds.toList[f]? with
    | none=>rw [hq] at hfo; cases hfo
    | some fl =>
     rw [hq] at hfo; simp at hfo
     exact ⟨fl,by rw [← Array.getElem?_toList]; exact hq,hfo.1,hfo.2⟩
   obtain ⟨fl,hfl,h1,h2⟩:=hfl
   obtain ⟨v,hv,hIs⟩:=part_run htab hfi xs off hsz (by rw [hxs.1]; exact hle) w
   refine Sound.same hs (v:=v) (does_v (s:=Instr.field t (a.eval x) f) (by simp [execOp,ho]) ?_) ?_
   ·rw [hx]
    simp [Instr.field,run_underlying hu,hfl,asAgg,h1,h2,hv]
   ·refine valOf_rel hsz hIs (by simp; omega) (by simp [hxs.1]) (fun i c u hc hu=>?_)
    rw [List.getElem?_take] at hc hu
    split at hc
    ·rw [List.getElem?_drop] at hc
     rename_i hi
     rw [if_pos hi,List.getElem?_drop] at hu
     exact hxs.2 _ c u hc (by simpa using hu)
    ·cases hc
  ·cases hf
 ·cases hf
end
theorem addr_add (b off k:Nat):(Addr.add ⟨b,off,none⟩ k)=⟨b,off+k,none⟩:=by
 unfold Addr.add
 split
 ·rename_i h; subst h; rfl
 ·rfl
section
variable {P:Program} {w:World}
theorem loadFrom_run (b off:Nat):∀ (k i:Nat) (acc:Array Value),(∀ j,j<k→∃ v,w.cell? ⟨b,off+(i+j),none⟩=some v) →
  ∃ vs:List Value,vs.length=k∧(∀ j,j<k→w.cell? ⟨b,off+(i+j),none⟩=vs[j]?)∧(loadCellsFrom ⟨b,off,none⟩ i k acc).run P w = .ok (acc ++ vs.toArray) w
 | 0,i,acc,_=>⟨[],rfl,fun j hj=>by omega,by simp [loadCellsFrom]⟩
 | k+1,i,acc,h=>by
  obtain ⟨v,hv⟩:=h 0 (by omega)
  obtain ⟨vs,h1,h2,h3⟩:=loadFrom_run b off k (i+1) (acc.push v) (fun j hj=>by
   obtain ⟨u,hu⟩:=h (j+1) (by omega)
   exact ⟨u,by rw [show off+(i+1+j)=off+(i+(j+1)) by omega]; exact hu⟩)
  refine ⟨v :: vs,by simp [h1],fun j hj=>?_,?_⟩
  ·cases j with
   | zero=>simpa using hv
   | succ j =>
    rw [show off+(i+(j+1))=off+(i+1+j) by omega,h2 j (by omega)]
    simp
  ·simp only [loadCellsFrom,Sem.run_bind,addr_add,run_load]
   rw [show off+i=off+(i+0) by omega,hv]
   simp only [Result.andThen_ok,h3]
   simp
theorem load_cells (b off k:Nat) (h:∀ j,j<k→∃ v,w.cell? ⟨b,off+j,none⟩=some v) :
  ∃ vs:List Value,vs.length=k∧(∀ j,j<k→w.cell? ⟨b,off+j,none⟩=vs[j]?)∧(loadCells ⟨b,off,none⟩ k).run P w = .ok vs.toArray w:=by
 obtain ⟨vs,h1,h2,h3⟩:=loadFrom_run (P:=P) b off k 0 #[] (fun j hj=>by simpa using h j hj)
 exact ⟨vs,h1,fun j hj=>by simpa using h2 j hj,by simpa [loadCells] using h3⟩
theorem load_var {tt:TT} (htab:tabB P tt=true) {t:Nat} {ti:TI} (ht:tget tt t=some ti) (hsz:ti.agg=false→ti.size=1) (b off:Nat) (h:∀ j,j<ti.size→∃ v,w.cell? ⟨b,off+j,none⟩=some v) :
  ∃ (v:Value) (vs:List Value),(loadVar t ⟨b,off,none⟩).run P w = .ok v w∧vs.length=ti.size∧(∀ j,j<ti.size→w.cell? ⟨b,off+j,none⟩=vs[j]?)∧Is ti v vs:=by
 have hag:=(tab_ok htab ht).agg w
 unfold loadVar
 cases hg:ti.agg with
 | true =>
  obtain ⟨vs,h1,h2,h3⟩:=load_cells (P:=P) b off ti.size h
  refine ⟨.agg vs.toArray,vs,?_,h1,h2,by simp [Is,hg]⟩
  rw [hg] at hag
  rw [Sem.run_bind,hag]
  simp only [Result.andThen_ok,if_true,Sem.run_bind,run_size htab ht,h3,Sem.run_pure]
 | false =>
  have h1:=hsz hg
  obtain ⟨v,hv⟩:=h 0 (by omega)
  rw [Nat.add_zero] at hv
  refine ⟨v,[v],?_,by simp [h1],fun j hj=>?_,by simp [Is,hg]⟩
  ·rw [hg] at hag
   rw [Sem.run_bind,hag]
   simp [hv]
  ·have:j=0:=by omega
   subst this
   simpa using hv
theorem setB_id (w:World) (b:Nat) (o:Obj) (h:w.heap[b]? = some o):setB w b o=w:=by
 have:w.heap.setIfInBounds b o=w.heap:=by
  apply Array.ext_getElem?
  intro i
  by_cases e:i=b
  ·subst e
   have hlt:i<w.heap.size:=by
    by_cases hl:i<w.heap.size
    ·exact hl
    ·rw [Array.getElem?_eq_none (by omega)] at h; cases h
   rw [Array.getElem?_setIfInBounds_self_of_lt hlt,h]
  ·rw [Array.getElem?_setIfInBounds_ne (fun x=>e x.symm)]
 simp only [setB,this]
theorem setB_setB (w:World) (b:Nat) (o o':Obj):setB (setB w b o) b o'=setB w b o':=by
 simp only [setB]
 congr 1
 apply Array.ext_getElem?
 intro i
 by_cases e:i=b
 ·subst e
  by_cases hl:i<w.heap.size
  ·rw [Array.getElem?_setIfInBounds_self_of_lt (by simpa using hl),Array.getElem?_setIfInBounds_self_of_lt hl]
  ·rw [Array.getElem?_eq_none (by simp; omega),Array.getElem?_eq_none (by simp; omega)]
 ·rw [Array.getElem?_setIfInBounds_ne (fun x=>e x.symm),Array.getElem?_setIfInBounds_ne (fun x=>e x.symm),Array.getElem?_setIfInBounds_ne (fun x=>e x.symm)]
theorem setCell_setB (w:World) (b off:Nat) (c:Array Value) (e:TypeId) (fz:Nat×Nat) (v:Value) (h:w.heap[b]? = some (.cells c e fz)) :
  w.setCell ⟨b,off,none⟩ v=setB w b (.cells (c.setIfInBounds off v) e fz):=by
 simp only [World.setCell,setB]
 congr 1
 apply Array.ext_getElem?
 intro i
 rw [Array.getElem?_modify]
 by_cases e:b=i
 ·subst e
  have hlt:b<w.heap.size:=by
   by_cases hl:b<w.heap.size
   ·exact hl
   ·rw [Array.getElem?_eq_none (by omega)] at h; cases h
  rw [Array.getElem?_setIfInBounds_self_of_lt hlt,h]
  simp
 ·rw [Array.getElem?_setIfInBounds_ne e,if_neg e]
theorem splice_length {α:Type} (l:List α) (off:Nat) (xs:List α) (h:off+xs.length≤l.length):(splice l off xs).length=l.length:=by
 simp only [splice,List.length_append,List.length_take,List.length_drop]; omega
theorem splice_nil {α:Type} (l:List α) (off:Nat):splice l off []=l:=by simp [splice]
theorem splice_set {α:Type} (l:List α) (off:Nat) (x:α) (xs:List α) (h:off<l.length):splice (l.set off x) (off+1) xs=splice l off (x :: xs):=by
 simp only [splice,List.length_cons]
 have h1:(l.set off x).take (off+1)=l.take off ++ [x]:=by
  rw [List.take_succ_eq_append_getElem (by simpa using h)]
  simp [List.take_set_of_le]
 have h2:(l.set off x).drop (off+1+xs.length)=l.drop (off+(xs.length+1)):=by
  rw [List.drop_set_of_lt (by omega)]
  congr 1; omega
 rw [h1,h2]; simp
theorem splice_get {α:Type} (l:List α) (off:Nat) (xs:List α) (i:Nat) (h:off+xs.length≤l.length) :
  (splice l off xs)[i]? = if off≤i∧i<off+xs.length then xs[i-off]? else l[i]? := by
 simp only [splice]
 by_cases h1:i<off
 ·rw [if_neg (by omega),List.append_assoc,List.getElem?_append_left (by simp; omega),List.getElem?_take,if_pos h1]
 ·by_cases h2:i<off+xs.length
  ·rw [if_pos ⟨by omega,h2⟩,List.append_assoc,List.getElem?_append_right (by simp; omega),List.getElem?_append_left (by simp; omega)]
   congr 1; simp; omega
  ·rw [if_neg (by omega),List.getElem?_append_right (by simp; omega),List.getElem?_drop]
   congr 1; simp; omega
theorem store_cells (b off:Nat) (e:TypeId):∀ (vs:List Value) (i:Nat) (w:World) (c:Array Value),w.heap[b]? = some (.cells c e (0,0))→off+i+vs.length≤c.size→(∀ v∈vs,v.oneCell'=true) →
  (storeCells ⟨b,off,none⟩ vs i).run P w = .ok () (setB w b (.cells (splice c.toList (off+i) vs).toArray e (0,0)))
 | [],i,w,c,hb,hl,h1=>by
  simp only [storeCells,Sem.run_pure,splice_nil,Array.toArray_toList]
  rw [setB_id w b _ hb]
 | v :: vs,i,w,c,hb,hl,h1=>by
  simp only [List.length_cons] at hl
  have hc:w.cell? ⟨b,off+i,none⟩=some (c[off+i]'(by omega)):=by
   simp only [World.cell?,hb]
   simp
  have hfz:w.frozen? ⟨b,off+i,none⟩=false:=by simp [World.frozen?,hb]
  simp only [storeCells,Sem.run_bind,addr_add]
  rw [run_store P w _ v .plain (h1 v List.mem_cons_self),hc]
  simp only [hfz,Bool.false_eq_true,if_false,Result.andThen_ok]
  rw [setCell_setB w b _ c e _ v hb]
  have hlt:b<w.heap.size:=by
   by_cases hl:b<w.heap.size
   ·exact hl
   ·rw [Array.getElem?_eq_none (by omega)] at hb; cases hb
  rw [store_cells b off e vs (i+1) _ (c.setIfInBounds (off+i) v) (setB_same _ _ _ hlt) (by simp; omega) (fun u hu=>h1 u (List.mem_cons_of_mem _ hu)),setB_setB]
  congr 3
  simp only [Array.toList_setIfInBounds]
  rw [← Nat.add_assoc,splice_set _ _ _ _ (by simp; omega)]
theorem fold_set:∀ (xs:List Value) (k off:Nat) (cs:Array Value),off+k+xs.length≤cs.size →
  (xs.zipIdx k).foldl (fun cs (p:Value×Nat)=>cs.setIfInBounds (off+p.2) p.1) cs=(splice cs.toList (off+k) xs).toArray
 | [],k,off,cs,_=>by simp [splice_nil]
 | x :: xs,k,off,cs,h=>by
  simp only [List.length_cons] at h
  simp only [List.zipIdx_cons,List.foldl_cons]
  rw [fold_set xs (k+1) off _ (by simp; omega)]
  simp only [Array.toList_setIfInBounds]
  rw [← Nat.add_assoc,splice_set _ _ _ _ (by simp; omega)]
end
section
variable {P:Program} {G:Gl} {n:Nat} {b:Base} {ρ:Nat→Option Nat} {st:St} {a:Act} {w:World} {B:Nat} {r:R} {o:Oper} {tt:TT}
theorem mk_ip {S:Nat→Prop} {w:World} {cs:List D} {b off:Nat} (hS:S b) (hb:b<w.heap.size) (h:∀ (j:Nat) d,cs[j]? = some d→∃ u,w.cell? ⟨b,off+j,none⟩=some u∧DRel S w d u) :
  DRel S w (.ip cs) (.pointer (some ⟨b,off,none⟩)):=by
 refine DRel.ip cs b off (fun j=>(w.cell? ⟨b,off+j,none⟩).getD undef) hS hb (fun j d hj=>?_) (fun j d hj=>?_)
 ·obtain ⟨u,hu,_⟩:=h j d hj
  rw [hu]; rfl
 ·obtain ⟨u,hu,hd⟩:=h j d hj
  rw [hu]; exact hd
theorem s_chk (hs:Sim P G n b ρ st a w) (x:Operand) (ho:o.op = .nilCheck x)
  (hf:fop B st.hp (ev G st.sl) (.chk x)=some r):Sound P G n b ρ st a w o r:=by
 simp only [fop] at hf
 split at hf
 ·rename_i r0 off e1
  injection hf with hf; subst hf
  have h:=ev_rel hs e1
  obtain ⟨_,b0,_,hx⟩:=h
  refine Sound.same hs (v:=a.eval x) ?_ (ev_rel hs e1)
  rw [hx]; simp [execOp,ho,hx]
 ·rename_i r0 sz i off e1
  injection hf with hf; subst hf
  have h:=ev_rel hs e1
  obtain ⟨_,b0,_,hx⟩:=h
  refine Sound.same hs (v:=a.eval x) ?_ (ev_rel hs e1)
  rw [hx]; simp [execOp,ho,hx]
 ·rename_i cs e1
  injection hf with hf; subst hf
  have h:=ev_rel hs e1
  obtain ⟨b0,off,_,_,hx,_⟩:=drel_ip h
  refine Sound.same hs (v:=a.eval x) ?_ (ev_rel hs e1)
  rw [hx]; simp [execOp,ho,hx]
 ·rename_i f caps e1
  injection hf with hf; subst hf
  have h:=ev_rel hs e1
  obtain ⟨cv,hx,_⟩:=h
  refine Sound.same hs (v:=a.eval x) ?_ (ev_rel hs e1)
  rw [hx]; simp [execOp,ho,hx]
 ·cases hf
theorem fieldAt_run (htab:tabB P tt=true) {t ty f off:Nat} {ti fi:TI} {fs:List (Nat×Nat)} (ht:tget tt t=some ti) (hk:ti.kind = .st fs) (hfo:fs[f]? = some (off,ty)) (hfi:tget tt ty=some fi) (hpos:0<fi.size)
  (b0 o0:Nat) (w:World):(Instr.fieldAt t (.pointer (some ⟨b0,o0,none⟩)) f).run P w = .ok (.pointer (some ⟨b0,o0+off,none⟩)) w:=by
 obtain ⟨d,hu,hd⟩:=run_under htab ht
 rw [hk] at hd
 obtain ⟨flds,rfl,hmap,_⟩:=kindB_st hd
 have hfl:∃ fl:Field,flds[f]? = some fl∧fl.offset=off∧fl.type=ty:=by
  rw [← hmap,List.getElem?_map] at hfo
  cases hq:flds.toList[f]? with
  | none=>rw [hq] at hfo; cases hfo
  | some fl =>
   rw [hq] at hfo; simp at hfo
   exact ⟨fl,by rw [← Array.getElem?_toList]; exact hq,hfo.1,hfo.2⟩
 obtain ⟨fl,hfl,h1,h2⟩:=hfl
 have hne:¬ fi.size=0:=by omega
 simp [Instr.fieldAt,run_underlying hu,hfl,Instr.sureAddr,fieldPlace,h1,h2,run_size htab hfi,hne,addr_add]
theorem s_faddr (htab:tabB P tt=true) (hs:Sim P G n b ρ st a w) {t ty f off:Nat} {ti fi:TI} {fs:List (Nat×Nat)} (ht:tget tt t=some ti) (hk:ti.kind = .st fs) (hfo:fs[f]? = some (off,ty)) (hfi:tget tt ty=some fi)
  (hpos:0<fi.size) (x:Operand) (ho:o.op = .fieldAddr t x f)
  (hf:fop B st.hp (ev G st.sl) (.faddr off x)=some r):Sound P G n b ρ st a w o r:=by
 have key:∀ b0 o0,a.eval x = .pointer (some ⟨b0,o0,none⟩)→(execOp a.eval o).run P w = .ok (.value (.pointer (some ⟨b0,o0+off,none⟩))) w:=by
  intro b0 o0 hx
  refine does_v (s:=Instr.fieldAt t (a.eval x) f) (by simp [execOp,ho]) ?_
  rw [hx]; exact fieldAt_run htab ht hk hfo hfi hpos b0 o0 w
 simp only [fop] at hf
 split at hf
 ·rename_i r0 o0 e1
  injection hf with hf; subst hf
  obtain ⟨h1,b0,h2,hx⟩:=ev_rel hs e1
  exact Sound.same hs (key _ _ hx) ⟨h1,b0,h2,rfl⟩
 ·rename_i r0 sz i o0 e1
  injection hf with hf; subst hf
  obtain ⟨h1,b0,h2,hx⟩:=ev_rel hs e1
  exact Sound.same hs (key _ _ hx) ⟨h1,b0,h2,by rw [Nat.add_assoc]⟩
 ·rename_i cs e1
  injection hf with hf; subst hf
  obtain ⟨b0,o0,hS,hb,hx,hc⟩:=drel_ip (ev_rel hs e1)
  refine Sound.same hs (key _ _ hx) (mk_ip hS hb fun j d hj=>?_)
  rw [List.getElem?_drop] at hj
  obtain ⟨u,hu,hd⟩:=hc _ d hj
  exact ⟨u,by rw [Nat.add_assoc]; exact hu,hd⟩
 ·cases hf
theorem nth_get {α:Type} [Inhabited α] {l:List α} {i:Nat} (h:i<l.length):l[i]? = some (nth l i):=by
 simp [nth,List.getD,h]
theorem s_iaddr (htab:tabB P tt=true) (hs:Sim P G n b ρ st a w) {t e:Nat} {ti ei:TI} (ht:tget tt t=some ti) (hk:ti.kind = .sl e) (he:tget tt e=some ei) (x i:Operand) (ho:o.op = .indexAddr t x i)
  (hf:fop B st.hp (ev G st.sl) (.iaddr ei.size x i)=some r) (hob:r.ob):Sound P G n b ρ st a w o r:=by
 obtain ⟨d,hu,hd⟩:=run_under htab ht
 rw [hk] at hd
 rw [kindB_sl hd] at hu
 have key:∀ b0 o0 len cap k (m:Int),a.eval x = .slice (some ⟨b0,o0,none⟩) len cap→a.eval i = .int k m→0≤m→m<len →
   (execOp a.eval o).run P w = .ok (.value (.pointer (some ⟨b0,o0+m.toNat*ei.size,none⟩))) w:=by
  intro b0 o0 len cap k m hx hi h0 h1
  refine does_v (s:=Instr.indexAt t (a.eval x) (a.eval i)) (by simp [execOp,ho]) ?_
  rw [hx,hi]
  simp [Instr.indexAt,asIntOf,run_underlying hu,h0,h1,run_size htab he,addr_add]
 simp only [fop] at hf
 split at hf
 ·rename_i xs k m e1 e2
  injection hf with hf; subst hf
  obtain ⟨h0,h1,hsz⟩:=hob
  have hm:m.toNat<xs.length:=by omega
  have h1':=ev_rel hs e1
  have hi:=ev_int hs e2
  generalize hv:a.eval x=v at h1'
  cases h1' with
  | nil=>simp at hm
  | sl _ b0 off cap sz vs hS hb hcap hszs hcell hrel =>
   refine Sound.same hs (key b0 off _ cap k m hv hi h0 h1) ?_
   have hg:=nth_get hm
   have hs2:sz=ei.size:=by rw [← hszs _ _ hg]; exact hsz
   refine mk_ip hS hb fun j d hj=>?_
   refine ⟨vs m.toNat j,?_,hrel _ _ _ _ hg hj⟩
   rw [← hs2]; exact hcell _ _ _ _ hg hj
 ·rename_i r0 sz off len k m e1 e2
  split at hf
  ·rename_i hsz
   subst hsz
   injection hf with hf; subst hf
   obtain ⟨h0,h1⟩:=hob
   have hi:=ev_int hs e2
   rcases (ev_rel hs e1).2 with ⟨rfl,_⟩ | ⟨b0,cap,_,_,hb0,hx,_⟩
   ·simp at h1; omega
   ·refine Sound.same hs (key b0 _ _ cap k m hx hi h0 (by simpa using h1)) ⟨(ev_rel hs e1).1,b0,hb0,?_⟩
    congr 3
    rw [Nat.add_mul]; rfl
  ·cases hf
 ·cases hf
theorem s_index (htab:tabB P tt=true) (hs:Sim P G n b ρ st a w) {t:Nat} {ti:TI} (ht:tget tt t=some ti) (hk:ti.kind = .str) (x i:Operand) (ho:o.op = .index t x i)
  (hf:fop B st.hp (ev G st.sl) (.index x i)=some r) (hob:r.ob):Sound P G n b ρ st a w o r:=by
 obtain ⟨d,hu,hd⟩:=run_under htab ht
 rw [hk] at hd
 rw [kindB_str hd] at hu
 simp only [fop] at hf
 split at hf
 ·rename_i s k m e1 e2
  injection hf with hf; subst hf
  obtain ⟨h0,h1⟩:=hob
  refine Sound.same hs (v:=.int .u8 (s.data.toList.getD m.toNat 0).toNat) (does_v (s:=Instr.index t (a.eval x) (a.eval i)) (by simp [execOp,ho]) ?_) (DRel.v _ rfl)
  rw [ev_val hs e1,ev_int hs e2]
  have hlt:m.toNat<s.size:=by omega
  have hg:s[m.toNat]? = some (s.data.toList.getD m.toNat 0):=by
   have h2:s[m.toNat]? = some s[m.toNat]:=by simp [hlt]
   rw [h2]
   congr 1
   have h3:m.toNat<s.data.size:=hlt
   have h4:s.data.toList.getD m.toNat 0=s.data[m.toNat]'h3:=by
    rw [List.getD_eq_getElem?_getD,Array.getElem?_toList,Array.getElem?_eq_getElem h3]; rfl
   rw [h4]; rfl
  simp [Instr.index,asIntOf,run_underlying hu,h0,hg]
 ·cases hf
theorem optI_eval (hs:Sim P G n b ρ st a w) {lo:Option Operand} {d l:Int} (h:optI (lo.map (ev G st.sl)) d=some l) :
  (lo=none∧l=d)∨∃ x k,lo=some x∧a.eval x = .int k l:=by
 cases lo with
 | none=>simp [optI] at h; exact .inl ⟨rfl,h.symm⟩
 | some x =>
  simp only [Option.map_some] at h
  generalize he:ev G st.sl x=t at h
  unfold optI at h
  split at h
  ·rename_i heq; cases heq
  ·rename_i k m heq
   injection heq with heq; subst heq
   injection h with h; subst h
   exact .inr ⟨x,k,rfl,ev_int hs he⟩
  ·cases h
theorem bound_run (k:IntKind) (l:Int) (y:Nat) (c:BoundsCode) (h0:0≤l) (h1:l≤y) (w:World):(Instr.sliceBound (.int k l) y c).run P w = .ok l.toNat w:=by
 simp only [Instr.sliceBound,asIntOf,Sem.run_bind,Sem.run_pure,Result.andThen_ok]
 rw [if_pos ⟨h0,h1⟩]; rfl
theorem bounds_run (hs:Sim P G n b ρ st a w) {lo hi:Option Operand} {l h:Int} (isS:Bool) (len cap:Nat) (hl:optI (lo.map (ev G st.sl)) 0=some l) (hh:optI (hi.map (ev G st.sl)) len=some h)
  (h0:0≤l) (h1:l≤h) (h2:h≤len) (hcap:len≤cap) :
  (Instr.sliceBounds isS len cap (lo.map a.eval) (hi.map a.eval) none).run P w = .ok (l.toNat,h.toNat,cap) w:=by
 unfold Instr.sliceBounds
 rcases optI_eval hs hh with ⟨rfl,rfl⟩ | ⟨x,k,rfl,hx⟩
 ·rcases optI_eval hs hl with ⟨rfl,rfl⟩ | ⟨y,k',rfl,hy⟩
  ·simp
  ·have:=bound_run (P:=P) k' l len .sliceB h0 h1 w
   simp [hy,this]
 ·have e1:=fun c=>bound_run (P:=P) k h cap c (by omega) (by omega) w
  rcases optI_eval hs hl with ⟨rfl,rfl⟩ | ⟨y,k',rfl,hy⟩
  ·simp [hx,e1]
  ·have:=bound_run (P:=P) k' l h.toNat .sliceB h0 (by omega) w
   simp [hx,hy,e1,this]
theorem s_sliceS (htab:tabB P tt=true) (hs:Sim P G n b ρ st a w) {t:Nat} {ti:TI} (ht:tget tt t=some ti) (hk:ti.kind = .str) (x:Operand) (lo hi:Option Operand) (ho:o.op = .slice t x lo hi none)
  (hf:fop B st.hp (ev G st.sl) (.sliceS x lo hi)=some r) (hob:r.ob):Sound P G n b ρ st a w o r:=by
 obtain ⟨d,hu,hd⟩:=run_under htab ht
 rw [hk] at hd
 rw [kindB_str hd] at hu
 simp only [fop] at hf
 split at hf
 ·rename_i s e1
  split at hf
  ·rename_i l h hl hh
   injection hf with hf; subst hf
   obtain ⟨h0,h1,h2⟩:=hob
   refine Sound.same hs (v:=.string (s.extract l.toNat h.toNat)) (does_v (s:=Instr.sliceAt t (a.eval x) (lo.map a.eval) (hi.map a.eval) none) (by simp [execOp,ho]) ?_) (DRel.v _ rfl)
   rw [ev_val hs e1]
   have hb:=bounds_run (P:=P) hs false s.size s.size hl hh h0 h1 h2 (Nat.le_refl _)
   simp [Instr.sliceAt,Instr.slice,run_underlying hu,hb]
  ·cases hf
 ·cases hf
theorem s_slice (htab:tabB P tt=true) (hs:Sim P G n b ρ st a w) {t e:Nat} {ti ei:TI} (ht:tget tt t=some ti) (hk:ti.kind = .sl e) (he:tget tt e=some ei) (hpos:0<ei.size) (x:Operand) (lo hi:Option Operand) (ho:o.op = .slice t x lo hi none)
  (hf:fop B st.hp (ev G st.sl) (.slice ei.size x lo hi)=some r) (hob:r.ob):Sound P G n b ρ st a w o r:=by
 obtain ⟨d,hu,hd⟩:=run_under htab ht
 rw [hk] at hd
 rw [kindB_sl hd] at hu
 have key:∀ p len cap (l h:Int),a.eval x = .slice p len cap→optI (lo.map (ev G st.sl)) 0=some l→optI (hi.map (ev G st.sl)) len=some h→0≤l→l≤h→h≤len→len≤cap →
   (execOp a.eval o).run P w = .ok (.value (.slice (if cap=l.toNat then p else p.map (·.add (l.toNat*ei.size))) (h.toNat-l.toNat) (cap-l.toNat))) w:=by
  intro p len cap l h hx hl hh h0 h1 h2 hcap
  refine does_v (s:=Instr.sliceAt t (a.eval x) (lo.map a.eval) (hi.map a.eval) none) (by simp [execOp,ho]) ?_
  rw [hx]
  have hb:=bounds_run (P:=P) hs true len cap hl hh h0 h1 h2 hcap
  simp [Instr.sliceAt,Instr.slice,run_underlying hu,hb,run_size htab he]
 simp only [fop] at hf
 split at hf
 ·rename_i xs e1
  split at hf
  ·rename_i l h hl hh
   injection hf with hf; subst hf
   obtain ⟨h0,h1,h2,h3⟩:=hob
   have h1':=ev_rel hs e1
   generalize hv:a.eval x=v at h1'
   cases h1' with
   | nil p0 c0 =>
    have k:=key p0 0 c0 l h hv hl (by simpa using hh) h0 h1 (by simpa using h2) (Nat.zero_le _)
    have hl0:l.toNat=0:=by simp at h2; omega
    have hh0:h.toNat=0:=by simp at h2; omega
    rw [hl0,hh0] at k
    refine Sound.same hs k ?_
    simp
    exact DRel.nil _ _
   | sl _ b0 off cap sz vs hS hb hcap hszs hcell hrel =>
    have k:=key _ _ _ l h hv hl hh h0 h1 h2 hcap
    refine Sound.same hs k ?_
    have hlen:((xs.take h.toNat).drop l.toNat).length=h.toNat-l.toNat:=by simp; omega
    have hget:∀ (i:Nat) (y:List D),((xs.take h.toNat).drop l.toNat)[i]? = some y→xs[l.toNat+i]? = some y:=by
     intro i y hy
     rw [List.getElem?_drop,List.getElem?_take] at hy
     split at hy
     ·exact hy
     ·cases hy
    show DRel _ _ (.sl ((xs.take h.toNat).drop l.toNat)) _
    by_cases hc:cap=l.toNat
    ·rw [if_pos hc,← hlen]
     have hnil:((xs.take h.toNat).drop l.toNat)=[]:=List.eq_nil_of_length_eq_zero (by rw [hlen]; omega)
     rw [hnil]
     exact DRel.sl [] b0 off _ sz vs hS hb (by simp) (fun i y hy=>by simp at hy) (fun i y j d hy=>by simp at hy) (fun i y j d hy=>by simp at hy)
    ·rw [if_neg hc,Option.map_some,addr_add,← hlen]
     refine DRel.sl _ b0 (off+l.toNat*ei.size) _ sz (fun i j=>vs (l.toNat+i) j) hS hb (by rw [hlen]; omega) (fun i y hy=>hszs _ _ (hget i y hy)) (fun i y j d hy hj=>?_) (fun i y j d hy hj=>hrel _ _ _ _ (hget i y hy) hj)
     have:=hcell _ _ _ _ (hget i y hy) hj
     rw [← this]
     congr 2
     rcases h3 with h3 | h3
     ·rw [h3]; simp
     ·have hm:=h3 _ (List.mem_of_getElem? (hget i y hy))
      rw [hszs _ _ (hget i y hy)] at hm
      rw [← hm,Nat.add_mul]; omega
  ·cases hf
 ·rename_i r0 sz off len e1
  split at hf
  ·rename_i hsz
   subst hsz
   split at hf
   ·rename_i l h hl hh
    injection hf with hf; subst hf
    obtain ⟨h0,h1,h2⟩:=hob
    obtain ⟨hr,hrel⟩:=ev_rel hs e1
    rcases hrel with ⟨rfl,p0,hx⟩ | ⟨b0,cap,e0,n0,hb0,hx,hcap,hshape,hfit⟩
    ·have k:=key p0 0 0 l h hx hl hh h0 h1 h2 (Nat.le_refl _)
     have hl0:l.toNat=0:=by simp at h2; omega
     have hh0:h.toNat=0:=by simp at h2; omega
     rw [hl0,hh0] at k
     refine Sound.same hs k ⟨hr,.inl ⟨by omega,p0,by simp⟩⟩
    ·have k:=key _ len cap l h hx hl hh h0 h1 h2 hcap
     refine Sound.same hs k ⟨hr,?_⟩
     by_cases hc:cap=l.toNat
     ·rw [if_pos hc]
      refine .inl ⟨by omega,some ⟨b0,off*ei.size,none⟩,?_⟩
      congr 1 <;> omega
     ·rw [if_neg hc,Option.map_some,addr_add]
      refine .inr ⟨b0,cap-l.toNat,e0,n0,hb0,by rw [Nat.add_mul],by omega,hshape,?_⟩
      refine Nat.le_trans (Nat.mul_le_mul_right _ ?_) hfit
      omega
   ·cases hf
  ·cases hf
 ·rename_i e1
  split at hf
  ·rename_i l h hl hh
   injection hf with hf; subst hf
   obtain ⟨rfl,rfl⟩:=hob
   have k:=key none 0 0 0 0 (ev_val hs e1) hl (by simpa using hh) (by omega) (by omega) (by simp) (Nat.le_refl _)
   exact Sound.same hs k (DRel.v _ rfl)
  ·cases hf
 ·cases hf
end
structure Fz (H H':List O):Prop where
 len:H'.length=H.length
 each:∀ (r:Nat) o,H[r]? = some o→H'[r]? = some o∨∃ sz xs,o = .row sz xs∧H'[r]? = some (.frow sz xs)
theorem Fz.refl (H:List O):Fz H H:=⟨rfl,fun _ _ h=>.inl h⟩
theorem Fz.trans {A B C:List O} (h:Fz A B) (k:Fz B C):Fz A C:=⟨k.len.trans h.len,fun r o ho=>by
 rcases h.each r o ho with h1 | ⟨sz,xs,rfl,h1⟩
 ·exact k.each r o h1
 ·rcases k.each r _ h1 with h2 | ⟨_,_,h2,_⟩
  ·exact .inr ⟨sz,xs,rfl,h2⟩
  ·cases h2⟩
theorem Fz.set {H:List O} {r sz:Nat} {xs:List (List D)} (h:H[r]? = some (.row sz xs)):Fz H (H.set r (.frow sz xs)):=by
 refine ⟨by simp,fun r' o ho=>?_⟩
 by_cases e:r'=r
 ·subst e
  rw [ho] at h; injection h with h; subst h
  exact .inr ⟨sz,xs,rfl,by rw [List.getElem?_set_self (lt_of_get ho)]⟩
 ·exact .inl (by rw [List.getElem?_set_ne (fun x=>e x.symm)]; exact ho)
theorem frz1_fz (H:List O) (c:C):Fz H (frz1 H c):=by
 unfold frz1
 split
 ·split
  ·rename_i h; exact .set h
  ·exact .refl _
 ·exact .refl _
theorem frz_fz:∀ (cs:List C) (H:List O),Fz H (frz H cs)
 | [],H=>.refl _
 | c :: r,H=>(frz1_fz H c).trans (frz_fz r _)
theorem Fz.frow {H H':List O} (h:Fz H H') {r sz:Nat} {xs:List (List D)} (hr:H[r]? = some (.frow sz xs)):H'[r]? = some (.frow sz xs):=by
 rcases h.each r _ hr with h1 | ⟨_,_,h1,_⟩
 ·exact h1
 ·cases h1
theorem Fz.other {H H':List O} (h:Fz H H') {r:Nat} {o:O} (hr:H[r]? = some o) (hn:∀ sz xs,o≠.row sz xs):H'[r]? = some o:=by
 rcases h.each r _ hr with h1 | ⟨_,_,h1,_⟩
 ·exact h1
 ·exact absurd h1 (hn _ _)
theorem frz_os:∀ (cs:List C) (H:List O) (r sz off len:Nat) (sz':Nat) (xs:List (List D)),C.os r sz off len∈cs→(H[r]? = some (.row sz' xs)∨H[r]? = some (.frow sz' xs))→(frz H cs)[r]? = some (.frow sz' xs)
 | [],_,_,_,_,_,_,_,h,_=>by cases h
 | c :: rest,H,r,sz,off,len,sz',xs,h,hr=>by
  simp only [frz]
  rcases List.mem_cons.1 h with rfl | h
  ·apply (frz_fz rest _).frow
   rcases hr with hr | hr
   ·simp only [frz1,hr]
    rw [List.getElem?_set_self (lt_of_get hr)]
   ·simp only [frz1,hr]
  ·refine frz_os rest _ r sz off len sz' xs h ?_
   rcases hr with hr | hr
   ·rcases (frz1_fz H c).each r _ hr with h1 | ⟨s2,x2,h1,h2⟩
    ·exact .inl h1
    ·injection h1 with e1 e2; subst e1; subst e2; exact .inr h2
   ·exact .inr ((frz1_fz H c).frow hr)
section
variable {P:Program} {ρ:Nat→Option Nat} {w:World}
theorem frz1_rel {H:List O} (h:HRel P ρ H w) (c:C):HRel P ρ (frz1 H c) w∧(ctx ρ H w).le (ctx ρ (frz1 H c) w):=by
 unfold frz1
 split
 ·split
  ·rename_i hr; exact ⟨h.freeze hr,le_drop _ _ rfl⟩
  ·exact ⟨h,.refl _⟩
 ·exact ⟨h,.refl _⟩
theorem frz_rel:∀ (cs:List C) {H:List O} (h:HRel P ρ H w),HRel P ρ (frz H cs) w∧(ctx ρ H w).le (ctx ρ (frz H cs) w)
 | [],H,h=>⟨h,.refl _⟩
 | c :: r,H,h=>by
  obtain ⟨h1,l1⟩:=frz1_rel h c
  obtain ⟨h2,l2⟩:=frz_rel r h1
  exact ⟨h2,l1.trans l2⟩
theorem cell_heap {b:Nat} {c:Array Value} {e:TypeId} {fz:Nat×Nat} (h:w.heap[b]? = some (.cells c e fz)) (o:Nat):w.cell? ⟨b,o,none⟩=c[o]? := by
 simp [World.cell?,h]
theorem frow_data {H:List O} (h:HRel P ρ H w) {r sz off len:Nat} {xs:List (List D)} (hr:H[r]? = some (.frow sz xs)) (hin:off+len≤xs.length) {v:Value} (hv:CRel P (ctx ρ H w) (.os r sz off len) v) :
  DRel (stab ρ H w) w (.sl ((xs.drop off).take len)) v:=by
 obtain ⟨hrn,hv⟩:=hv
 rcases hv with ⟨rfl,p,rfl⟩ | ⟨b,cap,e,n,hb,rfl,hcap,hshape,hfit⟩
 ·simp; exact .nil p 0
 ·obtain ⟨hpos,ho⟩:=h.objs r _ hr
  have hb':ρ r=some b:=hb
  rcases ho with ⟨h1,_⟩ | ⟨a,c,e',fz,h1,hS,h2,h3⟩
  ·rw [hb'] at h1; cases h1
  ·rw [hb'] at h1; injection h1 with h1; subst h1
   have h2':w.heap[b]? = some (.cells c e' fz):=h2
   have hlen:len≤(xs.drop off).length:=by rw [List.length_drop]; omega
   ·have hl:((xs.drop off).take len).length=len:=by rw [List.length_take]; omega
    have hget:∀ (i:Nat) (y:List D),((xs.drop off).take len)[i]? = some y→xs[off+i]? = some y:=by
     intro i y hy
     rw [List.getElem?_take] at hy
     split at hy
     ·rw [List.getElem?_drop] at hy; exact hy
     ·cases hy
    have key:=DRel.sl (S:=stab ρ H w) (w:=w) ((xs.drop off).take len) b (off*sz) cap sz (fun i j=>(c[(off+i)*sz+j]?).getD undef) hS (h.small r b hb').2 (by rw [hl]; exact hcap)
     (fun i y hy=>h3.2.1 y (List.mem_of_getElem? (hget i y hy)))
     (fun i y j d hy hj=>by
      obtain ⟨u,hu,_⟩:=h3.2.2 _ y j d (hget i y hy) hj
      rw [cell_heap h2',show off*sz+i*sz+j=(off+i)*sz+j by rw [Nat.add_mul],hu]; rfl)
     (fun i y j d hy hj=>by
      obtain ⟨u,hu,hd⟩:=h3.2.2 _ y j d (hget i y hy) hj
      rw [hu]; exact hd)
    rw [hl] at key
    exact key
theorem toD_rel {H H':List O} (h:HRel P ρ H' w) {c:C} (hz:∀ r sz off len sz' xs,c=C.os r sz off len→(H[r]? = some (.row sz' xs)∨H[r]? = some (.frow sz' xs))→H'[r]? = some (.frow sz' xs))
  {d:D} (hd:toD H c=some d) {v:Value} (hv:CRel P (ctx ρ H' w) c v):DRel (stab ρ H' w) w d v:=by
 unfold toD at hd
 split at hd
 ·rename_i k
  injection hd with hd; subst hd
  have:=drel_v hv
  subst this
  exact .nil none k
 ·rename_i x _
  injection hd with hd; subst hd
  exact hv
 ·rename_i r sz off len
  split at hd
  ·rename_i sz' xs hr
   split at hd
   ·rename_i hc
    injection hd with hd; subst hd
    obtain ⟨rfl,hin⟩:=hc
    exact frow_data h (hz _ _ _ _ _ _ rfl (.inl hr)) hin hv
   ·cases hd
  ·rename_i sz' xs hr
   split at hd
   ·rename_i hc
    injection hd with hd; subst hd
    obtain ⟨rfl,hin⟩:=hc
    exact frow_data h (hz _ _ _ _ _ _ rfl (.inr hr)) hin hv
   ·cases hd
  ·cases hd
 ·cases hd
theorem toDs_rel {H H':List O} (h:HRel P ρ H' w):∀ {cs:List C} (hz:∀ c∈cs,∀ r sz off len sz' xs,c=C.os r sz off len→(H[r]? = some (.row sz' xs)∨H[r]? = some (.frow sz' xs))→H'[r]? = some (.frow sz' xs))
  {ds:List D} (hd:toDs H cs=some ds),ds.length=cs.length∧∀ (i:Nat) c d,cs[i]? = some c→ds[i]? = some d→∀ v,CRel P (ctx ρ H' w) c v→DRel (stab ρ H' w) w d v
 | [],_,ds,hd=>by
  simp only [toDs,Option.some.injEq] at hd
  subst hd
  exact ⟨rfl,fun i c d hc=>by simp at hc⟩
 | c :: cs,hz,ds,hd=>by
  simp only [toDs] at hd
  split at hd
  ·rename_i d ds' h1 h2
   injection hd with hd; subst hd
   obtain ⟨g1,g2⟩:=toDs_rel h (fun c hc=>hz c (List.mem_cons_of_mem _ hc)) h2
   refine ⟨by simp [g1],fun i c' d' hc hd' v hv=>?_⟩
   cases i with
   | zero =>
    simp at hc hd'
    subst hc; subst hd'
    exact toD_rel h (hz c List.mem_cons_self) h1 hv
   | succ i=>exact g2 i c' d' (by simpa using hc) (by simpa using hd') v hv
  ·cases hd
theorem frz_hz (H:List O) (cs:List C):∀ c∈cs,∀ r sz off len sz' xs,c=C.os r sz off len→(H[r]? = some (.row sz' xs)∨H[r]? = some (.frow sz' xs))→(frz H cs)[r]? = some (.frow sz' xs) :=
 fun c hc r sz off len sz' xs e hr=>frz_os cs H r sz off len sz' xs (e▸hc) hr
end
section
variable {P:Program} {G:Gl} {n:Nat} {b:Base} {ρ:Nat→Option Nat} {st:St} {a:Act} {w:World} {B:Nat} {r:R} {o:Oper} {tt:TT}
theorem row_cells {H:List O} (h:HRel P ρ H w) {r sz:Nat} {xs:List (List D)} (hr:H[r]? = some (.row sz xs)∨H[r]? = some (.frow sz xs)) {b0:Nat} (hb:ρ r=some b0) :
  ∃ c e fz,w.heap[b0]? = some (.cells c e fz)∧RowRel (stab ρ H w) w c sz xs:=by
 rcases hr with hr | hr
 ·obtain ⟨hpos,ho⟩:=h.objs r _ hr
  rcases ho with ⟨h1,_⟩ | ⟨a,c,e',h1,h2,h3⟩
  ·rw [hb] at h1; cases h1
  ·rw [hb] at h1; injection h1 with h1; subst h1
   exact ⟨c,e',(0,0),h2,h3⟩
 ·obtain ⟨hpos,ho⟩:=h.objs r _ hr
  rcases ho with ⟨h1,_⟩ | ⟨a,c,e',fz,h1,hS,h2,h3⟩
  ·rw [hb] at h1; cases h1
  ·rw [hb] at h1; injection h1 with h1; subst h1
   exact ⟨c,e',fz,h2,h3⟩
theorem s_load (htab:tabB P tt=true) (hs:Sim P G n b ρ st a w) {t:Nat} {ti:TI} (ht:tget tt t=some ti) (hsz:ti.agg=false→ti.size=1) (x:Operand) (ho:o.op = .load t x)
  (hf:fop B st.hp (ev G st.sl) (.load ti.agg ti.size x)=some r) (hob:r.ob):Sound P G n b ρ st a w o r:=by
 have key:∀ b0 o0,a.eval x = .pointer (some ⟨b0,o0,none⟩)→∀ cs:List C,cs.length=ti.size →
   (∀ j,j<ti.size→∃ u,w.cell? ⟨b0,o0+j,none⟩=some u∧∀ c,cs[j]? = some c→CRel P (ctx ρ st.hp w) c u) →
   ∃ v,(execOp a.eval o).run P w = .ok (.value v) w∧TRel P (ctx ρ st.hp w) (valOf ti.agg cs) v:=by
  intro b0 o0 hx cs hlen hc
  obtain ⟨v,vs,h1,h2,h3,h4⟩:=load_var (P:=P) htab ht hsz b0 o0 (fun j hj=>let ⟨u,hu,_⟩:=hc j hj; ⟨u,hu⟩)
  refine ⟨v,does_v (s:=Instr.loadAt t (a.eval x)) (by simp [execOp,ho]) ?_,valOf_rel hsz h4 hlen (by omega) (fun i c u hi hu=>?_)⟩
  ·rw [hx]; simp [Instr.loadAt,Instr.sureAddr,h1]
  ·have hlt:i<ti.size:=by rw [← hlen]; exact lt_of_get hi
   obtain ⟨u',hu',hr'⟩:=hc i hlt
   rw [h3 i hlt,hu] at hu'
   injection hu' with hu'; subst hu'
   exact hr' c hi
 have rowkey:∀ r0 sz i off xs,ev G st.sl x = .v (.c (.eptr r0 sz i off))→(st.hp[r0]? = some (.row sz xs)∨st.hp[r0]? = some (.frow sz xs))→off+ti.size≤sz→i<xs.length →
   ∃ v,(execOp a.eval o).run P w = .ok (.value v) w∧TRel P (ctx ρ st.hp w) (valOf ti.agg ((((nth xs i).drop off).take ti.size).map .d)) v:=by
  intro r0 sz i off xs e1 hr hle hi
  obtain ⟨_,b0,hb0,hx⟩:=ev_rel hs e1
  obtain ⟨c,e,fz,hh,hrow⟩:=row_cells hs.heap hr (b0:=b0) hb0
  have hg:=nth_get hi
  have hl:(nth xs i).length=sz:=hrow.2.1 _ (List.mem_of_getElem? hg)
  refine key b0 (i*sz+off) hx _ (by simp [hl]; omega) (fun j hj=>?_)
  have hlt:off+j<(nth xs i).length:=by omega
  obtain ⟨u,hu,hd⟩:=hrow.2.2 i _ (off+j) (nth xs i)[off+j] hg (by simp [hlt])
  refine ⟨u,by rw [cell_heap hh,Nat.add_assoc]; exact hu,fun c' hc'=>?_⟩
  rw [List.getElem?_map,List.getElem?_take,if_pos hj,List.getElem?_drop] at hc'
  simp [hlt] at hc'
  subst hc'
  exact hd
 simp only [fop] at hf
 split at hf
 ·rename_i r0 off e1
  split at hf
  ·rename_i cs hcs
   split at hf
   ·rename_i hle
    injection hf with hf; subst hf
    obtain ⟨_,b0,hb0,hx⟩:=ev_rel hs e1
    obtain ⟨a0,c,e,h1,h2,h3⟩:=hs.heap.objs r0 _ hcs
    have hb0':ρ r0=some b0:=hb0
    rw [hb0'] at h1; injection h1 with h1; subst h1
    have h2':w.heap[b0]? = some (.cells c e (0,0)):=h2
    obtain ⟨v,hv,hr⟩:=key b0 off hx ((cs.drop off).take ti.size) (by simp; omega) (fun j hj=>by
     have hlt:off+j<c.size:=by rw [h3.1]; omega
     refine ⟨c[off+j],by rw [cell_heap h2']; simp [hlt],fun c' hc'=>?_⟩
     rw [List.getElem?_take,if_pos hj,List.getElem?_drop] at hc'
     exact h3.2 _ c' _ hc' (by simp [hlt]))
    exact Sound.same hs hv hr
   ·cases hf
  ·cases hf
 ·rename_i r0 sz i off e1
  split at hf
  ·rename_i sz' xs hcs
   split at hf
   ·rename_i hle
    obtain ⟨rfl,hle⟩:=hle
    injection hf with hf; subst hf
    obtain ⟨v,hv,hr⟩:=rowkey _ _ _ _ xs e1 (.inl hcs) hle hob
    exact Sound.same hs hv hr
   ·cases hf
  ·rename_i sz' xs hcs
   split at hf
   ·rename_i hle
    obtain ⟨rfl,hle⟩:=hle
    injection hf with hf; subst hf
    obtain ⟨v,hv,hr⟩:=rowkey _ _ _ _ xs e1 (.inr hcs) hle hob
    exact Sound.same hs hv hr
   ·cases hf
  ·cases hf
 ·rename_i cs e1
  injection hf with hf; subst hf
  obtain ⟨b0,off,hS,hb,hx,hc⟩:=drel_ip (ev_rel hs e1)
  have hle:ti.size≤cs.length:=hob
  obtain ⟨v,hv,hr⟩:=key b0 off hx ((cs.take ti.size).map .d) (by simp; omega) (fun j hj=>by
   have hlt:j<cs.length:=by omega
   obtain ⟨u,hu,hd⟩:=hc j cs[j] (by simp [hlt])
   refine ⟨u,hu,fun c' hc'=>?_⟩
   rw [List.getElem?_map,List.getElem?_take,if_pos hj] at hc'
   simp [hlt] at hc'
   subst hc'
   exact hd)
  exact Sound.same hs hv hr
 ·cases hf
theorem Sound.push (hs:Sim P G n b ρ st a w) {j:Nat} (hj:st.hp[B+j]? = some .hole) {p:Prop} {ob:O} {ov:Obj} {v:Value} {t:T}
  (h:(execOp a.eval o).run P w = .ok (.value v) (pushO w ov))
  (ho:∀ k,(ctx ρ st.hp w).le k→k.w=pushO w ov→ORel P k (some w.heap.size) ob)
  (ht:∀ k:K,k.ρ (B+j)=some w.heap.size→B+j<k.N→(pushO w ov)=k.w→TRel P k t v):Sound P G n b ρ st a w o ⟨p,t,st.hp.set (B+j) ob⟩ :=
 ⟨v,pushO w ov,upd ρ (B+j) w.heap.size,.inl h,hs.heap.alloc hj ov ob (ho _ (hs.heap.le_alloc hj ov ob) rfl),hs.heap.le_alloc hj ov ob,
  ht _ (upd_same _ _ _) (by simpa [ctx] using lt_of_get hj) rfl⟩
theorem s_box (hs:Sim P G n b ρ st a w) (j t:Nat) (x:Operand) (ho:o.op = .box t x)
  (hf:fop B st.hp (ev G st.sl) (.box j x)=some r):Sound P G n b ρ st a w o r:=by
 simp only [fop] at hf
 split at hf
 ·rename_i u e1 hj
  split at hf
  ·rename_i hk
   injection hf with hf; subst hf
   have hrel:VRel P (ctx ρ st.hp w) u (a.eval x):=ev_rel hs e1
   have hc:=vrel_cells hrel hk
   refine Sound.push hs hj (ov:=.cells (a.eval x).cells t (0,0)) (v:=.pointer (some ⟨w.heap.size,0,none⟩)) ?_ (fun k hle hkw=>?_) (fun k h1 h2 h3=>⟨h2,_,h1,rfl⟩)
   ·refine does_v (s:=Instr.box t (a.eval x)) (by simp [execOp,ho]) ?_
    rfl
   ·refine ⟨w.heap.size,(a.eval x).cells,t,rfl,?_,hc.mono hle⟩
    rw [hkw]; exact push_at _ _
  ·cases hf
 ·cases hf
theorem zero_rel {k:K} {zs:List Value} (hone:∀ x∈zs,x.oneCell'=true) (vs:Array Value) (hv:vs.toList=zs):CsRel P k ((zs.map D.v).map C.d) vs:=by
 subst hv
 refine ⟨by simp,fun i c v hc hv=>?_⟩
 rw [List.getElem?_map,List.getElem?_map,Array.getElem?_toList,hv] at hc
 simp at hc
 subst hc
 exact DRel.v _ (hone v (List.mem_of_getElem? (by rw [Array.getElem?_toList]; exact hv)))
theorem zero_one (htab:tabB P tt=true) {t:Nat} {ti:TI} (ht:tget tt t=some ti):∀ x∈ti.zero,x.oneCell'=true:=by
 obtain ⟨i,z,_,_,_,_,_,_,_,h⟩:=(tab_ok htab ht).info
 exact h
theorem s_zero (htab:tabB P tt=true) (hs:Sim P G n b ρ st a w) {t:Nat} {ti:TI} (ht:tget tt t=some ti) (j:Nat) (ho:o.op = .alloc t)
  (hf:fop B st.hp (ev G st.sl) (.zero j (ti.zero.map .v))=some r):Sound P G n b ρ st a w o r:=by
 obtain ⟨z,hz,hzl,_⟩:=run_zero htab ht w
 simp only [fop] at hf
 split at hf
 ·rename_i hj
  injection hf with hf; subst hf
  refine Sound.push hs hj (ov:=.cells z.cells t (0,0)) (v:=.pointer (some ⟨w.heap.size,0,none⟩)) ?_ (fun k hle hkw=>?_) (fun k h1 h2 h3=>⟨h2,_,h1,rfl⟩)
  ·refine does_v (s:=Instr.alloc t true (.tuple #[])) (by simp [execOp,ho]) ?_
   simp only [Instr.alloc,Sem.run_bind,hz,Result.andThen_ok]
   rfl
  ·refine ⟨w.heap.size,z.cells,t,rfl,?_,zero_rel (zero_one htab ht) _ hzl⟩
   rw [hkw]; exact push_at _ _
 ·cases hf
theorem s_mkmap (htab:tabB P tt=true) (hs:Sim P G n b ρ st a w) (j t:Nat) (kt:KT) (ho:o.op = .makeMap t none)
  (hf:fop B st.hp (ev G st.sl) (.mkmap j kt)=some r):Sound P G n b ρ st a w o r:=by
 simp only [fop] at hf
 split at hf
 ·rename_i hj
  injection hf with hf; subst hf
  refine Sound.push hs hj (ov:=.map #[] 0) (v:=.map (some w.heap.size)) ?_ (fun k hle hkw=>?_) (fun k h1 h2 h3=>⟨h2,_,h1,rfl⟩)
  ·refine does_v (s:=Instr.makeMap t none) (by simp [execOp,ho]) ?_
   rfl
  ·refine ⟨(fun p hp=>by cases hp),w.heap.size,#[],0,rfl,?_,rfl,(fun i ky pv e hi=>by simp at hi),⟨fun e he=>by simp at he,by simp⟩⟩
   rw [hkw]; exact push_at _ _
 ·cases hf
end
section
variable {P:Program} {G:Gl} {n:Nat} {b:Base} {ρ:Nat→Option Nat} {st:St} {a:Act} {w:World} {B:Nat} {r:R} {o:Oper} {tt:TT}
theorem does_u {s:Sem Unit} {w':World} (he:execOp a.eval o=(do s; pure .skip)) (hr:s.run P w = .ok () w'):(execOp a.eval o).run P w = .ok .skip w':=by
 rw [he]; simp [hr]
theorem csrel_splice {k:K} {cs:List C} {c:Array Value} (h:CsRel P k cs c) {us:List C} {vs:Array Value} (hu:CsRel P k us vs) {off:Nat} (hle:off+us.length≤cs.length) :
  CsRel P k (splice cs off us) (splice c.toList off vs.toList).toArray:=by
 have hl:vs.toList.length=us.length:=by simpa using hu.1
 have hcl:c.toList.length=cs.length:=by simpa using h.1
 refine csrel_list (by rw [splice_length _ _ _ (by omega),splice_length _ _ _ hle,hcl]) (fun i x v hx hv=>?_)
 rw [splice_get _ _ _ _ hle] at hx
 rw [splice_get _ _ _ _ (by omega),hl] at hv
 split at hx
 ·rename_i hi
  rw [if_pos hi] at hv
  exact hu.2 _ x v hx (by simpa using hv)
 ·rename_i hi
  rw [if_neg hi] at hv
  exact h.2 _ x v hx (by simpa using hv)
theorem csrel_one {k:K} {cs:List C} {vs:Array Value} (h:CsRel P k cs vs):∀ v∈vs.toList,v.oneCell'=true:=by
 intro v hv
 obtain ⟨i,hi⟩:=List.getElem?_of_mem hv
 have hlt:i<cs.length:=by rw [← h.1]; simpa using lt_of_get hi
 have hc:cs[i]? = some cs[i]:=by simp [hlt]
 exact crel_one (h.2 i _ v hc (by simpa using hi))
theorem row_split {i i' sz j:Nat} (hj:j<sz) (h:i'≠i) {off m:Nat} (hm:off+m≤sz):¬ (i*sz+off≤i'*sz+j∧i'*sz+j<i*sz+off+m):=by
 rintro ⟨h1,h2⟩
 rcases Nat.lt_or_gt_of_ne h with h3 | h3
 ·have:(i'+1)*sz≤i*sz:=Nat.mul_le_mul_right _ h3
  rw [Nat.add_mul] at this; omega
 ·have:(i+1)*sz≤i'*sz:=Nat.mul_le_mul_right _ h3
  rw [Nat.add_mul] at this; omega
theorem row_fits {i sz l:Nat} (h:i<l):i*sz+sz≤l*sz:=by
 have:(i+1)*sz≤l*sz:=Nat.mul_le_mul_right _ h
 rw [Nat.add_mul] at this; omega
theorem rowrel_splice {S:Nat→Prop} {c:Array Value} {sz:Nat} {xs:List (List D)} (h:RowRel S w c sz xs) {i off:Nat} (hi:i<xs.length) {ds:List D} {vs:Array Value}
  (hd:DsRel S w ds vs) (hle:off+ds.length≤sz):RowRel S w (splice c.toList (i*sz+off) vs.toList).toArray sz (xs.set i (splice (nth xs i) off ds)):=by
 have hg:=nth_get hi
 have hl:(nth xs i).length=sz:=h.2.1 _ (List.mem_of_getElem? hg)
 have hvl:vs.toList.length=ds.length:=by simpa using hd.1
 have hfit:=row_fits (sz:=sz) hi
 have hcs:i*sz+off+vs.toList.length≤c.toList.length:=by rw [hvl]; have:=h.1; simp; omega
 refine ⟨?_,fun x hx=>?_,fun i' x j d hx hj=>?_⟩
 ·simp only [List.length_set,List.size_toArray]
  rw [splice_length _ _ _ hcs]; simpa using h.1
 ·obtain ⟨k,hk⟩:=List.getElem?_of_mem hx
  rcases getElem?_set' _ _ _ _ _ hk with ⟨rfl,rfl⟩ | ⟨_,hk'⟩
  ·rw [splice_length _ _ _ (by omega),hl]
  ·exact h.2.1 x (List.mem_of_getElem? hk')
 ·simp only [List.getElem?_toArray]
  rcases getElem?_set' _ _ _ _ _ hx with ⟨rfl,rfl⟩ | ⟨hne,hx'⟩
  ·rw [splice_get _ _ _ _ (by omega)] at hj
   rw [splice_get _ _ _ _ hcs,hvl]
   split at hj
   ·rename_i hb
    rw [if_pos (by omega),show i'*sz+j-(i'*sz+off)=j-off by omega]
    have hlt:j-off<vs.size:=by rw [hd.1]; omega
    exact ⟨vs[j-off],by simp [hlt],hd.2 _ d _ hj (by simp [hlt])⟩
   ·rename_i hb
    rw [if_neg (by omega)]
    obtain ⟨u,hu,hdu⟩:=h.2.2 i' _ j d hg hj
    exact ⟨u,by simpa using hu,hdu⟩
  ·have hxl:x.length=sz:=h.2.1 x (List.mem_of_getElem? hx')
   have hjl:j<sz:=by rw [← hxl]; exact lt_of_get hj
   rw [splice_get _ _ _ _ hcs,hvl,if_neg (row_split hjl hne hle)]
   obtain ⟨u,hu,hdu⟩:=h.2.2 i' x j d hx' hj
   exact ⟨u,by simpa using hu,hdu⟩
theorem dsrel_of {H:List O} (h:HRel P ρ H w) {cs:List C} {vs:Array Value} (hc:CsRel P (ctx ρ H w) cs vs) {ds:List D} (hd:toDs H cs=some ds):DsRel (stab ρ (frz H cs) w) w ds vs∧ds.length=cs.length:=by
 obtain ⟨h1,l1⟩:=frz_rel cs h
 obtain ⟨g1,g2⟩:=toDs_rel h1 (frz_hz H cs) hd
 refine ⟨⟨by rw [hc.1,g1],fun i d v hdi hv=>?_⟩,g1⟩
 have hlt:i<cs.length:=by rw [← g1]; exact lt_of_get hdi
 have hci:cs[i]? = some cs[i]:=by simp [hlt]
 exact g2 i _ d hci hdi v ((hc.2 i _ v hci hv).mono l1)
theorem s_store (htab:tabB P tt=true) (hs:Sim P G n b ρ st a w) {t:Nat} {ti:TI} (ht:tget tt t=some ti) (x y:Operand) (ho:o.op = .store t x y)
  (hf:fop B st.hp (ev G st.sl) (.store ti.size x y)=some r) (hob:r.ob):Sound P G n b ρ st a w o r:=by
 have key:∀ b0 o0 c e,a.eval x = .pointer (some ⟨b0,o0,none⟩)→w.heap[b0]? = some (.cells c e (0,0))→o0+(a.eval y).cells.size≤c.size→(∀ v∈(a.eval y).cells.toList,v.oneCell'=true)→(a.eval y).cells.size=ti.size →
   (execOp a.eval o).run P w = .ok .skip (setB w b0 (.cells (splice c.toList o0 (a.eval y).cells.toList).toArray e (0,0))):=by
  intro b0 o0 c e hx hh hle hone hsize
  refine does_u (s:=Instr.storeAt t (a.eval x) (a.eval y)) (by simp [execOp,ho]) ?_
  rw [hx]
  have h1:=store_cells (P:=P) b0 o0 e (a.eval y).cells.toList 0 w c hh (by simpa using hle) hone
  rw [Nat.add_zero] at h1
  simp only [Instr.storeAt,Instr.sureAddr,Sem.run_bind,Sem.run_pure,Result.andThen_ok,storeVar,run_size htab ht,hsize,ne_eq,not_true_eq_false,if_false,h1]
 simp only [fop] at hf
 split at hf
 ·rename_i r0 off u e1 e2
  split at hf
  ·rename_i cs hcs
   split at hf
   ·rename_i hc
    obtain ⟨hk,hle,hlen⟩:=hc
    injection hf with hf; subst hf
    obtain ⟨_,b0,hb0,hx⟩:=ev_rel hs e1
    have hu:VRel P (ctx ρ st.hp w) u (a.eval y):=ev_rel hs e2
    have huc:=vrel_cells hu hk
    obtain ⟨a0,c,e,h1,h2,h3⟩:=hs.heap.objs r0 _ hcs
    have hb0':ρ r0=some b0:=hb0
    rw [hb0'] at h1; injection h1 with h1; subst h1
    have h2':w.heap[b0]? = some (.cells c e (0,0)):=h2
    have hrun:=key b0 off c e hx h2' (by rw [huc.1,h3.1,hlen]; exact hle) (csrel_one huc) (by rw [huc.1,hlen])
    have hnew:=csrel_splice h3 huc (off:=off) (by omega)
    have hshape:Obj.shape (.cells (splice c.toList off (a.eval y).cells.toList).toArray e (0,0))=Obj.shape (.cells c e (0,0)):=by
     simp only [Obj.shape,Option.some.injEq,Prod.mk.injEq,true_and]
     rw [List.size_toArray,splice_length _ _ _ (by have:=huc.1; have:=h3.1; simp; omega)]; simp
    have hle':=HRel.le_setB (w:=w) hcs rfl hb0' h2' hshape (.cells (splice cs off u.cells)) rfl
    refine ⟨undef,_,ρ,.inr ⟨rfl,hrun⟩,hs.heap.setB hcs rfl hb0' h2' hshape _ rfl ?_,hle',trivial⟩
    exact ⟨b0,_,e,rfl,setB_same _ _ _ (hs.heap.small r0 b0 hb0').2,hnew.mono hle'⟩
   ·cases hf
  ·cases hf
 ·rename_i r0 sz i off u e1 e2
  split at hf
  ·rename_i ds hds
   split at hf
   ·rename_i sz' xs hcs
    split at hf
    ·rename_i hc
     obtain ⟨hk,rfl,hle,hlen⟩:=hc
     injection hf with hf; subst hf
     have hi:i<xs.length:=hob
     obtain ⟨_,b0,hb0,hx⟩:=ev_rel hs e1
     have hu:VRel P (ctx ρ st.hp w) u (a.eval y):=ev_rel hs e2
     have huc:=vrel_cells hu hk
     obtain ⟨hH,l1⟩:=frz_rel u.cells hs.heap
     obtain ⟨hD,hdl⟩:=dsrel_of hs.heap huc hds
     obtain ⟨hpos,hor⟩:=hH.objs r0 _ hcs
     have hb0':ρ r0=some b0:=hb0
     rcases hor with ⟨h1,_⟩ | ⟨a0,c,e,h1,h2,h3⟩
     ·rw [hb0'] at h1; cases h1
     ·rw [hb0'] at h1; injection h1 with h1; subst h1
      have h2':w.heap[b0]? = some (.cells c e (0,0)):=h2
      have hfit:=row_fits (sz:=sz') hi
      have hcsz:=h3.1
      have hcsl:(a.eval y).cells.size=ds.length:=hD.1
      have hrun:=key b0 (i*sz'+off) c e hx h2' (by omega) (csrel_one huc) (by rw [hcsl,hlen])
      have hnew:=rowrel_splice h3 hi hD (off:=off) (by omega)
      have hshape:Obj.shape (.cells (splice c.toList (i*sz'+off) (a.eval y).cells.toList).toArray e (0,0))=Obj.shape (.cells c e (0,0)):=by
       simp only [Obj.shape,Option.some.injEq,Prod.mk.injEq,true_and]
       rw [List.size_toArray,splice_length _ _ _ (by simp; omega)]; simp
      have hle':=HRel.le_setB (w:=w) hcs rfl hb0' h2' hshape (.row sz' (xs.set i (splice (nth xs i) off ds))) rfl
      refine ⟨undef,_,ρ,.inr ⟨rfl,hrun⟩,hH.setB hcs rfl hb0' h2' hshape _ rfl ?_,l1.trans hle',trivial⟩
      exact ⟨hpos,.inr ⟨b0,_,e,rfl,setB_same _ _ _ (hs.heap.small r0 b0 hb0').2,hnew.mono hle'.step⟩⟩
    ·cases hf
   ·cases hf
  ·cases hf
 ·cases hf
end
section
variable {P:Program} {G:Gl} {n:Nat} {b:Base} {ρ:Nat→Option Nat} {st:St} {a:Act} {w:World} {B:Nat} {r:R} {o:Oper} {tt:TT}
theorem run_mapM {α β:Type} (f:α→Sem β) (g:α→β) (w:World):∀ (l:List α),(∀ x∈l,(f x).run P w = .ok (g x) w)→(l.mapM f).run P w = .ok (l.map g) w
 | [],_=>by simp
 | x :: l,h=>by
  simp only [List.mapM_cons,Sem.run_bind,h x List.mem_cons_self,Result.andThen_ok,run_mapM f g w l (fun y hy=>h y (List.mem_cons_of_mem _ hy)),Sem.run_pure,List.map_cons]
theorem fill_one (cells:Array Value) (off:Nat) (v:Value) (h:off+v.cells.size≤cells.size) :
  v.cells.zipIdx.foldl (fun cs (x:Value×Nat)=>match x with | (c,j)=>cs.setIfInBounds (off+j) c) cells=(splice cells.toList off v.cells.toList).toArray:=by
 have h2:=fold_set v.cells.toList 0 off cells (by simpa using h)
 rw [Nat.add_zero] at h2
 rw [← h2,← Array.foldl_toList,Array.toList_zipIdx]
theorem fillC_rel (hs:Sim P G n b ρ st a w) (place:Nat→Option (Nat×Nat)):∀ (parts:List (Nat×Operand)) (ps:List (Nat×Nat×Operand)) (hps:ps.length=parts.length)
  (hp:∀ (k:Nat) i x,parts[k]? = some (i,x)→∃ off sz,ps[k]? = some (off,sz,x)∧place i=some (off,sz)) (cs cs':List C) (arr:Array Value),
  CsRel P (ctx ρ st.hp w) cs arr→fillC cs (ps.map fun p=>(p.1,p.2.1,ev G st.sl p.2.2))=some cs' →
  ∃ arr',Instr.fill place arr (parts.map fun p=>(p.1,a.eval p.2))=some arr'∧CsRel P (ctx ρ st.hp w) cs' arr'∧cs'.length=cs.length
 | [],ps,hps,hp,cs,cs',arr,hc,hf=>by
  have:ps=[]:=by simpa using hps
  subst this
  simp only [List.map_nil,fillC,Option.some.injEq] at hf
  subst hf
  exact ⟨arr,by simp [Instr.fill],hc,rfl⟩
 | (i,x) :: parts,ps,hps,hp,cs,cs',arr,hc,hf=>by
  obtain ⟨off,sz,h1,h2⟩:=hp 0 i x rfl
  cases ps with
  | nil=>simp at hps
  | cons p ps =>
   simp at h1
   subst h1
   simp only [List.map_cons] at hf
   generalize he:ev G st.sl x=t at hf
   cases t with
   | tup vs=>simp [fillC] at hf
   | v u =>
    simp only [fillC] at hf
    split at hf
    ·rename_i hcnd
     obtain ⟨hk,hlen,hle⟩:=hcnd
     have hu:VRel P (ctx ρ st.hp w) u (a.eval x):=ev_rel hs he
     have huc:=vrel_cells hu hk
     have hnew:=csrel_splice hc huc (off:=off) (by omega)
     have hsz:(a.eval x).cells.size=sz:=by rw [huc.1,hlen]
     obtain ⟨arr',g1,g2,g3⟩:=fillC_rel hs place parts ps (by simpa using hps) (fun k i' x' hk'=>by
      obtain ⟨off',sz',q1,q2⟩:=hp (k+1) i' x' (by simpa using hk')
      exact ⟨off',sz',by simpa using q1,q2⟩) _ cs' _ hnew hf
     have hca:=hc.1
     refine ⟨arr',?_,g2,by rw [g3,splice_length _ _ _ (by omega)]⟩
     simp only [List.map_cons,Instr.fill,h2]
     rw [if_neg (by simp [hsz]; omega),fill_one _ _ _ (by omega)]
     exact g1
    ·cases hf
theorem compParts_spec {fs:List (Nat×Nat)}:∀ {parts:List (Nat×Operand)} {ps:List (Nat×Nat×Operand)},compParts tt fs parts=some ps →
  ps.length=parts.length∧∀ (k:Nat) i x,parts[k]? = some (i,x)→∃ off ty ti,ps[k]? = some (off,ti.size,x)∧fs[i]? = some (off,ty)∧tget tt ty=some ti
 | [],ps,h=>by
  simp only [compParts,Option.some.injEq] at h
  subst h
  exact ⟨rfl,fun k i x hk=>by simp at hk⟩
 | (i,x) :: parts,ps,h=>by
  simp only [compParts] at h
  split at h
  ·rename_i off ty hfi
   split at h
   ·rename_i ti l h1 h2
    injection h with h; subst h
    obtain ⟨g1,g2⟩:=compParts_spec h2
    refine ⟨by simp [g1],fun k i' x' hk=>?_⟩
    cases k with
    | zero =>
     simp at hk
     obtain ⟨rfl,rfl⟩:=hk
     exact ⟨off,ty,ti,rfl,hfi,h1⟩
    | succ k =>
     obtain ⟨o1,t1,i1,q1,q2,q3⟩:=g2 k i' x' (by simpa using hk)
     exact ⟨o1,t1,i1,by simpa using q1,q2,q3⟩
   ·cases h
  ·cases h
theorem s_build (htab:tabB P tt=true) (hs:Sim P G n b ρ st a w) {t:Nat} {ti:TI} {fs:List (Nat×Nat)} (ht:tget tt t=some ti) (hk:ti.kind = .st fs) (hagg:ti.agg=true) (parts:Array (Nat×Operand)) {ps:List (Nat×Nat×Operand)}
  (hps:compParts tt fs parts.toList=some ps) (hall:fs.all (fun p=>(tget tt p.2).isSome)=true) (ho:o.op = .build t parts)
  (hf:fop B st.hp (ev G st.sl) (.build (ti.zero.map .v) ps)=some r):Sound P G n b ρ st a w o r:=by
 obtain ⟨d,hu,hd⟩:=run_under htab ht
 rw [hk] at hd
 obtain ⟨flds,rfl,hmap,_⟩:=kindB_st hd
 obtain ⟨z,hz,hzl,hza,_⟩:=run_zero htab ht w
 obtain ⟨hpl,hpp⟩:=compParts_spec hps
 simp only [fop] at hf
 split at hf
 ·rename_i cs hcs
  injection hf with hf; subst hf
  let sz:Field→Nat:=fun f=>((tget tt f.type).map TI.size).getD 0
  have hszr:∀ f∈flds.toList,(do pure (f.offset,← sizeOf f.type):Sem (Nat×Nat)).run P w = .ok (f.offset,sz f) w:=by
   intro f hf
   have hm:(f.offset,f.type)∈fs:=by rw [← hmap]; exact List.mem_map.2 ⟨f,hf,rfl⟩
   have:=List.all_eq_true.1 hall _ hm
   cases hq:tget tt f.type with
   | none=>simp [hq] at this
   | some fi=>simp [run_size htab hq,sz,hq]
  have hplaces:(flds.mapM fun f=>(do pure (f.offset,← sizeOf f.type):Sem (Nat×Nat))).run P w = .ok (flds.toList.map fun f=>(f.offset,sz f)).toArray w:=by
   rw [Array.mapM_eq_mapM_toList,Sem.run_map,run_mapM _ _ w _ hszr]
   rfl
  obtain ⟨arr',g1,g2,_⟩:=fillC_rel hs (fun i=>(flds.toList.map fun f=>(f.offset,sz f)).toArray[i]?) parts.toList ps hpl (fun k i x hk'=>by
   obtain ⟨off,ty,fi,q1,q2,q3⟩:=hpp k i x hk'
   refine ⟨off,fi.size,q1,?_⟩
   rw [← hmap,List.getElem?_map] at q2
   simp only [List.getElem?_toArray,List.getElem?_map]
   cases hq:flds.toList[i]? with
   | none=>rw [hq] at q2; cases q2
   | some f =>
    rw [hq] at q2
    simp at q2
    simp [sz,q2.1,q2.2,q3]) _ _ z.cells (zero_rel (zero_one htab ht) z.cells hzl) hcs
  refine Sound.same hs (v:=.agg arr') (does_v (s:=Instr.build t (parts.map fun (i,x)=>(i,a.eval x))) (by simp [execOp,ho]) ?_) ⟨arr',rfl,g2⟩
  unfold Instr.build
  simp only [Sem.run_bind,hz,Result.andThen_ok,run_underlying hu]
  erw [hplaces]
  simp only [Result.andThen_ok]
  have e1:(parts.map fun (x:Nat×Operand)=>match x with | (i,x)=>(i,a.eval x)).toList=parts.toList.map fun p=>(p.1,a.eval p.2):=by simp
  rw [e1,g1]
  rfl
 ·cases hf
theorem fillR_rel (hs:Sim P G n b ρ st a w) (sz:Nat):∀ (parts:List (Nat×Operand)) (H:List O) (xs xs':List (List D)) (H':List O) (arr:Array Value),HRel P ρ H w→(ctx ρ st.hp w).le (ctx ρ H w)→Fz st.hp H →
  RowRel (stab ρ H w) w arr sz xs→fillR H sz xs (parts.map fun p=>(p.1,ev G st.sl p.2))=some (xs',H') →
  ∃ arr',Instr.fill (fun i=>some (i*sz,sz)) arr (parts.map fun p=>(p.1,a.eval p.2))=some arr'∧HRel P ρ H' w∧(ctx ρ st.hp w).le (ctx ρ H' w)∧Fz st.hp H'∧RowRel (stab ρ H' w) w arr' sz xs'∧xs'.length=xs.length∧arr'.size=arr.size
 | [],H,xs,xs',H',arr,hH,le,fz,hr,hf=>by
  simp only [List.map_nil,fillR,Option.some.injEq,Prod.mk.injEq] at hf
  obtain ⟨rfl,rfl⟩:=hf
  exact ⟨arr,by simp [Instr.fill],hH,le,fz,hr,rfl,rfl⟩
 | (i,x) :: parts,H,xs,xs',H',arr,hH,le,fz,hr,hf=>by
  simp only [List.map_cons] at hf
  generalize he:ev G st.sl x=t at hf
  cases t with
  | tup vs=>simp [fillR] at hf
  | v u =>
   simp only [fillR] at hf
   split at hf
   ·rename_i ds hds
    split at hf
    ·rename_i hcnd
     obtain ⟨hk,hdl,hi⟩:=hcnd
     have hu:VRel P (ctx ρ H w) u (a.eval x):=VRel.mono (ev_rel hs he) le
     have huc:=vrel_cells hu hk
     obtain ⟨hD,hdl'⟩:=dsrel_of hH huc hds
     obtain ⟨hH1,l1⟩:=frz_rel u.cells hH
     have hvs:(a.eval x).cells.size=sz:=by rw [hD.1,hdl]
     have hnew:=rowrel_splice (w:=w) (hr.mono l1.step) hi hD (off:=0) (by omega)
     have hfit:=row_fits (sz:=sz) hi
     have hasz:=hr.1
     have hxl:(nth xs i).length=sz:=hr.2.1 _ (List.mem_of_getElem? (nth_get hi))
     have hspl:splice (nth xs i) 0 ds=ds:=by
      simp only [splice,List.take_zero,List.nil_append,Nat.zero_add,hdl,← hxl,List.drop_length,List.append_nil]
     rw [hspl,Nat.add_zero] at hnew
     obtain ⟨arr',g1,g2,g3,g4,g5,g6,g7⟩:=fillR_rel hs sz parts _ _ xs' H' _ hH1 (le.trans l1) (fz.trans (frz_fz _ _)) hnew hf
     have hspz:(splice arr.toList (i*sz) (a.eval x).cells.toList).toArray.size=arr.size:=by
      rw [List.size_toArray,splice_length _ _ _ (by simp; omega)]; simp
     refine ⟨arr',?_,g2,g3,g4,g5,by rw [g6]; simp,by rw [g7,hspz]⟩
     simp only [List.map_cons,Instr.fill]
     rw [if_neg (by simp [hvs]; omega),fill_one _ _ _ (by omega)]
     exact g1
    ·cases hf
   ·cases hf
theorem zrows {k:K} {zs:List Value} (hone:∀ x∈zs,x.oneCell'=true) (len sz:Nat) (hz:zs.length=sz) (zarr:Array Value) (hza:zarr.toList=zs) (S:Nat→Prop) (w:World) :
  RowRel S w ((Array.range (len*sz)).map (zarr[· % zarr.size]!)) sz (List.replicate len (zs.map D.v)):=by
 have hzs:zarr.size=sz:=by rw [← hz,← hza]; simp
 refine ⟨by simp,fun x hx=>by rw [(List.mem_replicate.1 hx).2]; simpa using hz,fun i x j d hx hj=>?_⟩
 have hi:i<len:=by simpa using lt_of_get hx
 have hxe:x=zs.map D.v:=by
  rw [List.getElem?_replicate,if_pos hi] at hx; simpa using hx.symm
 subst hxe
 have hj':j<sz:=by rw [← hz]; simpa using lt_of_get hj
 have hfit:=row_fits (sz:=sz) hi
 have hlt:i*sz+j<len*sz:=by omega
 have hmod:(i*sz+j) % sz=j:=by rw [Nat.add_comm,Nat.add_mul_mod_self_right,Nat.mod_eq_of_lt hj']
 rw [List.getElem?_map] at hj
 have hjz:j<zs.length:=by omega
 rw [List.getElem?_eq_getElem hjz] at hj
 simp at hj
 subst hj
 refine ⟨zs[j],?_,DRel.v _ (hone _ (List.getElem_mem hjz))⟩
 rw [Array.getElem?_map,Array.getElem?_range,if_pos hlt]
 simp only [Option.map_some,hzs,hmod]
 subst hza
 have:j<zarr.size:=by omega
 rw [getElem!_pos zarr j this]
 simp
theorem s_bsl (htab:tabB P tt=true) (hs:Sim P G n b ρ st a w) {t e:Nat} {ti ei:TI} (ht:tget tt t=some ti) (hk:ti.kind = .sl e) (he:tget tt e=some ei) (hpos:0<ei.size) (hzl:ei.zero.length=ei.size)
  (j len:Nat) (hlim:len*ei.size≤16777216) (parts:Array (Nat×Operand)) (ho:o.op = .buildSlice t len parts)
  (hf:fop B st.hp (ev G st.sl) (.bsl j ei.size (ei.zero.map .v) len parts.toList)=some r):Sound P G n b ρ st a w o r:=by
 obtain ⟨d,hu,hd⟩:=run_under htab ht
 rw [hk] at hd
 rw [kindB_sl hd] at hu
 simp only [fop] at hf
 split at hf
 ·rename_i hj
  split at hf
  ·rename_i xs H' hfr
   injection hf with hf; subst hf
   obtain ⟨z,hz,hzc,_⟩:=run_zero htab he w
   have key:∃ zarr:Array Value,(if len*ei.size=0 then pure #[] else (do pure (← zeroValue e).cells):Sem (Array Value)).run P w = .ok zarr w∧RowRel (stab ρ st.hp w) w ((Array.range (len*ei.size)).map (zarr[· % zarr.size]!)) ei.size (List.replicate len (ei.zero.map D.v)):=by
    by_cases h0:len*ei.size=0
    ·refine ⟨#[],by simp [h0],?_⟩
     have:len=0:=by
      rcases Nat.mul_eq_zero.1 h0 with h | h
      ·exact h
      ·omega
     subst this
     exact ⟨by simp,fun x hx=>by simp at hx,fun i x j d hx=>by simp at hx⟩
    ·exact ⟨z.cells,by simp [h0,hz],zrows (k:=ctx ρ st.hp w) (zero_one htab he) len ei.size hzl z.cells hzc _ _⟩
   obtain ⟨zarr,hrun0,hrow0⟩:=key
   generalize hz0:(Array.range (len*ei.size)).map (zarr[· % zarr.size]!)=arr0 at hrow0
   obtain ⟨arr',g1,g2,g3,g4,g5,g6,g7⟩:=fillR_rel hs ei.size parts.toList st.hp _ xs H' arr0 hs.heap (.refl _) (.refl _) hrow0 hfr
   have hj':H'[B+j]? = some .hole:=g4.other hj (fun _ _ h=>by cases h)
   have hxl:xs.length=len:=by rw [g6]; simp
   have hasz:len*ei.size≤arr'.size:=by have:=g5.1; rw [hxl] at this; exact this
   have hrun:(execOp a.eval o).run P w = .ok (.value (.slice (some ⟨w.heap.size,0,none⟩) len len)) (pushO w (.cells arr' e (0,0))):=by
    refine does_v (s:=Instr.buildSlice t len (parts.map fun (i,x)=>(i,a.eval x))) (by simp [execOp,ho]) ?_
    have hlim':¬ len*ei.size>2^24:=by omega
    unfold Instr.buildSlice
    simp only [Sem.run_bind,run_underlying hu,Result.andThen_ok,run_size htab he,if_neg hlim',Sem.run_pure]
    have e1:(parts.map fun (x:Nat×Operand)=>match x with | (i,x)=>(i,a.eval x)).toList=parts.toList.map fun p=>(p.1,a.eval p.2):=by simp
    by_cases h0:len*ei.size=0
    ·have hzr:zarr = #[]:=by simpa [h0] using hrun0.symm
     subst hzr
     simp only [h0,if_true,Sem.run_bind,Sem.run_pure,Result.andThen_ok]
     rw [h0] at hz0
     rw [hz0,e1,g1]
     rfl
    ·have hzr:zarr=z.cells:=by simpa [h0,hz] using hrun0.symm
     subst hzr
     simp only [h0,if_false,Sem.run_bind,hz,Sem.run_pure,Result.andThen_ok]
     rw [hz0,e1,g1]
     rfl
   have hle:=g2.le_alloc hj' (.cells arr' e (0,0)) (.row ei.size xs)
   refine ⟨_,_,upd ρ (B+j) w.heap.size,.inl hrun,g2.alloc hj' _ _ ?_,g3.trans hle,?_⟩
   ·exact ⟨hpos,.inr ⟨w.heap.size,arr',e,rfl,push_at _ _,g5.mono hle.step⟩⟩
   ·refine ⟨by simpa [ctx] using lt_of_get hj',.inr ⟨w.heap.size,len,e,arr'.size,upd_same _ _ _,by simp,Nat.le_refl _,?_,by simpa using hasz⟩⟩
    show (pushO w _).shape? _=_
    rw [shape?_eq,push_at]; rfl
  ·cases hf
 ·cases hf
theorem s_mksl (htab:tabB P tt=true) (hs:Sim P G n b ρ st a w) {t e:Nat} {ti ei:TI} (ht:tget tt t=some ti) (hk:ti.kind = .sl e) (he:tget tt e=some ei) (hpos:0<ei.size) (hzl:ei.zero.length=ei.size)
  (j:Nat) (x y:Operand) (ho:o.op = .makeSlice t x y)
  (hf:fop B st.hp (ev G st.sl) (.mksl j ei.size ei.bytes (ei.zero.map .v) x y)=some r) (hob:r.ob):Sound P G n b ρ st a w o r:=by
 obtain ⟨d,hu,hd⟩:=run_under htab ht
 rw [hk] at hd
 rw [kindB_sl hd] at hu
 obtain ⟨i,zv,hi,hsz,hby,hzz,hzc,_⟩:=(tab_ok htab he).info
 simp only [fop] at hf
 split at hf
 ·rename_i kn m kc c e1 e2 hj
  injection hf with hf; subst hf
  obtain ⟨h0,h1,h2,h3⟩:=hob
  have hz:(zeroValue e).run P w = .ok zv w:=by simp [zeroValue,run_ti hi,hzz]
  have hwm:IntKind.i64.wrap m=m:=IntWalk.i64_in _ ⟨by omega,by omega⟩
  have hwc:IntKind.i64.wrap c=c:=IntWalk.i64_in _ ⟨by omega,by omega⟩
  have key:∃ zarr:Array Value,(if c.toNat*ei.size=0 then pure #[] else (do pure (← zeroValue e).cells):Sem (Array Value)).run P w = .ok zarr w∧RowRel (stab ρ st.hp w) w ((Array.range (c.toNat*ei.size)).map (zarr[· % zarr.size]!)) ei.size (List.replicate c.toNat (ei.zero.map D.v)):=by
   by_cases h0:c.toNat*ei.size=0
   ·refine ⟨#[],by simp [h0],?_⟩
    have:c.toNat=0:=by
     rcases Nat.mul_eq_zero.1 h0 with h | h
     ·exact h
     ·omega
    rw [this]
    exact ⟨by simp,fun x hx=>by simp at hx,fun i x j d hx=>by simp at hx⟩
   ·exact ⟨zv.cells,by simp [h0,hz],zrows (k:=ctx ρ st.hp w) (zero_one htab he) c.toNat ei.size hzl zv.cells hzc _ _⟩
  obtain ⟨zarr,hrun0,hrow0⟩:=key
  generalize hz0:(Array.range (c.toNat*ei.size)).map (zarr[· % zarr.size]!)=arr0 at hrow0
  have hrun:(execOp a.eval o).run P w = .ok (.value (.slice (some ⟨w.heap.size,0,none⟩) m.toNat c.toNat)) (pushO w (.cells arr0 e (0,0))):=by
   refine does_v (s:=Instr.makeSlice t (a.eval x) (a.eval y)) (by simp [execOp,ho]) ?_
   rw [ev_int hs e1,ev_int hs e2]
   unfold Instr.makeSlice
   have hbig:¬ ((ei.bytes:Int)*c>2^48):=by
    have:(ei.bytes:Int)*c=c*ei.bytes:=Int.mul_comm _ _
    omega
   have hc0:¬ c<0:=by omega
   have hm0:¬ m<0:=by omega
   have hmc:¬ m>c:=by omega
   simp only [Sem.run_bind,run_underlying hu,Result.andThen_ok,asInt,asIntOf,Sem.run_pure,run_ti hi,hby,hwm,hwc]
   have hbig':¬ (281474976710656<(ei.bytes:Int)*c):=by omega
   by_cases h0:c.toNat*ei.size=0
   ·have hzr:zarr = #[]:=by simpa [h0] using hrun0.symm
    subst hzr
    simp only [h0] at hz0
    subst hz0
    simp [hc0,hbig',hm0,hmc,run_size htab he,h0,newRow]
    rfl
   ·have hzr:zarr=zv.cells:=by simpa [h0,hz] using hrun0.symm
    subst hzr
    subst hz0
    simp [hc0,hbig',hm0,hmc,run_size htab he,h0,hz,newRow]
    rfl
  have hrow1:RowRel (stab ρ st.hp w) w arr0 ei.size (List.replicate m.toNat (ei.zero.map D.v)):=by
   have hmc:m.toNat≤c.toNat:=by omega
   have h4:c.toNat*ei.size≤arr0.size:=by have:=hrow0.1; rw [List.length_replicate] at this; exact this
   refine ⟨by rw [List.length_replicate]; exact Nat.le_trans (Nat.mul_le_mul_right _ hmc) h4,fun x hx=>?_,fun i x j d hx hj=>?_⟩
   ·rw [(List.mem_replicate.1 hx).2]; simpa using hzl
   ·refine hrow0.2.2 i x j d ?_ hj
    rw [List.getElem?_replicate] at hx ⊢
    split at hx
    ·rw [if_pos (by omega)]; exact hx
    ·cases hx
  refine Sound.push hs hj (ov:=.cells arr0 e (0,0)) hrun (fun k hle hkw=>?_) (fun k q1 q2 q3=>?_)
  ·exact ⟨hpos,.inr ⟨w.heap.size,arr0,e,rfl,by rw [hkw]; exact push_at _ _,hrow1.mono hle.step⟩⟩
  ·refine ⟨q2,.inr ⟨w.heap.size,c.toNat,e,arr0.size,q1,by simp,by omega,?_,?_⟩⟩
   ·rw [← q3,shape?_eq,push_at]; rfl
   ·have:=hrow0.1; rw [List.length_replicate] at this; rw [Nat.zero_add]; exact this
 ·cases hf
theorem elems_rel (hs:Sim P G n b ρ st a w) {x:Operand} {ys:List (List D)} (h:elems st.hp (ev G st.sl x)=some ys) :
  ∃ p len cap,a.eval x = .slice p len cap∧len=ys.length∧(len=0∨∃ b0 off sz,p=some ⟨b0,off,none⟩∧(∀ y∈ys,y.length=sz) ∧
   ∀ (i:Nat) (y:List D) (j:Nat) (d:D),ys[i]? = some y→y[j]? = some d→∃ u,w.cell? ⟨b0,off+i*sz+j,none⟩=some u∧DRel (stab ρ st.hp w) w d u):=by
 generalize he:ev G st.sl x=t at h
 unfold elems at h
 split at h
 ·rename_i xs
  injection h with h; subst h
  have h1:=ev_rel hs he
  generalize hv:a.eval x=v at h1
  cases h1 with
  | nil p c=>exact ⟨p,0,c,rfl,rfl,.inl rfl⟩
  | sl _ b0 off cap sz vs hS hb hcap hszs hcell hrel =>
   refine ⟨_,_,cap,rfl,rfl,.inr ⟨b0,off,sz,rfl,fun y hy=>?_,fun i y j d hy hj=>⟨vs i j,hcell i y j d hy hj,hrel i y j d hy hj⟩⟩⟩
   obtain ⟨k,hk⟩:=List.getElem?_of_mem hy
   exact hszs k y hk
 ·rename_i c
  injection h with h; subst h
  exact ⟨none,0,c,ev_val hs he,rfl,.inl rfl⟩
 ·rename_i r0 sz off len
  have main:∀ sz' xs,(st.hp[r0]? = some (.row sz' xs)∨st.hp[r0]? = some (.frow sz' xs))→sz'=sz→off+len≤xs.length→some ((xs.drop off).take len)=some ys →
    ∃ p len cap,a.eval x = .slice p len cap∧len=ys.length∧(len=0∨∃ b0 off sz,p=some ⟨b0,off,none⟩∧(∀ y∈ys,y.length=sz) ∧
     ∀ (i:Nat) (y:List D) (j:Nat) (d:D),ys[i]? = some y→y[j]? = some d→∃ u,w.cell? ⟨b0,off+i*sz+j,none⟩=some u∧DRel (stab ρ st.hp w) w d u):=by
   intro sz' xs hr hsz hin hq
   clear h
   subst hsz
   injection hq with hq; subst hq
   have hl:((xs.drop off).take len).length=len:=by rw [List.length_take,List.length_drop]; omega
   rcases (ev_rel hs he).2 with ⟨rfl,p,hx⟩ | ⟨b0,cap,e,m,hb0,hx,hcap,_,_⟩
   ·exact ⟨p,0,0,hx,by rw [hl],.inl rfl⟩
   ·obtain ⟨c,e',fz,hh,hrow⟩:=row_cells hs.heap hr (b0:=b0) hb0
    have hget:∀ (i:Nat) (y:List D),((xs.drop off).take len)[i]? = some y→xs[off+i]? = some y:=by
     intro i y hy
     rw [List.getElem?_take] at hy
     split at hy
     ·rw [List.getElem?_drop] at hy; exact hy
     ·cases hy
    refine ⟨_,len,cap,hx,by rw [hl],.inr ⟨b0,off*sz',sz',rfl,fun y hy=>?_,fun i y j d hy hj=>?_⟩⟩
    ·obtain ⟨k,hk⟩:=List.getElem?_of_mem hy
     exact hrow.2.1 y (List.mem_of_getElem? (hget k y hk))
    ·obtain ⟨u,hu,hd⟩:=hrow.2.2 _ y j d (hget i y hy) hj
     exact ⟨u,by rw [cell_heap hh,show off*sz'+i*sz'+j=(off+i)*sz'+j by rw [Nat.add_mul]]; exact hu,hd⟩
  split at h
  ·rename_i sz' xs hr
   split at h
   ·rename_i hc; exact main sz' xs (.inl hr) hc.1 hc.2 h
   ·cases h
  ·rename_i sz' xs hr
   split at h
   ·rename_i hc; exact main sz' xs (.inr hr) hc.1 hc.2 h
   ·cases h
  ·cases h
 ·cases h
theorem firstCells_run {S:Nat→Prop} {p:Option Addr} {len cap sz:Nat} {ys:List (List D)} (hlen:len=ys.length) (hall:∀ y∈ys,y.length=sz)
  (h:len=0∨∃ b0 off sz',p=some ⟨b0,off,none⟩∧(∀ y∈ys,y.length=sz') ∧
   ∀ (i:Nat) (y:List D) (j:Nat) (d:D),ys[i]? = some y→y[j]? = some d→∃ u,w.cell? ⟨b0,off+i*sz'+j,none⟩=some u∧DRel S w d u)
  (hspot:∀ q,p=some q→len=0→True) :
  ∃ vs:List Value,(Builtin.firstCells sz len (.slice p len cap)).run P w = .ok vs.toArray w∧vs.length=len*sz ∧
   (∀ (i:Nat) (y:List D) (j:Nat) (d:D),ys[i]? = some y→y[j]? = some d→∃ u,vs[i*sz+j]? = some u∧DRel S w d u):=by
 by_cases h0:len=0
 ·subst h0
  have hy:ys=[]:=List.eq_nil_of_length_eq_zero hlen.symm
  subst hy
  refine ⟨[],?_,by simp,fun i y j d hy=>by simp at hy⟩
  cases p with
  | none=>simp [Builtin.firstCells]
  | some q=>simp [Builtin.firstCells,loadCells,loadCellsFrom]
 ·rcases h with h | ⟨b0,off,sz',rfl,hall',hc⟩
  ·exact absurd h h0
  ·have hsz:sz'=sz:=by
    have hlt:0<ys.length:=by omega
    have hm:ys[0]∈ys:=List.getElem_mem hlt
    rw [← hall' _ hm,hall _ hm]
   subst hsz
   have hcell:∀ k,k<len*sz'→∃ i j y d,k=i*sz'+j∧ys[i]? = some y∧y[j]? = some d:=by
    intro k hk
    have hpos:0<sz':=by
     rcases Nat.eq_zero_or_pos sz' with h | h
     ·subst h; simp at hk
     ·exact h
    have hi:k / sz'<ys.length:=by rw [← hlen]; exact Nat.div_lt_of_lt_mul (by rw [Nat.mul_comm]; exact hk)
    have hy:(ys[k / sz']).length=sz':=hall' _ (List.getElem_mem hi)
    have hj:k % sz'<(ys[k / sz']).length:=by rw [hy]; exact Nat.mod_lt _ hpos
    exact ⟨k / sz',k % sz',ys[k / sz'],(ys[k / sz'])[k % sz'],by rw [Nat.mul_comm]; exact (Nat.div_add_mod k sz').symm,by simp [hi],by simp [hj]⟩
   obtain ⟨vs,g1,g2,g3⟩:=load_cells (P:=P) (w:=w) b0 off (len*sz') (fun k hk=>by
    obtain ⟨i,j,y,d,rfl,hy,hd⟩:=hcell k hk
    obtain ⟨u,hu,_⟩:=hc i y j d hy hd
    exact ⟨u,by rw [← Nat.add_assoc]; exact hu⟩)
   refine ⟨vs,by simp [Builtin.firstCells,g3],g1,fun i y j d hy hd=>?_⟩
   obtain ⟨u,hu,hdu⟩:=hc i y j d hy hd
   have hi:i<ys.length:=lt_of_get hy
   have hyl:y.length=sz':=hall' y (List.mem_of_getElem? hy)
   have hj:j<sz':=by rw [← hyl]; exact lt_of_get hd
   have hfit:=row_fits (sz:=sz') hi
   have:=g2 (i*sz'+j) (by rw [hlen]; omega)
   rw [← Nat.add_assoc,hu] at this
   exact ⟨u,this.symm,hdu⟩
end
theorem growBy_le (n:Nat):∀ (k c:Nat),256≤c→c≤2*n→Builtin.growBy n k c≤2*n
 | 0,c,_,h=>h
 | k+1,c,h0,h=>by
  simp only [Builtin.growBy]
  split
  ·exact h
  ·exact growBy_le n k _ (by omega) (by omega)
theorem nextcap_le (n c:Nat) (h:c<n):Builtin.nextslicecap n c≤2*n:=by
 unfold Builtin.nextslicecap
 split
 ·omega
 ·split
  ·omega
  ·exact growBy_le n 4 c (by omega) (by omega)
def drawO (w:World):World:={ w with drawn:=w.drawn+1 }
theorem le_draw {ρ:Nat→Option Nat} {H:List O} {w:World}:(ctx ρ H w).le (ctx ρ H (drawO w)) :=
 ⟨fun _ _ h=>h,Nat.le_refl _,⟨fun _ h=>h,fun _ _=>rfl,Nat.le_refl _,fun _ _ _ h=>h,rfl,rfl,rfl⟩⟩
theorem HRel.draw {P:Program} {ρ:Nat→Option Nat} {H:List O} {w:World} (h:HRel P ρ H w):HRel P ρ H (drawO w) :=
 h.change le_draw (fun r o hr=>.inr ⟨hr,rfl,fun _ _ _=>rfl⟩) h.inj h.small
theorem HRel.virt {P:Program} {ρ:Nat→Option Nat} {H:List O} {w:World} (h:HRel P ρ H w) {id sz:Nat} (hid:H[id]? = some .hole) (hpos:0<sz) :
  HRel P ρ (H.set id (.row sz [])) w∧(ctx ρ H w).le (ctx ρ (H.set id (.row sz [])) w):=by
 have hn:ρ id=none:=h.objs id _ hid
 have le:(ctx ρ H w).le (ctx ρ (H.set id (.row sz [])) w):=by
  refine ⟨fun _ _ h=>h,by simp [ctx],⟨fun b hb=>⟨hb.1,fun r' o1 h1 l1=>?_⟩,fun _ _=>rfl,Nat.le_refl _,fun _ _ _ h=>h,rfl,rfl,rfl⟩⟩
  rcases getElem?_set' _ _ _ _ _ h1 with ⟨rfl,rfl⟩ | ⟨hne,h1'⟩
  ·rw [hn]; intro h; cases h
  ·exact hb.2 r' o1 h1' l1
 refine ⟨h.change le (fun r' o1 h1=>?_) (fun r1 r2 o1 o2 x h1 h2 l1 l2 e1 e2=>?_) (fun r' x hx=>?_),le⟩
 ·rcases getElem?_set' _ _ _ _ _ h1 with ⟨rfl,rfl⟩ | ⟨hne,h1'⟩
  ·exact .inl ⟨hpos,.inl ⟨hn,rfl⟩⟩
  ·exact .inr ⟨h1',rfl,fun _ _ _=>rfl⟩
 ·rcases getElem?_set' _ _ _ _ _ h1 with ⟨rfl,rfl⟩ | ⟨n1,h1'⟩
  ·rw [hn] at e1; cases e1
  ·rcases getElem?_set' _ _ _ _ _ h2 with ⟨rfl,rfl⟩ | ⟨n2,h2'⟩
   ·rw [hn] at e2; cases e2
   ·exact h.inj r1 r2 o1 o2 x h1' h2' l1 l2 e1 e2
 ·have:=h.small r' x hx
  exact ⟨by simpa using this.1,this.2⟩
theorem HRel.move {P:Program} {ρ:Nat→Option Nat} {H:List O} {w:World} (h:HRel P ρ H w) {r id b:Nat} {o o':O} (hr:H[r]? = some o) (hl:o.live=true) (hρ:ρ r=some b) (hid:H[id]? = some .hole) (hl':o'.live=true)
  {ob ob':Obj} (hob:w.heap[b]? = some ob) (hs:Obj.shape ob'=Obj.shape ob) :
  (ctx ρ H w).le (ctx (upd ρ id b) ((H.set r .dead).set id o') (Aw.setB w b ob')) ∧
  (ORel P (ctx (upd ρ id b) ((H.set r .dead).set id o') (Aw.setB w b ob')) (some b) o'→HRel P (upd ρ id b) ((H.set r .dead).set id o') (Aw.setB w b ob')):=by
 have hn:ρ id=none:=h.objs id _ hid
 have hne:id≠r:=fun e=>by subst e; rw [hr] at hid; injection hid with hid; subst hid; cases hl
 have get:∀ (r':Nat) o1,((H.set r .dead).set id o')[r']? = some o1→(r'=id∧o1=o')∨(r'≠id∧r'=r∧o1 = .dead)∨(r'≠id∧r'≠r∧H[r']? = some o1):=by
  intro r' o1 h1
  rcases getElem?_set' _ _ _ _ _ h1 with ⟨rfl,rfl⟩ | ⟨n1,h1'⟩
  ·exact .inl ⟨rfl,rfl⟩
  ·rcases getElem?_set' _ _ _ _ _ h1' with ⟨rfl,rfl⟩ | ⟨n2,h2'⟩
   ·exact .inr (.inl ⟨n1,rfl,rfl⟩)
   ·exact .inr (.inr ⟨n1,n2,h2'⟩)
 have le:(ctx ρ H w).le (ctx (upd ρ id b) ((H.set r .dead).set id o') (Aw.setB w b ob')):=by
  refine ⟨fun r' x hx=>?_,by simp [ctx],step_setB hob hs (fun hst=>hst.2 r o hr hl hρ) (fun a ha=>⟨by rw [setB_size]; exact ha.1,fun r' o1 h1 l1=>?_⟩)⟩
  ·have:r'≠id:=fun e=>by subst e; rw [show (ctx ρ H w).ρ r'=none from hn] at hx; cases hx
   show upd ρ id b r'=some x
   rw [upd_other _ _ _ _ this]; exact hx
  ·rcases get r' o1 h1 with ⟨rfl,rfl⟩ | ⟨_,rfl,rfl⟩ | ⟨n1,n2,h2⟩
   ·rw [upd_same]; intro e; injection e with e; subst e; exact ha.2 r o hr hl hρ
   ·cases l1
   ·rw [upd_other _ _ _ _ n1]; exact ha.2 r' o1 h2 l1
 refine ⟨le,fun hO=>h.change le (fun r' o1 h1=>?_) (fun r1 r2 o1 o2 x h1 h2 l1 l2 e1 e2=>?_) (fun r' x hx=>?_)⟩
 ·rcases get r' o1 h1 with ⟨rfl,rfl⟩ | ⟨_,rfl,rfl⟩ | ⟨n1,n2,h2⟩
  ·rw [upd_same]; exact .inl hO
  ·exact .inl trivial
  ·refine .inr ⟨h2,upd_other _ _ _ _ n1,fun l1 a ha=>setB_other _ _ _ _ (fun e=>?_)⟩
   subst e
   exact n2 (h.inj r' r o1 o a h2 hr l1 hl ha hρ)
 ·rcases get r1 o1 h1 with ⟨rfl,rfl⟩ | ⟨_,rfl,rfl⟩ | ⟨n1,n1',g1⟩
  ·rcases get r2 o2 h2 with ⟨rfl,rfl⟩ | ⟨_,rfl,rfl⟩ | ⟨n2,n2',g2⟩
   ·rfl
   ·cases l2
   ·rw [upd_same] at e1; rw [upd_other _ _ _ _ n2] at e2
    injection e1 with e1; subst e1
    exact absurd (h.inj r2 r o2 o b g2 hr l2 hl e2 hρ) n2'
  ·cases l1
  ·rcases get r2 o2 h2 with ⟨rfl,rfl⟩ | ⟨_,rfl,rfl⟩ | ⟨n2,n2',g2⟩
   ·rw [upd_same] at e2; rw [upd_other _ _ _ _ n1] at e1
    injection e2 with e2; subst e2
    exact absurd (h.inj r1 r o1 o b g1 hr l1 hl e1 hρ) n1'
   ·cases l2
   ·rw [upd_other _ _ _ _ n1] at e1; rw [upd_other _ _ _ _ n2] at e2
    exact h.inj r1 r2 o1 o2 x g1 g2 l1 l2 e1 e2
 ·by_cases e:r'=id
  ·subst e; rw [upd_same] at hx; injection hx with hx; subst hx
   exact ⟨by simpa using lt_of_get hid,by rw [setB_size]; exact (h.small r b hρ).2⟩
  ·rw [upd_other _ _ _ _ e] at hx
   have:=h.small r' x hx
   exact ⟨by simpa using this.1,by rw [setB_size]; exact this.2⟩
section
variable {P:Program} {G:Gl} {n:Nat} {b:Base} {ρ:Nat→Option Nat} {st:St} {a:Act} {w:World} {B:Nat} {r:R} {o:Oper} {tt:TT}
theorem rowrel_append {S:Nat→Prop} {c:Array Value} {sz:Nat} {xs ys:List (List D)} (h:RowRel S w c sz xs) (hall:∀ y∈ys,y.length=sz) {vs:List Value} (hvl:vs.length=ys.length*sz)
  (hv:∀ (i:Nat) (y:List D) (j:Nat) (d:D),ys[i]? = some y→y[j]? = some d→∃ u,vs[i*sz+j]? = some u∧DRel S w d u) (hfit:(xs.length+ys.length)*sz≤c.size) :
  RowRel S w (splice c.toList (xs.length*sz) vs).toArray sz (xs ++ ys):=by
 rw [Nat.add_mul] at hfit
 have hcs:xs.length*sz+vs.length≤c.toList.length:=by rw [hvl]; simpa using hfit
 refine ⟨?_,fun x hx=>?_,fun i x j d hx hj=>?_⟩
 ·rw [List.size_toArray,splice_length _ _ _ hcs,List.length_append,Nat.add_mul]; simpa using hfit
 ·rcases List.mem_append.1 hx with hx | hx
  ·exact h.2.1 x hx
  ·exact hall x hx
 ·simp only [List.getElem?_toArray]
  rw [splice_get _ _ _ _ hcs,hvl]
  rw [List.getElem?_append] at hx
  split at hx
  ·rename_i hi
   have hxl:x.length=sz:=h.2.1 x (List.mem_of_getElem? hx)
   have hjl:j<sz:=by rw [← hxl]; exact lt_of_get hj
   have:=row_fits (sz:=sz) hi
   rw [if_neg (by omega)]
   obtain ⟨u,hu,hd⟩:=h.2.2 i x j d hx hj
   exact ⟨u,by simpa using hu,hd⟩
  ·rename_i hi
   have hy:x.length=sz:=hall x (List.mem_of_getElem? hx)
   have hjl:j<sz:=by rw [← hy]; exact lt_of_get hj
   have hil:i-xs.length<ys.length:=lt_of_get hx
   have h1:=row_fits (sz:=sz) hil
   have h2:i*sz=(i-xs.length)*sz+xs.length*sz:=by rw [← Nat.add_mul]; congr 1; omega
   rw [if_pos (by omega),show i*sz+j-xs.length*sz=(i-xs.length)*sz+j by omega]
   exact hv _ x j d hx hj
theorem rowrel_new {S:Nat→Prop} {sz:Nat} {xs ys:List (List D)} (hxs:∀ y∈xs,y.length=sz) (hys:∀ y∈ys,y.length=sz) {us vs:List Value} (rest:Array Value) (hul:us.length=xs.length*sz) (hvl:vs.length=ys.length*sz)
  (hu:∀ (i:Nat) (y:List D) (j:Nat) (d:D),xs[i]? = some y→y[j]? = some d→∃ u,us[i*sz+j]? = some u∧DRel S w d u)
  (hv:∀ (i:Nat) (y:List D) (j:Nat) (d:D),ys[i]? = some y→y[j]? = some d→∃ u,vs[i*sz+j]? = some u∧DRel S w d u) :
  RowRel S w (us.toArray ++ vs.toArray ++ rest) sz (xs ++ ys):=by
 refine ⟨by simp [hul,hvl,Nat.add_mul],fun x hx=>?_,fun i x j d hx hj=>?_⟩
 ·rcases List.mem_append.1 hx with hx | hx
  ·exact hxs x hx
  ·exact hys x hx
 ·have e1:(us.toArray ++ vs.toArray ++ rest)[i*sz+j]? = (us ++ vs ++ rest.toList)[i*sz+j]? := by rw [← Array.getElem?_toList]; simp
  rw [e1]
  rw [List.getElem?_append] at hx
  split at hx
  ·rename_i hi
   have hxl:x.length=sz:=hxs x (List.mem_of_getElem? hx)
   have hjl:j<sz:=by rw [← hxl]; exact lt_of_get hj
   have:=row_fits (sz:=sz) hi
   rw [List.append_assoc,List.getElem?_append_left (by omega)]
   exact hu i x j d hx hj
  ·rename_i hi
   have hy:x.length=sz:=hys x (List.mem_of_getElem? hx)
   have hjl:j<sz:=by rw [← hy]; exact lt_of_get hj
   have hil:i-xs.length<ys.length:=lt_of_get hx
   have h1:=row_fits (sz:=sz) hil
   have h2:i*sz=(i-xs.length)*sz+xs.length*sz:=by rw [← Nat.add_mul]; congr 1; omega
   rw [List.getElem?_append_left (by simp; omega),List.getElem?_append_right (by omega),show i*sz+j-us.length=(i-xs.length)*sz+j by omega]
   exact hv _ x j d hx hj
theorem app_in (htab:tabB P tt=true) {t u e e':Nat} {ti ui ei:TI} (ht:tget tt t=some ti) (hk:ti.kind = .sl e) (hu:tget tt u=some ui) (hku:ui.kind = .sl e') (he:tget tt e=some ei)
  (tys:Array TypeId) (h0:tys[0]? = some t) (h1:tys[1]? = some u) (ty:TypeId) (base:Option Addr) (len cap:Nat) (p:Option Addr) (m mc:Nat) (vs:List Value)
  (hv:(Builtin.firstCells ei.size m (.slice p m mc)).run P w = .ok vs.toArray w) (hroom:len+m≤cap) (w':World)
  (hst:(match base with | some q=>storeCells (q.add (len*ei.size)) vs | none=>pure ():Sem Unit).run P w = .ok () w') :
  (Builtin.append_ tys ty #[.slice base len cap,.slice p m mc]).run P w = .ok (.slice base (len+m) cap) w':=by
 obtain ⟨d,hud,hd⟩:=run_under htab ht
 rw [hk] at hd
 rw [kindB_sl hd] at hud
 obtain ⟨d',hud',hd'⟩:=run_under htab hu
 rw [hku] at hd'
 rw [kindB_sl hd'] at hud'
 unfold Builtin.append_
 cases base with
 | none =>
  simp at hst
  subst hst
  simp [h0,h1,run_underlying hud,run_underlying hud',run_size htab he,Builtin.lenOf,hroom,hv]
 | some q =>
  simp [h0,h1,run_underlying hud,run_underlying hud',run_size htab he,Builtin.lenOf,hroom,hv,hst]
theorem app_grow (htab:tabB P tt=true) {t u e e':Nat} {ti ui ei:TI} (ht:tget tt t=some ti) (hk:ti.kind = .sl e) (hu:tget tt u=some ui) (hku:ui.kind = .sl e') (he:tget tt e=some ei) (hby:0<ei.bytes) (hzl:ei.zero.length=ei.size)
  (tys:Array TypeId) (h0:tys[0]? = some t) (h1:tys[1]? = some u) (ty:TypeId) (base:Option Addr) (len cap:Nat) (p:Option Addr) (m mc:Nat) (us vs:List Value)
  (hu1:(Builtin.firstCells ei.size len (.slice base len cap)).run P (drawO w) = .ok us.toArray (drawO w))
  (hv:(Builtin.firstCells ei.size m (.slice p m mc)).run P (drawO w) = .ok vs.toArray (drawO w)) (hroom:¬ len+m≤cap) (hlim:(len+m)*ei.bytes≤140737488355328) :
  ∃ (nc:Nat) (rest:Array Value),len+m≤nc∧rest.size=(nc-(len+m))*ei.size ∧
   (Builtin.append_ tys ty #[.slice base len cap,.slice p m mc]).run P w = .ok (.slice (some ⟨w.heap.size,0,none⟩) (len+m) nc) (pushO (drawO w) (.cells (us.toArray ++ vs.toArray ++ rest) e (0,0))):=by
 obtain ⟨d,hud,hd⟩:=run_under htab ht
 rw [hk] at hd
 rw [kindB_sl hd] at hud
 obtain ⟨d',hud',hd'⟩:=run_under htab hu
 rw [hku] at hd'
 rw [kindB_sl hd'] at hud'
 obtain ⟨i,zv,hi,hsz,hbb,hzz,hzc,_⟩:=(tab_ok htab he).info
 have hz:∀ w,(zeroValue e).run P w = .ok zv w:=fun w=>by simp [zeroValue,run_ti hi,hzz]
 have hzs:zv.cells.size=ei.size:=by rw [← hzl,← hzc]; simp
 have hneed:len+m≤140737488355328:=Nat.le_trans (Nat.le_mul_of_pos_right _ hby) hlim
 have hnc:¬ (Builtin.nextslicecap (len+m) cap*ei.bytes>2^48):=by
  have h1:=nextcap_le (len+m) cap (by omega)
  have h2:Builtin.nextslicecap (len+m) cap*ei.bytes≤2*(len+m)*ei.bytes:=Nat.mul_le_mul_right _ h1
  have h3:2*(len+m)*ei.bytes=2*((len+m)*ei.bytes):=Nat.mul_assoc _ _ _
  omega
 have hbig:¬ ((((len+m:Nat)):Int)>IntKind.i64.max∧(False∨ei.bytes=0)):=by
  rintro ⟨_,h | h⟩
  ·exact h
  ·omega
 have hcap:∀ x:Nat,len+m≤(Question.appendCap (len+m) cap e).cut x:=fun x=>by simp only [Question.cut]; omega
 refine ⟨(Question.appendCap (len+m) cap e).cut (w.tape w.drawn (Question.appendCap (len+m) cap e)),Builtin.zeroCells zv.cells ((Question.appendCap (len+m) cap e).cut (w.tape w.drawn (Question.appendCap (len+m) cap e))-(len+m)),hcap _,?_,?_⟩
 ·simp [Builtin.zeroCells,hzs]
 ·unfold Builtin.append_
  have hb0:¬ ei.bytes=0:=by omega
  have hnc':¬ (281474976710656<Builtin.nextslicecap (len+m) cap*ei.bytes):=by omega
  have hdraw:({ heap:=w.heap,tape:=w.tape,drawn:=w.drawn+1,os:=w.os,output:=w.output }:World)=drawO w:=rfl
  simp [h0,h1,run_underlying hud,run_underlying hud',run_size htab he,Builtin.lenOf,hroom,run_ti hi,hbb,hb0,hnc',run_choose,Question.forced]
  have hdr:w.drew=drawO w:=rfl
  rw [hdr,hu1]
  simp only [Result.andThen_ok]
  rw [hv]
  simp only [Result.andThen_ok,hz,newRow,Sem.run_bind,run_newObj,Sem.run_pure]
  rw [← Array.append_assoc,show us.toArray ++ vs.toArray=(us ++ vs).toArray by simp]
  rfl
theorem app_new {H1:List O} {w0:World} (hH:HRel P ρ H1 (drawO w)) (le1:(ctx ρ st.hp w).le (ctx ρ H1 (drawO w))) {id:Nat} (hid:H1[id]? = some .hole) {sz e:Nat} (hpos:0<sz) {zs:List (List D)} {arr:Array Value} {len nc:Nat}
  (hrow:RowRel (stab ρ H1 (drawO w)) (drawO w) arr sz zs) (hsz:nc*sz≤arr.size) (hle:len≤nc) (hrun:(execOp a.eval o).run P w = .ok (.value (.slice (some ⟨w.heap.size,0,none⟩) len nc)) (pushO (drawO w) (.cells arr e (0,0)))) (p:Prop) :
  Sound P G n b ρ st a w o ⟨p,.v (.c (.os id sz 0 len)),H1.set id (.row sz zs)⟩:=by
 have hle':=hH.le_alloc hid (.cells arr e (0,0)) (.row sz zs)
 refine ⟨_,_,upd ρ id w.heap.size,.inl hrun,hH.alloc hid _ _ ?_,le1.trans hle',?_⟩
 ·exact ⟨hpos,.inr ⟨w.heap.size,arr,e,rfl,push_at (drawO w) _,hrow.mono hle'.step⟩⟩
 ·refine ⟨by simpa [ctx] using lt_of_get hid,.inr ⟨w.heap.size,nc,e,arr.size,upd_same _ _ _,by simp,hle,?_,by simpa using hsz⟩⟩
  show (pushO (drawO w) _).shape? _=_
  rw [shape?_eq]
  have:(pushO (drawO w) (Obj.cells arr e (0,0))).heap[w.heap.size]? = some (Obj.cells arr e (0,0)):=push_at (drawO w) _
  rw [this]; rfl
theorem s_app (htab:tabB P tt=true) (hs:Sim P G n b ρ st a w) {t u e e':Nat} {ti ui ei:TI} (ht:tget tt t=some ti) (hk:ti.kind = .sl e) (hu:tget tt u=some ui) (hku:ui.kind = .sl e') (he:tget tt e=some ei)
  (hpos:0<ei.size) (hby:0<ei.bytes) (hzl:ei.zero.length=ei.size) (tys:Array TypeId) (h0:tys[0]? = some t) (h1:tys[1]? = some u) (pf:Bool) (j:Nat) (x y:Operand)
  (ho:o.op = .call { callee:=.builtin .append,args:=#[x,y],argTypes:=tys })
  (hf:fop B st.hp (ev G st.sl) (.app pf j ei.size ei.bytes x y)=some r) (hob:r.ob):Sound P G n b ρ st a w o r:=by
 have does:∀ v w',(Builtin.append_ tys o.type #[a.eval x,a.eval y]).run P w = .ok v w'→(execOp a.eval o).run P w = .ok (.value v) w' :=
  fun v w' h=>does_builtin ho (s:=Builtin.append_ tys o.type #[a.eval x,a.eval y]) (fun c=>by simp [builtin]) h
 simp only [fop] at hf
 split at hf
 ·rename_i ys hid hys
  obtain ⟨p,m,mc,hy,hml,hyc⟩:=elems_rel hs hys
  have hdY:m=0∨∃ b0 off sz,p=some ⟨b0,off,none⟩∧(∀ y∈ys,y.length=sz) ∧
   ∀ (i:Nat) (y:List D) (j:Nat) (d:D),ys[i]? = some y→y[j]? = some d→∃ u,(drawO w).cell? ⟨b0,off+i*sz+j,none⟩=some u∧DRel (stab ρ st.hp w) (drawO w) d u:=by
   rcases hyc with h | ⟨b0,off,sz,q1,q2,q3⟩
   ·exact .inl h
   ·refine .inr ⟨b0,off,sz,q1,q2,fun i y j d hi hj=>?_⟩
    obtain ⟨u,hu,hd⟩:=q3 i y j d hi hj
    exact ⟨u,hu,hd.mono (le_draw (ρ:=ρ) (H:=st.hp) (w:=w)).step⟩
  obtain ⟨vs,g1,g2,g3⟩:=firstCells_run (P:=P) (w:=w) (cap:=mc) (S:=stab ρ st.hp w) (sz:=ei.size) hml (by
   rcases hyc with h | ⟨_,_,sz,_,q2,_⟩
   ·have:ys=[]:=List.eq_nil_of_length_eq_zero (by omega)
    subst this; intro y hy; cases hy
   ·split at hf
    ·injection hf with hf; subst hf; exact hob.2
    ·split at hf
     ·split at hf
      ·injection hf with hf; subst hf; exact hob.2.2
      ·cases hf
     ·cases hf
    ·cases hf) hyc (fun _ _ _=>trivial)
  have hall:∀ y∈ys,y.length=ei.size:=by
   split at hf
   ·injection hf with hf; subst hf; exact hob.2
   ·split at hf
    ·split at hf
     ·injection hf with hf; subst hf; exact hob.2.2
     ·cases hf
    ·cases hf
   ·cases hf
  obtain ⟨vs',g1',g2',g3'⟩:=firstCells_run (P:=P) (w:=drawO w) (cap:=mc) hml hall hdY (fun _ _ _=>trivial)
  have virtual:∀ (H1:List O) (h1:HRel P ρ H1 w) (l1:(ctx ρ st.hp w).le (ctx ρ H1 w)) (hid1:H1[B+j]? = some .hole) (q:Option Addr) (pr:Prop),(execOp a.eval o).run P w = .ok (.value (.slice q 0 0)) w →
    Sound P G n b ρ st a w o ⟨pr,.v (.c (.os (B+j) ei.size 0 0)),H1.set (B+j) (.row ei.size [])⟩:=by
   intro H1 h1 l1 hid1 q pr hrun
   obtain ⟨v1,v2⟩:=h1.virt (sz:=ei.size) hid1 hpos
   exact ⟨_,w,ρ,.inl hrun,v1,l1.trans v2,by simpa [ctx] using lt_of_get hid1,.inl ⟨rfl,q,rfl⟩⟩
  split at hf
  ·rename_i e1
   injection hf with hf; subst hf
   obtain ⟨hlim,_⟩:=hob
   have hx:=ev_val hs e1
   by_cases hm0:m=0
   ·have hys0:ys=[]:=List.eq_nil_of_length_eq_zero (by omega)
    subst hys0
    subst hm0
    have hr:=app_in htab ht hk hu hku he tys h0 h1 o.type none 0 0 p 0 mc vs g1 (by omega) w (by simp)
    exact virtual st.hp hs.heap (.refl _) hid none _ (does _ _ (by rw [hx,hy]; exact hr))
   ·obtain ⟨nc,rest,q1,q2,q3⟩:=app_grow htab ht hk hu hku he hby hzl tys h0 h1 o.type none 0 0 p m mc [] vs' (by simp [Builtin.firstCells]) g1' (by omega) (by
     unfold maxLen47 at hlim; rw [Nat.zero_add,hml]; exact hlim)
    have hrow:=rowrel_new (w:=drawO w) (S:=stab ρ st.hp w) (sz:=ei.size) (xs:=[]) (ys:=ys) (us:=[]) (vs:=vs') (fun _ h=>by cases h) hall rest (by simp) (by rw [g2',hml]) (fun i y j d h=>by simp at h) g3'
    have key:=app_new (st:=st) (b:=b) (G:=G) (n:=n) (o:=o) (a:=a) (w0:=w) hs.heap.draw le_draw hid (sz:=ei.size) (e:=e) hpos (zs:=[] ++ ys) (len:=ys.length) (nc:=nc) hrow (by
     simp only [Array.size_append,List.size_toArray,List.length_nil,q2,g2']
     rw [Nat.zero_add,← Nat.add_mul]
     exact Nat.mul_le_mul_right _ (by omega)) (by omega) (does _ _ (by rw [hx,hy,q3,Nat.zero_add,hml])) (ys.length*ei.bytes≤maxLen47∧∀ y∈ys,y.length=ei.size)
    exact key
  ·rename_i r0 sz' len e1
   split at hf
   ·rename_i sz2 xs hr0
    split at hf
    ·rename_i hc
     obtain ⟨rfl,rfl⟩:=hc
     injection hf with hf; subst hf
     obtain ⟨hlen',hlim',_⟩:=hob
     obtain ⟨xs',hxs'⟩:∃ xs',(if pf then xs.take len else xs)=xs':=⟨_,rfl⟩
     have hlen:len=xs'.length:=by
      rw [← hxs']; cases pf
      ·simpa using hlen'
      ·simp at hlen' ⊢; omega
     have hlim:(xs'.length+ys.length)*ei.bytes≤maxLen47:=by
      rw [← hlen]; cases pf
      ·simp at hlen' hlim'; rw [hlen']; exact hlim'
      ·simpa using hlim'
     have hpre:∀ {S:Nat→Prop} {w:World} {c:Array Value},RowRel S w c ei.size xs→RowRel S w c ei.size xs':=by
      intro S w c h
      rw [← hxs']; cases pf
      ·simpa using h
      ·refine ⟨Nat.le_trans (Nat.mul_le_mul_right _ (by simp only [if_true,List.length_take]; exact Nat.min_le_right _ _)) h.1,fun x hx=>h.2.1 x (List.mem_of_mem_take hx),fun i x j d hx hj=>h.2.2 i x j d ?_ hj⟩
       simp only [if_true,List.getElem?_take] at hx
       split at hx
       ·exact hx
       ·cases hx
     simp only [hxs']
     have hne:B+j≠r0:=fun e=>by rw [e,hr0] at hid; cases hid
     have hid1:(st.hp.set r0 .dead)[B+j]? = some .hole:=by rw [List.getElem?_set_ne (fun e=>hne e.symm)]; exact hid
     have hH1:HRel P ρ (st.hp.set r0 .dead) w:=hs.heap.drop r0 .dead rfl trivial
     have l1:(ctx ρ st.hp w).le (ctx ρ (st.hp.set r0 .dead) w):=le_drop r0 .dead rfl
     rcases (ev_rel hs e1).2 with ⟨rfl,p0,hx⟩ | ⟨b0,cap,e',m',hb0,hx,hcap,hshape,hfit⟩
     ·have hxs0:xs'=[]:=List.eq_nil_of_length_eq_zero hlen.symm
      subst hxs0
      by_cases hm0:m=0
      ·have hys0:ys=[]:=List.eq_nil_of_length_eq_zero (by omega)
       subst hys0
       subst hm0
       have hvs0:vs=[]:=List.eq_nil_of_length_eq_zero (by rw [g2]; simp)
       have hr:=app_in htab ht hk hu hku he tys h0 h1 o.type p0 0 0 p 0 mc vs g1 (by omega) w (by subst hvs0; cases p0 <;> simp [storeCells])
       exact virtual _ hH1 l1 hid1 p0 _ (does _ _ (by rw [hx,hy]; exact hr))
      ·obtain ⟨nc,rest,q1,q2,q3⟩:=app_grow htab ht hk hu hku he hby hzl tys h0 h1 o.type p0 0 0 p m mc [] vs' (by cases p0 <;> simp [Builtin.firstCells,loadCells,loadCellsFrom]) g1' (by omega) (by
        unfold maxLen47 at hlim; rw [Nat.zero_add,hml]; simpa using hlim)
       have hrow:=rowrel_new (w:=drawO w) (S:=stab ρ (st.hp.set r0 .dead) w) (sz:=ei.size) (xs:=[]) (ys:=ys) (us:=[]) (vs:=vs') (fun _ h=>by cases h) hall rest (by simp) (by rw [g2',hml]) (fun i y j d h=>by simp at h)
        (fun i y j d h1 h2=>let ⟨u,hu,hd⟩:=g3' i y j d h1 h2; ⟨u,hu,hd.mono ⟨l1.step.sub,fun _ _=>rfl,Nat.le_refl _,fun _ _ _ h=>h,rfl,rfl,rfl⟩⟩)
       have key:=app_new (st:=st) (b:=b) (G:=G) (n:=n) (o:=o) (a:=a) (w0:=w) hH1.draw (l1.trans le_draw) hid1 (sz:=ei.size) (e:=e) hpos (zs:=[] ++ ys) (len:=ys.length) (nc:=nc) hrow (by
        simp only [Array.size_append,List.size_toArray,List.length_nil,q2,g2']
        rw [Nat.zero_add,← Nat.add_mul]
        exact Nat.mul_le_mul_right _ (by omega)) (by omega) (does _ _ (by rw [hx,hy,q3,Nat.zero_add,hml])) True
       rw [Nat.zero_add]
       exact key
     ·have hb0':ρ r0=some b0:=hb0
      obtain ⟨_,hor⟩:=hs.heap.objs r0 _ hr0
      rcases hor with ⟨h2,_⟩ | ⟨a0,c,e2,h2,h3,h4'⟩
      ·rw [hb0'] at h2; cases h2
      ·have h4:=hpre h4'
       rw [hb0'] at h2; injection h2 with h2; subst h2
       have h3':w.heap[b0]? = some (.cells c e2 (0,0)):=h3
       have hm':m'=c.size:=by
        have hh:w.shape? b0=some (e',m'):=hshape
        rw [shape?_eq,h3'] at hh
        simp [Obj.shape] at hh
        exact hh.2.symm
       rw [Nat.zero_add] at hfit
       subst hlen
       by_cases hroom:xs'.length+m≤cap
       ·have hfit2:(xs'.length+ys.length)*ei.size≤c.size:=by
         refine Nat.le_trans (Nat.mul_le_mul_right _ ?_) (hm'▸hfit)
         omega
        have hfit3:=hfit2
        rw [Nat.add_mul] at hfit3
        have hnew:=rowrel_append (w:=w) h4 hall (by rw [g2,hml]) g3 hfit2
        have hone:∀ v∈vs,v.oneCell'=true:=by
         intro v hv
         obtain ⟨k,hk⟩:=List.getElem?_of_mem hv
         have hklt:k<ys.length*ei.size:=by rw [← hml,← g2]; exact lt_of_get hk
         have hi:k / ei.size<ys.length:=Nat.div_lt_of_lt_mul (by rw [Nat.mul_comm]; exact hklt)
         have hyl:(ys[k / ei.size]).length=ei.size:=hall _ (List.getElem_mem hi)
         have hj2:k % ei.size<(ys[k / ei.size]).length:=by rw [hyl]; exact Nat.mod_lt _ hpos
         obtain ⟨u,hu2,hd2⟩:=g3 (k / ei.size) ys[k / ei.size] (k % ei.size) (ys[k / ei.size])[k % ei.size] (by simp [hi]) (by simp [hj2])
         have hke:k / ei.size*ei.size+k % ei.size=k:=by rw [Nat.mul_comm]; exact Nat.div_add_mod k ei.size
         rw [hke,hk] at hu2
         injection hu2 with hu2; subst hu2
         exact drel_one hd2
        have hst:=store_cells (P:=P) b0 (xs'.length*ei.size) e2 vs 0 w c h3' (by rw [g2,hml]; omega) hone
        rw [Nat.add_zero] at hst
        have hr:=app_in htab ht hk hu hku he tys h0 h1 o.type (some ⟨b0,0*ei.size,none⟩) xs'.length cap p m mc vs g1 hroom _ (by
         show (storeCells (Addr.add ⟨b0,0*ei.size,none⟩ (xs'.length*ei.size)) vs).run P w=_
         rw [addr_add,Nat.zero_mul,Nat.zero_add]; exact hst)
        have hshp:Obj.shape (.cells (splice c.toList (xs'.length*ei.size) vs).toArray e2 (0,0))=Obj.shape (.cells c e2 (0,0)):=by
         simp only [Obj.shape,Option.some.injEq,Prod.mk.injEq,true_and]
         rw [List.size_toArray,splice_length _ _ _ (by rw [g2,hml]; simp; omega)]; simp
        obtain ⟨lm,hm2⟩:=hs.heap.move hr0 rfl hb0' hid (o':=.row ei.size (xs' ++ ys)) rfl h3' hshp
        refine ⟨_,_,upd ρ (B+j) b0,.inl (does _ _ (by rw [hx,hy]; exact hr)),hm2 ?_,lm,?_⟩
        ·exact ⟨hpos,.inr ⟨b0,_,e2,rfl,setB_same _ _ _ (hs.heap.small r0 b0 hb0').2,hnew.mono lm.step⟩⟩
        ·refine ⟨by simpa [ctx] using lt_of_get hid,.inr ⟨b0,cap,e2,c.size,upd_same _ _ _,by rw [hml],by omega,?_,by rw [Nat.zero_add]; exact hm'▸hfit⟩⟩
         show (setB w b0 _).shape? b0=_
         rw [shape?_eq,setB_same _ _ _ (hs.heap.small r0 b0 hb0').2]
         simp only [Option.bind_some]
         rw [hshp]; rfl
       ·have hdX:xs'.length=0∨∃ b1 off sz,(some ⟨b0,0*ei.size,none⟩:Option Addr)=some ⟨b1,off,none⟩∧(∀ y∈xs',y.length=sz) ∧
          ∀ (i:Nat) (y:List D) (j:Nat) (d:D),xs'[i]? = some y→y[j]? = some d→∃ u,(drawO w).cell? ⟨b1,off+i*sz+j,none⟩=some u∧DRel (stab ρ (st.hp.set r0 .dead) w) (drawO w) d u:=by
         refine .inr ⟨b0,0*ei.size,ei.size,rfl,h4.2.1,fun i y j d h1 h2=>?_⟩
         obtain ⟨u,hu2,hd2⟩:=h4.2.2 i y j d h1 h2
         exact ⟨u,by show w.cell? _=_; rw [cell_heap h3',Nat.zero_mul,Nat.zero_add]; exact hu2,hd2.mono ⟨l1.step.sub,fun _ _=>rfl,Nat.le_refl _,fun _ _ _ h=>h,rfl,rfl,rfl⟩⟩
        obtain ⟨us,k1,k2,k3⟩:=firstCells_run (P:=P) (w:=drawO w) (cap:=cap) (len:=xs'.length) (ys:=xs') (sz:=ei.size) rfl h4.2.1 hdX (fun _ _ _=>trivial)
        obtain ⟨nc,rest,q1,q2,q3⟩:=app_grow htab ht hk hu hku he hby hzl tys h0 h1 o.type (some ⟨b0,0*ei.size,none⟩) xs'.length cap p m mc us vs' k1 g1' hroom (by
         unfold maxLen47 at hlim; rw [hml]; exact hlim)
        have hrow:=rowrel_new (w:=drawO w) (S:=stab ρ (st.hp.set r0 .dead) w) (sz:=ei.size) (xs:=xs') (ys:=ys) (us:=us) (vs:=vs') h4.2.1 hall rest k2 (by rw [g2',hml]) k3
         (fun i y j d h1 h2=>let ⟨u,hu,hd⟩:=g3' i y j d h1 h2; ⟨u,hu,hd.mono ⟨l1.step.sub,fun _ _=>rfl,Nat.le_refl _,fun _ _ _ h=>h,rfl,rfl,rfl⟩⟩)
        have key:=app_new (st:=st) (b:=b) (G:=G) (n:=n) (o:=o) (a:=a) (w0:=w) hH1.draw (l1.trans le_draw) hid1 (sz:=ei.size) (e:=e) hpos (zs:=xs' ++ ys) (len:=xs'.length+ys.length) (nc:=nc) hrow (by
         simp only [Array.size_append,List.size_toArray,q2,g2',k2]
         rw [← Nat.add_mul,← Nat.add_mul]
         exact Nat.mul_le_mul_right _ (by omega)) (by omega) (does _ _ (by rw [hx,hy,q3,hml])) True
        exact key
    ·cases hf
   ·cases hf
  ·cases hf
 ·cases hf
end
section
variable {P:Program} {G:Gl} {n:Nat} {b:Base} {ρ:Nat→Option Nat} {st:St} {a:Act} {w:World} {B:Nat} {r:R} {o:Oper} {tt:TT}
theorem scals_vals {k:K}:∀ {cs:List C} {l:List Value} {vs:List Value},keyOf.scals cs=some l→vs.length=cs.length→(∀ (i:Nat) c v,cs[i]? = some c→vs[i]? = some v→CRel P k c v)→vs=l
 | [],l,vs,h,hl,_=>by
  simp only [keyOf.scals,Option.some.injEq] at h
  subst h
  simpa using hl
 | c :: cs,l,[],h,hl,_=>by simp at hl
 | c :: cs,l,v :: vs,h,hl,hr=>by
  have h0:=hr 0 c v rfl rfl
  have ht:=fun l' (h':keyOf.scals cs=some l')=>scals_vals (k:=k) (vs:=vs) h' (by simpa using hl) (fun i c v hc hv=>hr (i+1) c v (by simpa using hc) (by simpa using hv))
  unfold keyOf.scals at h
  split at h
  ·rename_i heq; cases heq
  ·rename_i k1 n1 rest heq
   injection heq with e1 e2; subst e1; subst e2
   cases hq:keyOf.scals cs with
   | none=>simp [hq] at h
   | some l' =>
    simp [hq] at h
    rw [← h,ht l' hq,drel_v h0]
  ·rename_i s1 rest heq
   injection heq with e1 e2; subst e1; subst e2
   cases hq:keyOf.scals cs with
   | none=>simp [hq] at h
   | some l' =>
    simp [hq] at h
    rw [← h,ht l' hq,drel_v h0]
  ·rename_i s1 rest heq
   injection heq with e1 e2; subst e1; subst e2
   cases hq:keyOf.scals cs with
   | none=>simp [hq] at h
   | some l' =>
    simp [hq] at h
    rw [← h,ht l' hq,drel_v h0]
  ·cases h
theorem key_val (hs:Sim P G n b ρ st a w) {x:Operand} {ky:Value} (h:keyOf (ev G st.sl x)=some ky):a.eval x=ky:=by
 generalize he:ev G st.sl x=t at h
 unfold keyOf at h
 split at h
 ·injection h with h; subst h; exact ev_val hs he
 ·injection h with h; subst h; exact ev_val hs he
 ·injection h with h; subst h; exact ev_val hs he
 ·rename_i cs
  obtain ⟨vs,hv,hc⟩:=ev_rel hs he
  cases hq:keyOf.scals cs with
  | none=>simp [hq] at h
  | some l =>
   simp [hq] at h
   have:=scals_vals (P:=P) (k:=ctx ρ st.hp w) (vs:=vs.toList) hq (by simpa using hc.1) (fun i c v hc' hv'=>hc.2 i c v hc' (by simpa using hv'))
   rw [hv,← h,← this]
 ·cases h
theorem bytes_beq (x y:ByteArray):(x == y)=decide (x=y):=by rw [beq_toListBytes,toList_eq_decide]
theorem skOk_eq {k:SK} {x y:Value} (hx:skOk k x=true) (hy:skOk k y=true):skEq k x y=some (valB x y):=by
 cases k <;> cases x <;> first | (simp [skOk] at hx; done) | skip
 all_goals cases y <;> first | (simp [skOk] at hy; done) | skip
 ·rename_i k k1 p k2 q
  simp [skOk] at hx hy
  subst hx; subst hy
  have e:(p == q)=decide (p=q):=rfl
  simp only [skEq,valB,and_self,if_true,e,beq_self_eq_true,Bool.true_and]
 ·simp [skEq,valB,bool_beq]
 ·simp [skEq,valB]
theorem skEqs_conf:∀ {ks:List SK} {xs ys:List Value},sksOk ks xs=true→sksOk ks ys=true→skEqs ks xs ys=some (valsB xs ys)
 | [],[],[],_,_=>rfl
 | k :: ks,x :: xs,y :: ys,hx,hy=>by
  simp only [sksOk,Bool.and_eq_true] at hx hy
  simp only [skEqs,skOk_eq hx.1 hy.1,skEqs_conf hx.2 hy.2,valsB]
 | [],_ :: _,_,h,_=>by simp [sksOk] at h
 | [],[],_ :: _,_,h=>by simp [sksOk] at h
 | _ :: _,[],_,h,_=>by simp [sksOk] at h
 | _ :: _,_ :: _,[],_,h=>by simp [sksOk] at h
theorem keyT_spec {t:Nat} {kt:KT} (h:keyT tt t=some kt):∃ ti,tget tt t=some ti∧flatK tt 60 t=some kt.ks∧kt.agg=ti.agg:=by
 unfold keyT at h
 split at h
 ·rename_i ti hti
  split at h
  ·rename_i ks hks
   injection h with h; subst h
   exact ⟨ti,hti,hks,rfl⟩
  ·cases h
 ·cases h
theorem sksOk_len:∀ {ks:List SK} {xs:List Value},sksOk ks xs=true→xs.length=ks.length
 | [],[],_=>rfl
 | k :: ks,x :: xs,h=>by
  simp only [sksOk,Bool.and_eq_true] at h
  simp [sksOk_len h.2]
 | [],_ :: _,h=>by simp [sksOk] at h
 | _ :: _,[],h=>by simp [sksOk] at h
theorem conf_is {t:Nat} {kt:KT} {ti:TI} (hag:kt.agg=ti.agg) {x:Value} (h:conf kt x=true):∃ xs,Is ti x xs∧sksOk kt.ks xs=true:=by
 unfold conf at h
 rw [hag] at h
 cases hg:ti.agg with
 | true =>
  rw [hg] at h
  simp only [if_true] at h
  cases x <;> first | (cases h; done) | skip
  rename_i cs
  exact ⟨cs.toList,by simp [Is,hg],h⟩
 | false =>
  rw [hg] at h
  simp only [Bool.false_eq_true,if_false] at h
  exact ⟨[x],by simp [Is,hg],h⟩
theorem keyB_is {ti:TI} {x y:Value} {xs ys:List Value} (hx:Is ti x xs) (hy:Is ti y ys) (hs:∀ cs,ti.agg=false→x≠.agg cs):keyB x y=valsB xs ys:=by
 cases hg:ti.agg with
 | true =>
  simp only [Is,hg,if_true] at hx hy
  subst hx; subst hy
  simp [keyB]
 | false =>
  simp only [Is,hg,Bool.false_eq_true,if_false] at hx hy
  subst hx; subst hy
  simp only [valsB,Bool.and_true]
  unfold keyB
  split
  ·rename_i cs ds
   exact absurd rfl (hs cs hg)
  ·rfl
theorem sk_notagg {ks:List SK} {x:Value} (h:sksOk ks [x]=true):∀ cs,x≠.agg cs:=by
 intro cs e
 subst e
 cases ks with
 | nil=>simp [sksOk] at h
 | cons k ks=>cases k <;> simp [sksOk,skOk] at h
theorem key_equal (htab:tabB P tt=true) {t:Nat} {kt:KT} (hkt:keyT tt t=some kt) {x y:Value} (hx:conf kt x=true) (hy:conf kt y=true) (w:World):(Op.equal t x y).run P w = .ok (keyB x y) w:=by
 obtain ⟨ti,ht,hks,hag⟩:=keyT_spec hkt
 obtain ⟨xs,ix,sx⟩:=conf_is (t:=t) hag hx
 obtain ⟨ys,iy,sy⟩:=conf_is (t:=t) hag hy
 rw [keyB_is ix iy (fun cs hg=>by
  simp only [Is,hg,Bool.false_eq_true,if_false] at ix
  subst ix
  exact sk_notagg sx cs)]
 exact (flat_eq htab 60).1 10000 t ti _ _ _ _ _ _ (by omega) ht hks ix iy (skEqs_conf sx sy) w
def fnd:List MapEntry→Value→Nat→Option (Nat×Value)
 | [],_,_=>none
 | e :: es,k,i=>if keyB k e.key then some (i,e.val) else fnd es k (i+1)
theorem asking_run (htab:tabB P tt=true) {t:Nat} {kt:KT} (hkt:keyT tt t=some kt) {x:Value} (hx:conf kt x=true) (w:World):∀ (es:List MapEntry) (i:Nat),(∀ e∈es,conf kt e.key=true) →
  (Instr.findAsking t x es i).run P w = .ok (fnd es x i) w
 | [],i,_=>by simp [Instr.findAsking,fnd]
 | e :: es,i,h=>by
  simp only [Instr.findAsking,Sem.run_bind,key_equal htab hkt hx (h e List.mem_cons_self) w,Result.andThen_ok,fnd]
  cases keyB x e.key
  ·simp [asking_run htab hkt hx w es (i+1) (fun e' he=>h e' (List.mem_cons_of_mem _ he))]
  ·simp
theorem same_keyB {d:TypeDesc} {x y:Value} {c:Bool} (h:Instr.sameNow d x y=some c):keyB x y=c∧True:=by
 unfold Instr.sameNow at h
 split at h
 ·rename_i k p k' q
  split at h
  ·rename_i hk; subst hk
   injection h with h
   subst h
   have e:(p == q)=decide (p=q):=rfl
   simp [keyB,valB]
  ·cases h
 ·injection h with h
  subst h
  refine ⟨?_,trivial⟩
  rename_i p q
  simp only [keyB,valB]
  exact (bytes_beq p q).symm
 ·injection h with h
  subst h
  simp [keyB,valB]
 ·cases h
theorem now_run {d:TypeDesc} {x:Value}:∀ (es:List MapEntry) (i:Nat) (r:Option (Nat×Value)),Instr.findNow d x es i=some r→r=fnd es x i
 | [],i,r,h=>by simp [Instr.findNow] at h; simp [fnd,← h]
 | e :: es,i,r,h=>by
  simp only [Instr.findNow] at h
  simp only [fnd]
  split at h
  ·rename_i hs
   rw [(same_keyB hs).1]
   simpa using h.symm
  ·rename_i hs
   rw [(same_keyB hs).1]
   simpa using now_run es (i+1) r h
  ·cases h
theorem find_run (htab:tabB P tt=true) {t:Nat} {kt:KT} (hkt:keyT tt t=some kt) {x:Value} (hx:conf kt x=true) (w:World) (es:List MapEntry) (h:∀ e∈es,conf kt e.key=true) :
  (Instr.findKey t x es).run P w = .ok (fnd es x 0) w:=by
 obtain ⟨ti,ht,hks,hag⟩:=keyT_spec hkt
 obtain ⟨d,hu,hd⟩:=run_under htab ht
 simp only [Instr.findKey,Sem.run_bind,run_underlying hu,Result.andThen_ok]
 cases hq:Instr.findNow d x es 0 with
 | some r=>simp [now_run es 0 r hq]
 | none=>simp only; exact asking_run htab hkt hx w es 0 h
theorem check_run (htab:tabB P tt=true) (emp:Bool):∀ (d:Nat) (N:Nat) t ti ks x xs,d≤N→tget tt t=some ti→flatK tt d t=some ks→Is ti x xs→xs.length=ks.length→∀ w,(Instr.checkKey emp N t x).run P w = .ok () w:=by
 intro d
 have flds:∀ d,(∀ (N:Nat) t ti ks x xs,d≤N→tget tt t=some ti→flatK tt d t=some ks→Is ti x xs→xs.length=ks.length→∀ w,(Instr.checkKey emp N t x).run P w = .ok () w) ∧
  (∀ (N:Nat) run (fl:List Field) ks (xs:Array Value),d≤N→(∀ f∈fl,f.name ≠ "_")→flatF tt d run (fl.map fun f=>(f.offset,f.type))=some ks→run+ks.length≤xs.size →
   ∀ w,(forIn fl PUnit.unit (fun (f:Field) (_:PUnit)=>(do
    if f.name ≠ "_" then
     let v ← part f.type xs f.offset
     Instr.checkKey emp N f.type v
    pure (ForInStep.yield PUnit.unit):Sem (ForInStep PUnit)))).run P w = .ok PUnit.unit w):=by
  intro d
  induction d with
  | zero =>
   refine ⟨fun N t ti ks x xs _ ht h=>by simp [flatK] at h,fun N run fl ks xs _ hn h _ w=>?_⟩
   cases fl with
   | nil=>simp
   | cons f fl=>simp [flatF] at h
  | succ d ih =>
   refine ⟨fun N t ti ks x xs hN ht h hx hl w=>?_,fun N run fl ks xs hN hn h hlx w=>?_⟩
   ·obtain ⟨N,rfl⟩:∃ m,N=m+1:=⟨N-1,by omega⟩
    obtain ⟨dd,hu,hk⟩:=run_under htab ht
    simp only [flatK,ht] at h
    split at h
    ·rename_i k hkind
     rw [hkind] at hk
     rw [kindB_int hk] at hu
     simp [Instr.checkKey,run_underlying hu]
    ·rename_i hkind
     rw [hkind] at hk
     rw [kindB_bool hk] at hu
     simp [Instr.checkKey,run_underlying hu]
    ·rename_i hkind
     rw [hkind] at hk
     rw [kindB_str hk] at hu
     simp [Instr.checkKey,run_underlying hu]
    ·rename_i fs hkind
     rw [hkind] at hk
     split at h
     ·rename_i hc
      simp only [Bool.and_eq_true] at hc
      obtain ⟨flds,hd,hmap,hnames⟩:=kindB_st hk
      subst hd
      simp only [Is,hc.2,if_true] at hx
      subst hx
      have:=ih.2 N 0 flds.toList ks xs.toArray (by omega) hnames (by rw [hmap]; exact h) (by simp [hl]) w
      simp only [Instr.checkKey,Sem.run_bind,run_underlying hu,Result.andThen_ok]
      rw [← Array.forIn_toList]
      erw [this]
      rfl
     ·cases h
    ·cases h
   ·cases fl with
    | nil=>simp
    | cons f fl =>
     simp only [List.map_cons,flatF] at h
     split at h
     ·rename_i hoff
      split at h
      ·rename_i ks1 hks1
       split at h
       ·rename_i ti1 hti1
        split at h
        ·rename_i hlen1
         split at h
         ·rename_i ks2 hks2
          injection h with h
          subst h
          simp only [List.length_append] at hlx
          have hsz1:ti1.agg=false→ti1.size=1:=fun hg=>by
           rw [← hlen1]; exact flatK_size d f.type ks1 ti1 hti1 hks1 hg
          obtain ⟨x1,hx1,ix1⟩:=part_run htab hti1 xs f.offset hsz1 (by rw [hoff,← hlen1]; omega) w
          have hq1:=ih.1 N f.type ti1 ks1 x1 _ (by omega) hti1 hks1 ix1 (by rw [List.length_take,List.length_drop,hlen1]; simp; omega) w
          have hq2:=ih.2 N (run+ks1.length) fl ks2 xs (by omega) (fun g hg=>hn g (List.mem_cons_of_mem _ hg)) hks2 (by omega) w
          have hne:=hn f List.mem_cons_self
          rw [List.forIn_cons]
          simp only [if_pos hne,Sem.run_bind,hx1,hq1,Result.andThen_ok,Sem.run_pure]
          exact hq2
         ·cases h
        ·cases h
       ·cases h
      ·cases h
     ·cases h
 exact (flds d).1
theorem keyB_eq {x y:Value} (h:keyB x y=true):x=y:=by
 unfold keyB at h
 split at h
 ·rename_i a b
  have:=valsB_eq h
  congr 1
  exact Array.ext' this
 ·exact valB_eq h
theorem sameBits_one {k:SK} {x:Value} (h:skOk k x=true) (m:Nat):Instr.sameBits m x x=true:=by
 cases k <;> cases x <;> first | (simp [skOk] at h; done) | skip
 all_goals (unfold Instr.sameBits; simp [bytes_beq])
theorem sameBits_list:∀ {ks:List SK} {xs:List Value} (h:sksOk ks xs=true) (m:Nat),((xs.zip xs).all fun (p:Value×Value)=>match p with | (x,y)=>Instr.sameBits m x y)=true
 | [],[],_,_=>rfl
 | k :: ks,x :: xs,h,m=>by
  simp only [sksOk,Bool.and_eq_true] at h
  simp only [List.zip_cons_cons,List.all_cons,sameBits_one h.1,sameBits_list h.2,Bool.and_self]
 | [],_ :: _,h,_=>by simp [sksOk] at h
 | _ :: _,[],h,_=>by simp [sksOk] at h
theorem sameBits_conf {kt:KT} {x:Value} (h:conf kt x=true) (m:Nat):Instr.sameBits (m+1) x x=true:=by
 unfold conf at h
 split at h
 ·cases x <;> first | (cases h; done) | skip
  rename_i cs
  unfold Instr.sameBits
  simp only [beq_self_eq_true,Bool.true_and]
  exact sameBits_list h m
 ·cases hks:kt.ks with
  | nil=>rw [hks] at h; simp [sksOk] at h
  | cons k ks =>
   rw [hks] at h
   simp only [sksOk,Bool.and_eq_true] at h
   exact sameBits_one h.1 _
theorem erel_of {S:Nat→Prop}:∀ {es:List (Value×PV)} {ces:List MapEntry},ces.length=es.length→(∀ (i:Nat) ky pv e,es[i]? = some (ky,pv)→ces[i]? = some e→e.key=ky∧PRel S w pv e.val)→ERel S w es ces
 | [],[],_,_=>trivial
 | (ky,pv) :: es,e :: ces,hl,h=>⟨(h 0 ky pv e rfl rfl).1,(h 0 ky pv e rfl rfl).2,erel_of (by simpa using hl) (fun i ky pv e h1 h2=>h (i+1) ky pv e (by simpa using h1) (by simpa using h2))⟩
 | [],_ :: _,hl,_=>by simp at hl
 | _ :: _,[],hl,_=>by simp at hl
theorem of_erel {S:Nat→Prop}:∀ {es:List (Value×PV)} {ces:List MapEntry},ERel S w es ces→ces.length=es.length∧∀ (i:Nat) ky pv e,es[i]? = some (ky,pv)→ces[i]? = some e→e.key=ky∧PRel S w pv e.val
 | [],[],_=>⟨rfl,fun i ky pv e h=>by simp at h⟩
 | (ky,pv) :: es,e :: ces,⟨h1,h2,h3⟩=>by
  obtain ⟨g1,g2⟩:=of_erel h3
  refine ⟨by simp [g1],fun i ky' pv' e' h h'=>?_⟩
  cases i with
  | zero =>
   simp at h h'
   obtain ⟨rfl,rfl⟩:=h
   subst h'
   exact ⟨h1,h2⟩
  | succ i=>exact g2 i ky' pv' e' (by simpa using h) (by simpa using h')
 | [],_ :: _,h=>h.elim
 | _ :: _,[],h=>h.elim
theorem fnd_spec {S:Nat→Prop} (ky:Value):∀ {es:List (Value×PV)} {ces:List MapEntry} (i:Nat),ERel S w es ces →
  (fnd ces ky i=none∧mfind es ky=none∧(∀ pv,mput es ky pv=es ++ [(ky,pv)])∧mdel es ky=es) ∨
  ∃ j v pv,fnd ces ky i=some (i+j,v)∧mfind es ky=some pv∧PRel S w pv v∧(∀ pv,mput es ky pv=es.set j (ky,pv))∧mdel es ky=es.eraseIdx j∧∃ e,ces[j]? = some e∧e.key=ky∧e.val=v
 | [],[],i,_=>.inl ⟨rfl,rfl,fun _=>rfl,rfl⟩
 | (k',p') :: es,e :: ces,i,⟨h1,h2,h3⟩=>by
  simp only [fnd,mfind,mput,mdel,h1]
  cases hk:keyB ky k' with
  | true =>
   simp only [if_true]
   have hky:=keyB_eq hk
   exact .inr ⟨0,e.val,p',by simp,rfl,h2,fun pv=>by simp,by simp,e,rfl,by rw [h1,hky],rfl⟩
  | false =>
   simp only [Bool.false_eq_true,if_false]
   rcases fnd_spec ky (i+1) h3 with ⟨a,b,c,d⟩ | ⟨j,v,pv,a,b,c,d,e1,e2,e3,e4⟩
   ·exact .inl ⟨a,b,fun pv=>by simp [c],by simp [d]⟩
   ·exact .inr ⟨j+1,v,pv,by rw [a]; simp; omega,b,c,fun pv=>by simp [d],by simp [e1],e2,by simpa using e3,e4⟩
 | [],_ :: _,_,h=>h.elim
 | _ :: _,[],_,h=>h.elim
theorem pv_rel {k:K} {p:PV} {v:Value} (h:PRel k.S k.w p v):VRel P k p.toV v:=by
 cases p with
 | c x=>exact h
 | agg ds =>
  obtain ⟨vs,rfl,h⟩:=h
  refine ⟨vs,rfl,by simpa using h.1,fun i c v hc hv=>?_⟩
  rw [List.getElem?_map] at hc
  cases hd:ds[i]? with
  | none=>rw [hd] at hc; cases hc
  | some d =>
   rw [hd] at hc
   simp at hc
   subst hc
   exact h.2 i d v hd hv
theorem zero_pv (htab:tabB P tt=true) {e:Nat} {ei:TI} (he:tget tt e=some ei) (k:K) (w:World):∃ z,(zeroValue e).run P w = .ok z w∧VRel P k ei.pv.toV z:=by
 obtain ⟨z,hz,hzl,ha,hb⟩:=run_zero htab he w
 refine ⟨z,hz,?_⟩
 unfold TI.pv
 cases hg:ei.agg with
 | true =>
  obtain ⟨cs,rfl⟩:=ha hg
  simp only [if_true,PV.toV]
  exact ⟨cs,rfl,zero_rel (zero_one htab he) cs hzl⟩
 | false =>
  have hc:=hb hg
  rw [hc] at hzl
  simp only [Bool.false_eq_true,if_false,← hzl]
  exact DRel.v _ (zero_one htab he z (by rw [← hzl]; simp))
theorem getObj_map {r:Nat} {ces:Array MapEntry} {cl:Nat} (h:w.heap[r]? = some (.map ces cl)):(getObj r).run P w = .ok (.map ces cl) w:=by
 simp only [getObj,Sem.run,h]
theorem setObj_map {r:Nat} {ces:Array MapEntry} {cl:Nat} (h:w.heap[r]? = some (.map ces cl)) (ob:Obj):(setObj r ob).run P w = .ok () (setB w r ob):=by
 simp only [setObj,Sem.run,h]; rfl
theorem map_keys {H:List O} (h:HRel P ρ H w) {r b0:Nat} {kt:KT} {es:List (Value×PV)} (hr:H[r]? = some (.map kt es)) (hb:ρ r=some b0) :
  ∃ ces cl,w.heap[b0]? = some (.map ces cl)∧ERel (stab ρ H w) w es ces.toList∧(∀ e∈ces.toList,conf kt e.key=true)∧∀ p∈es,conf kt p.1=true:=by
 obtain ⟨h0,a,ces,cl,h1,h2,h3,h4,_⟩:=h.objs r _ hr
 rw [hb] at h1; injection h1 with h1; subst h1
 refine ⟨ces,cl,h2,erel_of (by simpa using h3) (fun i ky pv e hi he=>h4 i ky pv e hi (by simpa using he)),fun e he=>?_,h0⟩
 obtain ⟨i,hi⟩:=List.getElem?_of_mem he
 have hlt:i<es.length:=by rw [← h3]; simpa using lt_of_get hi
 have:=h4 i es[i].1 es[i].2 e (by simp [hlt]) (by simpa using hi)
 rw [this.1]
 exact h0 _ (List.getElem_mem hlt)
theorem map_stp {H:List O} (h:HRel P ρ H w) {r b0:Nat} {kt:KT} {es:List (Value×PV)} (hr:H[r]? = some (.map kt es)) (hb:ρ r=some b0) {ces:Array MapEntry} {cl:Nat} (hh:w.heap[b0]? = some (.map ces cl)):Stp ces cl:=by
 obtain ⟨h0,a,ces',cl',h1,h2,h3,h4,h5⟩:=h.objs r _ hr
 rw [hb] at h1; injection h1 with h1; subst h1
 have h2:w.heap[b0]? = some (.map ces' cl'):=h2
 rw [hh] at h2
 simp only [Option.some.injEq,Obj.map.injEq] at h2
 obtain ⟨rfl,rfl⟩:=h2
 exact h5
theorem check_key (htab:tabB P tt=true) {t:Nat} {kt:KT} (hkt:keyT tt t=some kt) {x:Value} (hx:conf kt x=true) (emp:Bool) (w:World):(Instr.checkKey emp 10000 t x).run P w = .ok () w:=by
 obtain ⟨ti,ht,hks,hag⟩:=keyT_spec hkt
 obtain ⟨xs,ix,sx⟩:=conf_is (t:=t) hag hx
 exact check_run htab emp 60 10000 t ti _ x xs (by omega) ht hks ix (sksOk_len sx) w
theorem drel_mp {S:Nat→Prop} {w:World} {kt:KT} {es:List (Value×PV)} {v:Value} (h:DRel S w (.mp kt es) v) :
  ∃ b0 ces cl,v = .map (some b0)∧w.heap[b0]? = some (.map ces cl)∧ERel S w es ces.toList∧(∀ e∈ces.toList,conf kt e.key=true):=by
 cases h with
 | mp _ _ b ces cl vals cells hS hb hh hsz hc h1 h2 h3 h4 =>
  have hE:ERel S w es ces.toList:=by
   refine erel_of (by simpa using hsz) (fun i ky pv e hi he=>?_)
   obtain ⟨e',q1,q2,q3⟩:=h1 i ky pv hi
   rw [Array.getElem?_toList,q1] at he
   injection he with he; subst he
   refine ⟨q2,?_⟩
   rw [q3]
   cases pv with
   | c x=>exact h2 i ky x hi
   | agg ds =>
    obtain ⟨r1,r2⟩:=h3 i ky ds hi
    refine ⟨cells i,r1,r2,fun j d v hd hv=>?_⟩
    have:=h4 i ky ds j d hi hd
    simp [Array.getD_eq_getD_getElem?,hv] at this
    exact this
  refine ⟨b,ces,cl,rfl,hh,hE,fun e he=>?_⟩
  obtain ⟨i,hi⟩:=List.getElem?_of_mem he
  have hlt:i<es.length:=by rw [← hsz]; simpa using lt_of_get hi
  obtain ⟨e',q1,q2,_⟩:=h1 i es[i].1 es[i].2 (by simp [hlt])
  rw [Array.getElem?_toList,q1] at hi
  injection hi with hi; subst hi
  rw [q2]
  exact hc _ (List.getElem_mem hlt)
theorem look_core (htab:tabB P tt=true) (hs:Sim P G n b ρ st a w) {t kty e:Nat} {ti ei:TI} (hu:P.underlying t=some (.map kty e)) (he:tget tt e=some ei) {kt:KT} (hkt:keyT tt kty=some kt) (x y:Operand) (ok:Bool) (ho:o.op = .lookup t x y ok)
  {ky:Value} (hconf:conf kt ky=true) (hy:a.eval y=ky) {b0:Nat} {ces:Array MapEntry} {cl:Nat} (hx:a.eval x = .map (some b0)) (hh:w.heap[b0]? = some (.map ces cl)) {es:List (Value×PV)}
  (hE:ERel (stab ρ st.hp w) w es ces.toList) (hck:∀ e∈ces.toList,conf kt e.key=true)
  (hf:(match mfind es ky with
    | some v=>some ⟨True,if ok then .tup [v.toV,.c (.d (.v (.bool true)))] else .v v.toV,st.hp⟩
    | none=>some ⟨True,if ok then .tup [ei.pv.toV,.c (.d (.v (.bool false)))] else .v ei.pv.toV,st.hp⟩)=some r):Sound P G n b ρ st a w o r:=by
 have hfr:=find_run htab hkt hconf w ces.toList hck
 have hchk:=check_key htab hkt hconf ces.isEmpty w
 have hdo:∀ v,(Instr.lookup t (a.eval x) (a.eval y) ok).run P w = .ok v w→(execOp a.eval o).run P w = .ok (.value v) w:=fun v h=>does_v (s:=Instr.lookup t (a.eval x) (a.eval y) ok) (by simp [execOp,ho]) h
 obtain ⟨z,hz,hzr⟩:=zero_pv (P:=P) htab he (ctx ρ st.hp w) w
 rcases fnd_spec (w:=w) ky 0 hE with ⟨f1,f2,_,_⟩ | ⟨j,v,pv,f1,f2,f3,_,_,_⟩
 ·rw [f2] at hf
  injection hf with hf; subst hf
  rw [f1] at hfr
  cases ok with
  | true =>
   refine Sound.same hs (v:=.tuple #[z,.bool false]) (hdo _ ?_) ⟨_,rfl,rfl,fun i c v hc hv=>?_⟩
   ·rw [hx,hy]
    simp [Instr.lookup,run_underlying hu,getObj_map hh,hchk,hfr,hz]
   ·cases i with
    | zero=>simp at hc hv; subst hc; subst hv; exact hzr
    | succ i =>
     cases i with
     | zero=>simp at hc hv; subst hc; subst hv; exact DRel.v _ rfl
     | succ i=>simp at hc
  | false =>
   refine Sound.same hs (v:=z) (hdo _ ?_) hzr
   rw [hx,hy]
   simp [Instr.lookup,run_underlying hu,getObj_map hh,hchk,hfr,hz]
 ·rw [f2] at hf
  injection hf with hf; subst hf
  rw [f1] at hfr
  have hvr:=pv_rel (P:=P) (k:=ctx ρ st.hp w) f3
  cases ok with
  | true =>
   refine Sound.same hs (v:=.tuple #[v,.bool true]) (hdo _ ?_) ⟨_,rfl,rfl,fun i c v hc hv=>?_⟩
   ·rw [hx,hy]
    simp [Instr.lookup,run_underlying hu,getObj_map hh,hchk,hfr]
   ·cases i with
    | zero=>simp at hc hv; subst hc; subst hv; exact hvr
    | succ i =>
     cases i with
     | zero=>simp at hc hv; subst hc; subst hv; exact DRel.v _ rfl
     | succ i=>simp at hc
  | false =>
   refine Sound.same hs (v:=v) (hdo _ ?_) hvr
   rw [hx,hy]
   simp [Instr.lookup,run_underlying hu,getObj_map hh,hchk,hfr]
theorem s_look (htab:tabB P tt=true) (hs:Sim P G n b ρ st a w) {t kty e:Nat} {ti ei:TI} (ht:tget tt t=some ti) (hk:ti.kind = .map kty e) (he:tget tt e=some ei) {kt:KT} (hkt:keyT tt kty=some kt) (x y:Operand) (ok:Bool) (ho:o.op = .lookup t x y ok)
  (hf:fop B st.hp (ev G st.sl) (.look kt ei.pv x y ok)=some r):Sound P G n b ρ st a w o r:=by
 obtain ⟨d,hu,hd⟩:=run_under htab ht
 rw [hk] at hd
 rw [kindB_map hd] at hu
 simp only [fop] at hf
 split at hf
 ·rename_i r0 ky e1 e2
  split at hf
  ·rename_i kt' es hr
   split at hf
   ·rename_i hc
    obtain ⟨rfl,hconf⟩:=hc
    obtain ⟨_,b0,hb0,hx⟩:=ev_rel hs e1
    obtain ⟨ces,cl,hh,hE,hck,_⟩:=map_keys hs.heap hr (b0:=b0) hb0
    exact look_core (ti:=ti) htab hs hu he hkt x y ok ho hconf (key_val hs e2) hx hh hE hck hf
   ·cases hf
  ·cases hf
 ·rename_i kt' es ky e1 e2
  split at hf
  ·rename_i hc
   obtain ⟨rfl,hconf⟩:=hc
   obtain ⟨b0,ces,cl,hx,hh,hE,hck⟩:=drel_mp (ev_rel hs e1)
   exact look_core (ti:=ti) htab hs hu he hkt x y ok ho hconf (key_val hs e2) hx hh hE hck hf
  ·cases hf
 ·cases hf
end
section
variable {P:Program} {G:Gl} {n:Nat} {b:Base} {ρ:Nat→Option Nat} {st:St} {a:Act} {w:World} {B:Nat} {r:R} {o:Oper} {tt:TT}
theorem erel_append {S:Nat→Prop} {ky:Value} {pv:PV} {e:MapEntry} (hk:e.key=ky) (hv:PRel S w pv e.val):∀ {es:List (Value×PV)} {ces:List MapEntry},ERel S w es ces→ERel S w (es ++ [(ky,pv)]) (ces ++ [e])
 | [],[],_=>⟨hk,hv,trivial⟩
 | (k',p') :: es,c :: ces,⟨h1,h2,h3⟩=>⟨h1,h2,erel_append hk hv h3⟩
 | [],_ :: _,h=>h.elim
 | _ :: _,[],h=>h.elim
theorem erel_set {S:Nat→Prop} {ky:Value} {pv:PV} {e:MapEntry} (hk:e.key=ky) (hv:PRel S w pv e.val):∀ {es:List (Value×PV)} {ces:List MapEntry} (j:Nat),ERel S w es ces→ERel S w (es.set j (ky,pv)) (ces.set j e)
 | [],[],j,_=>by simp; trivial
 | (k',p') :: es,c :: ces,0,⟨h1,h2,h3⟩=>⟨hk,hv,h3⟩
 | (k',p') :: es,c :: ces,j+1,⟨h1,h2,h3⟩=>⟨h1,h2,erel_set hk hv j h3⟩
 | [],_ :: _,_,h=>h.elim
 | _ :: _,[],_,h=>h.elim
theorem erel_erase {S:Nat→Prop}:∀ {es:List (Value×PV)} {ces:List MapEntry} (j:Nat),ERel S w es ces→ERel S w (es.eraseIdx j) (ces.eraseIdx j)
 | [],[],j,_=>by simp; trivial
 | (k',p') :: es,c :: ces,0,⟨h1,h2,h3⟩=>h3
 | (k',p') :: es,c :: ces,j+1,⟨h1,h2,h3⟩=>⟨h1,h2,erel_erase j h3⟩
 | [],_ :: _,_,h=>h.elim
 | _ :: _,[],_,h=>h.elim
theorem orel_map {k:K} {b0:Nat} {kt:KT} {es:List (Value×PV)} {ces:Array MapEntry} {cl:Nat} (hconf:∀ p∈es,conf kt p.1=true) (hh:k.w.heap[b0]? = some (.map ces cl)) (hE:ERel k.S k.w es ces.toList) (hst:Stp ces cl):ORel P k (some b0) (.map kt es):=by
 obtain ⟨g1,g2⟩:=of_erel hE
 exact ⟨hconf,b0,ces,cl,rfl,hh,by simpa using g1,fun i ky pv e h1 h2=>g2 i ky pv e h1 (by simpa using h2),hst⟩
theorem stp_push {ces:Array MapEntry} {cl:Nat} (h:Stp ces cl) {ky v:Value}:Stp (ces.push { key:=ky,val:=v,born:=cl }) (cl+1):=by
 refine ⟨fun e he=>?_,?_⟩
 ·rw [Array.toList_push] at he
  rcases List.mem_append.1 he with he | he
  ·exact Nat.lt_succ_of_lt (h.1 e he)
  ·rw [List.mem_singleton.1 he]; exact Nat.lt_succ_self _
 ·rw [Array.toList_push,List.map_append]
  refine List.nodup_append.2 ⟨h.2,by simp,fun a ha b hb=>?_⟩
  obtain ⟨e,he,rfl⟩:=List.mem_map.1 ha
  simp at hb
  subst hb
  exact Nat.ne_of_lt (h.1 e he)
theorem stp_modify {ces:Array MapEntry} {cl:Nat} (h:Stp ces cl) (j:Nat) (ky v:Value):Stp (ces.modify j fun e=>{ e with key:=ky,val:=v }) cl:=by
 have hb:(ces.modify j fun e=>{ e with key:=ky,val:=v }).toList.map MapEntry.born=ces.toList.map MapEntry.born:=by
  apply List.ext_getElem?
  intro i
  rw [List.getElem?_map,List.getElem?_map,Array.getElem?_toList,Array.getElem?_modify,Array.getElem?_toList]
  split
  ·rename_i e
   cases ces[i]? <;> rfl
  ·rfl
 refine ⟨fun e he=>?_,by rw [hb]; exact h.2⟩
 have:e.born∈ces.toList.map MapEntry.born:=by rw [← hb]; exact List.mem_map_of_mem he
 obtain ⟨e',he',q⟩:=List.mem_map.1 this
 rw [← q]; exact h.1 e' he'
theorem stp_erase {ces:Array MapEntry} {cl:Nat} (h:Stp ces cl) (j:Nat):Stp (ces.eraseIdxIfInBounds j) cl:=by
 have hb:(ces.eraseIdxIfInBounds j).toList=ces.toList.eraseIdx j:=by simp
 refine ⟨fun e he=>?_,?_⟩
 ·rw [hb] at he; exact h.1 e (List.mem_of_mem_eraseIdx he)
 ·rw [hb]
  exact h.2.sublist ((List.eraseIdx_sublist _ _).map _)
theorem topv_rel {H:List O} (h:HRel P ρ H w) {u:V} {pv:PV} (hpv:toPV H u=some pv) {v:Value} (hu:VRel P (ctx ρ H w) u v):PRel (stab ρ (frz H u.cells) w) w pv v:=by
 obtain ⟨h1,l1⟩:=frz_rel u.cells h
 cases u with
 | any=>simp [toPV] at hpv
 | c x =>
  simp only [toPV] at hpv
  split at hpv
  ·rename_i d hd
   injection hpv with hpv; subst hpv
   exact toD_rel h1 (fun r sz off len sz' xs e hr=>frz_hz H _ x (by simp [V.cells]) r sz off len sz' xs e hr) hd (CRel.mono hu l1)
  ·cases hpv
 | agg cs =>
  simp only [toPV] at hpv
  split at hpv
  ·rename_i ds hd
   injection hpv with hpv; subst hpv
   obtain ⟨vs,rfl,hc⟩:=hu
   exact ⟨vs,rfl,(dsrel_of h hc hd).1⟩
  ·cases hpv
theorem s_mapup (htab:tabB P tt=true) (hs:Sim P G n b ρ st a w) {t kty e:Nat} {ti:TI} (ht:tget tt t=some ti) (hk:ti.kind = .map kty e) {kt:KT} (hkt:keyT tt kty=some kt) (x y z:Operand) (ho:o.op = .mapUpdate t x y z∨o.op = .insert t x y z)
  (hf:fop B st.hp (ev G st.sl) (.mapup kt x y z)=some r):Sound P G n b ρ st a w o r:=by
 obtain ⟨d,hu,hd⟩:=run_under htab ht
 rw [hk] at hd
 rw [kindB_map hd] at hu
 simp only [fop] at hf
 split at hf
 ·rename_i r0 ky u e1 e2 e3
  split at hf
  ·rename_i pv hpv
   split at hf
   ·rename_i kt' es hr
    split at hf
    ·rename_i hc
     obtain ⟨rfl,hconf⟩:=hc
     injection hf with hf; subst hf
     obtain ⟨_,b0,hb0,hx⟩:=ev_rel hs e1
     have hb0':ρ r0=some b0:=hb0
     have hy:=key_val hs e2
     have hz:VRel P (ctx ρ st.hp w) u (a.eval z):=ev_rel hs e3
     have hP:=topv_rel hs.heap hpv hz
     obtain ⟨hH,l1⟩:=frz_rel u.cells hs.heap
     obtain ⟨ces,cl,hh,hE,hck,hck'⟩:=map_keys hH hr hb0'
     have hstp:=map_stp hH hr hb0' hh
     have hfr:=find_run htab hkt hconf w ces.toList hck
     have hchk:=check_key htab hkt hconf false w
     have hdo:∀ w',(Instr.mapUpdate t (a.eval x) (a.eval y) (a.eval z)).run P w = .ok () w'→(execOp a.eval o).run P w = .ok .skip w':=fun w' h=>does_u (s:=Instr.mapUpdate t (a.eval x) (a.eval y) (a.eval z)) (by rcases ho with ho | ho <;> simp [execOp,ho]) h
     have fin:∀ (ces':Array MapEntry) (cl':Nat) (es':List (Value×PV)),(Instr.mapUpdate t (a.eval x) (a.eval y) (a.eval z)).run P w = .ok () (setB w b0 (.map ces' cl'))→Stp ces' cl'→ERel (stab ρ (frz st.hp u.cells) w) w es' ces'.toList→(∀ p∈es',conf kt' p.1=true)→es'=mput es ky pv →
       Sound P G n b ρ st a w o ⟨True,.v .any,(frz st.hp u.cells).set r0 (.map kt' (mput es ky pv))⟩:=by
      intro ces' cl' es' hrun hst hE' hc' hes
      subst hes
      have hle:=HRel.le_setB (w:=w) hr rfl hb0' hh (ob':=.map ces' cl') rfl (.map kt' (mput es ky pv)) rfl
      refine ⟨undef,_,ρ,.inr ⟨rfl,hdo _ hrun⟩,hH.setB hr rfl hb0' hh (ob':=.map ces' cl') rfl _ rfl ?_,l1.trans hle,trivial⟩
      exact orel_map hc' (setB_same _ _ _ (hs.heap.small r0 b0 hb0').2) (hE'.mono hle.step) hst
     rcases fnd_spec (w:=w) ky 0 hE with ⟨f1,f2,f3,_⟩ | ⟨j,v,pv',f1,f2,f3,f4,_,⟨e0,f5,f6,f7⟩⟩
     ·rw [f1] at hfr
      refine fin (ces.push { key:=ky,val:=a.eval z,born:=cl }) (cl+1) (es ++ [(ky,pv)]) ?_ (stp_push hstp) ?_ ?_ (f3 pv).symm
      ·rw [hx,hy]
       simp [Instr.mapUpdate,run_underlying hu,getObj_map hh,hchk,hfr,setObj_map hh]
      ·rw [Array.toList_push]
       exact erel_append (e:={ key:=ky,val:=a.eval z,born:=cl }) rfl hP hE
      ·intro p hp
       rcases List.mem_append.1 hp with hp | hp
       ·exact hck' p hp
       ·simp at hp; subst hp; exact hconf
     ·rw [f1] at hfr
      have hj:ces[j]? = some e0:=by simpa using f5
      have hkey:(Instr.keyThatStays ky ky).run P w = .ok ky w:=by
       simp [Instr.keyThatStays,sameBits_conf hconf 9999]
      refine fin (ces.modify j fun e=>{ e with key:=ky,val:=a.eval z }) cl (es.set j (ky,pv)) ?_ (stp_modify hstp _ _ _) ?_ ?_ (f4 pv).symm
      ·rw [hx,hy]
       simp only [Instr.mapUpdate,Sem.run_bind,run_underlying hu,Result.andThen_ok,getObj_map hh,hchk,hfr,Nat.zero_add,hj,Option.map_some,Option.getD_some,f6,hkey,setObj_map hh]
      ·have hlt:j<ces.size:=by simpa using lt_of_get f5
       have:(ces.modify j fun e=>{ e with key:=ky,val:=a.eval z }).toList=ces.toList.set j { e0 with key:=ky,val:=a.eval z }:=by
        apply List.ext_getElem?
        intro i
        rw [Array.getElem?_toList,Array.getElem?_modify,List.getElem?_set]
        by_cases e:j=i
        ·subst e
         rw [if_pos rfl,if_pos rfl,if_pos (by simpa using hlt),hj]; rfl
        ·rw [if_neg e,if_neg e,Array.getElem?_toList]
       rw [this]
       exact erel_set (e:={ e0 with key:=ky,val:=a.eval z }) rfl hP j hE
      ·intro p hp
       obtain ⟨i,hi⟩:=List.getElem?_of_mem hp
       rcases getElem?_set' _ _ _ _ _ hi with ⟨_,rfl⟩ | ⟨_,hi'⟩
       ·exact hconf
       ·exact hck' p (List.mem_of_getElem? hi')
    ·cases hf
   ·cases hf
  ·cases hf
 ·cases hf
theorem s_mapdel (htab:tabB P tt=true) (hs:Sim P G n b ρ st a w) {t kty e:Nat} {ti:TI} (ht:tget tt t=some ti) (hk:ti.kind = .map kty e) {kt:KT} (hkt:keyT tt kty=some kt) (x y:Operand) (tys:Array TypeId) (ht0:tys[0]? = some t)
  (ho:o.op = .call { callee:=.builtin .delete,args:=#[x,y],argTypes:=tys })
  (hf:fop B st.hp (ev G st.sl) (.mapdel kt x y)=some r):Sound P G n b ρ st a w o r:=by
 obtain ⟨d,hu,hd⟩:=run_under htab ht
 rw [hk] at hd
 rw [kindB_map hd] at hu
 simp only [fop] at hf
 split at hf
 ·rename_i r0 ky e1 e2
  split at hf
  ·rename_i kt' es hr
   split at hf
   ·rename_i hc
    obtain ⟨rfl,hconf⟩:=hc
    injection hf with hf; subst hf
    obtain ⟨_,b0,hb0,hx⟩:=ev_rel hs e1
    have hb0':ρ r0=some b0:=hb0
    have hy:=key_val hs e2
    obtain ⟨ces,cl,hh,hE,hck,hck'⟩:=map_keys hs.heap hr hb0'
    have hstp:=map_stp hs.heap hr hb0' hh
    have hfr:=find_run htab hkt hconf w ces.toList hck
    have hchk:=check_key htab hkt hconf ces.isEmpty w
    have does:∀ v w',(Builtin.delete_ tys o.type #[a.eval x,a.eval y]).run P w = .ok v w'→(execOp a.eval o).run P w = .ok (.value v) w' :=
     fun v w' h=>does_builtin ho (s:=Builtin.delete_ tys o.type #[a.eval x,a.eval y]) (fun c=>by simp [builtin]) h
    have fin:∀ (ces':Array MapEntry) (es':List (Value×PV)),(Builtin.delete_ tys o.type #[a.eval x,a.eval y]).run P w = .ok (.tuple #[]) (setB w b0 (.map ces' cl))→Stp ces' cl→ERel (stab ρ st.hp w) w es' ces'.toList→(∀ p∈es',conf kt' p.1=true)→es'=mdel es ky →
      Sound P G n b ρ st a w o ⟨True,.tup [],st.hp.set r0 (.map kt' (mdel es ky))⟩:=by
     intro ces' es' hrun hst hE' hc' hes
     subst hes
     have hle:=HRel.le_setB (w:=w) hr rfl hb0' hh (ob':=.map ces' cl) rfl (.map kt' (mdel es ky)) rfl
     refine ⟨.tuple #[],_,ρ,.inl (does _ _ hrun),hs.heap.setB hr rfl hb0' hh (ob':=.map ces' cl) rfl _ rfl ?_,hle,⟨#[],rfl,rfl,fun i c v h=>by simp at h⟩⟩
     exact orel_map hc' (setB_same _ _ _ (hs.heap.small r0 b0 hb0').2) (hE'.mono hle.step) hst
    rcases fnd_spec (w:=w) ky 0 hE with ⟨f1,f2,f3,f4⟩ | ⟨j,v,pv',f1,f2,f3,f4,f5,_⟩
    ·rw [f1] at hfr
     refine fin ces es ?_ hstp hE hck' f4.symm
     rw [hx,hy]
     simp [Builtin.delete_,ht0,run_underlying hu,getObj_map hh,hchk,hfr,setObj_map hh]
    ·rw [f1] at hfr
     refine fin (ces.eraseIdxIfInBounds j) (es.eraseIdx j) ?_ (stp_erase hstp j) ?_ (fun p hp=>hck' p (List.mem_of_mem_eraseIdx hp)) f5.symm
     ·rw [hx,hy]
      simp [Builtin.delete_,ht0,run_underlying hu,getObj_map hh,hchk,hfr,setObj_map hh]
     ·have:(ces.eraseIdxIfInBounds j).toList=ces.toList.eraseIdx j:=by simp
      rw [this]
      exact erel_erase j hE
   ·cases hf
  ·cases hf
 ·cases hf
theorem rowrel_put {S:Nat→Prop} {c:Array Value} {sz:Nat} {xs ys:List (List D)} (h:RowRel S w c sz xs) (hall:∀ y∈ys,y.length=sz) {vs:List Value} (hvl:vs.length=ys.length*sz) {off:Nat}
  (hv:∀ (i:Nat) (y:List D) (j:Nat) (d:D),ys[i]? = some y→y[j]? = some d→∃ u,vs[i*sz+j]? = some u∧DRel S w d u) (hfit:off+ys.length≤xs.length) :
  RowRel S w (splice c.toList (off*sz) vs).toArray sz (splice xs off ys):=by
 have h0:=h.1
 have h1:(off+ys.length)*sz≤xs.length*sz:=Nat.mul_le_mul_right _ hfit
 rw [Nat.add_mul] at h1
 have hcs:off*sz+vs.length≤c.toList.length:=by rw [hvl]; simp; omega
 have key:∀ (i:Nat) (x:List D),(splice xs off ys)[i]? = some x→(off≤i∧i<off+ys.length∧ys[i-off]? = some x)∨(¬ (off≤i∧i<off+ys.length)∧xs[i]? = some x):=by
  intro i x hx
  rw [splice_get _ _ _ _ hfit] at hx
  split at hx
  ·rename_i hh; exact .inl ⟨hh.1,hh.2,hx⟩
  ·rename_i hh; exact .inr ⟨hh,hx⟩
 have hlen:∀ (i:Nat) (x:List D),(splice xs off ys)[i]? = some x→x.length=sz:=by
  intro i x hx
  rcases key i x hx with ⟨_,_,hy⟩ | ⟨_,hy⟩
  ·exact hall x (List.mem_of_getElem? hy)
  ·exact h.2.1 x (List.mem_of_getElem? hy)
 refine ⟨?_,fun x hx=>?_,fun i x j d hx hj=>?_⟩
 ·rw [List.size_toArray,splice_length _ _ _ hcs,splice_length _ _ _ hfit]; simpa using h0
 ·obtain ⟨i,hi⟩:=List.getElem?_of_mem hx; exact hlen i x hi
 ·have hjl:j<sz:=by rw [← hlen i x hx]; exact lt_of_get hj
  simp only [List.getElem?_toArray]
  rw [splice_get _ _ _ _ hcs,hvl]
  rcases key i x hx with ⟨a1,a2,hy⟩ | ⟨a1,hy⟩
  ·have h2:=row_fits (sz:=sz) (show i-off<ys.length by omega)
   have h3:i*sz=(i-off)*sz+off*sz:=by rw [← Nat.add_mul]; congr 1; omega
   rw [if_pos (by omega),show i*sz+j-off*sz=(i-off)*sz+j by omega]
   exact hv _ x j d hy hj
  ·have:¬ (off*sz≤i*sz+j∧i*sz+j<off*sz+ys.length*sz):=by
    rintro ⟨b1,b2⟩
    apply a1
    rw [← Nat.add_mul] at b2
    constructor
    ·refine Nat.le_of_not_lt fun hl=>?_
     have:=row_fits (sz:=sz) hl; omega
    ·refine Nat.lt_of_not_le fun hl=>?_
     have:(off+ys.length)*sz≤i*sz:=Nat.mul_le_mul_right _ hl
     omega
   rw [if_neg this]
   obtain ⟨u,hu,hd⟩:=h.2.2 i x j d hy hj
   exact ⟨u,by simpa using hu,hd⟩
theorem set_self {α:Type} {l:List α} {i:Nat} {x:α} (h:l[i]? = some x):l.set i x=l:=by
 apply List.ext_getElem?
 intro j
 rw [List.getElem?_set]
 split
 ·rename_i e; subst e; rw [h]; simp [lt_of_get h]
 ·rfl
theorem s_clr (htab:tabB P tt=true) (hs:Sim P G n b ρ st a w) {t e:Nat} {ti ei:TI} (ht:tget tt t=some ti) (hk:ti.kind = .sl e) (he:tget tt e=some ei) (hpos:0<ei.size) (hzl:ei.zero.length=ei.size)
  (x:Operand) (tys:Array TypeId) (ht0:tys[0]? = some t) (ho:o.op = .call { callee:=.builtin .clear,args:=#[x],argTypes:=tys })
  (hf:fop B st.hp (ev G st.sl) (.clr ei.size (ei.zero.map .v) x)=some r) (hob:r.ob):Sound P G n b ρ st a w o r:=by
 obtain ⟨d,hu,hd⟩:=run_under htab ht
 rw [hk] at hd
 rw [kindB_sl hd] at hu
 have does:∀ v w',(Builtin.clear_ tys o.type #[a.eval x]).run P w = .ok v w'→(execOp a.eval o).run P w = .ok (.value v) w' :=
  fun v w' h=>does_builtin ho (s:=Builtin.clear_ tys o.type #[a.eval x]) (fun c=>by simp [builtin]) h
 simp only [fop] at hf
 split at hf
 ·rename_i r0 sz' off len e1
  split at hf
  ·rename_i sz2 xs hr
   split at hf
   ·rename_i hc
    obtain ⟨rfl,rfl⟩:=hc
    injection hf with hf; subst hf
    have hob:off+len≤xs.length:=hob
    have hx:=ev_rel hs e1
    rcases hx.2 with ⟨rfl,p,hx⟩ | ⟨b0,cap,e0,n0,hb0,hx,hcap,hsh,hle⟩
    ·rw [show splice xs off (List.replicate 0 (ei.zero.map D.v))=xs by simp [splice],set_self hr]
     refine ⟨.tuple #[],w,ρ,.inl (does _ _ ?_),hs.heap,.refl _,⟨#[],rfl,rfl,fun i c v h=>by simp at h⟩⟩
     rw [hx]
     cases p <;> simp [Builtin.clear_,ht0,run_underlying hu]
    ·have hb0':ρ r0=some b0:=hb0
     obtain ⟨z,hz,hzc,_⟩:=run_zero htab he w
     obtain ⟨_,hor⟩:=hs.heap.objs r0 _ hr
     rcases hor with ⟨h1,_⟩ | ⟨a0,c,e',h1,h2,h3⟩
     ·rw [hb0'] at h1; cases h1
     ·rw [hb0'] at h1; injection h1 with h1; subst h1
      have h2':w.heap[b0]? = some (.cells c e' (0,0)):=h2
      by_cases hl0:len=0
      ·subst hl0
       rw [show splice xs off (List.replicate 0 (ei.zero.map D.v))=xs by simp [splice],set_self hr]
       refine ⟨.tuple #[],w,ρ,.inl (does _ _ ?_),hs.heap,.refl _,⟨#[],rfl,rfl,fun i c v h=>by simp at h⟩⟩
       rw [hx]
       simp [Builtin.clear_,ht0,run_underlying hu]
      ·have hone:∀ v∈ei.zero,v.oneCell'=true:=by
        obtain ⟨_,_,_,_,_,_,_,_,_,q⟩:=(tab_ok htab he).info
        exact q
       have hza:z.cells.size=ei.size:=by rw [← hzl,← hzc]; simp
       have hrow0:=zrows (k:=ctx ρ st.hp w) hone len ei.size hzl z.cells hzc (stab ρ st.hp w) w
       have hzl2:(Builtin.zeroCells z.cells len).toList.length=(List.replicate len (ei.zero.map D.v)).length*ei.size:=by simp [Builtin.zeroCells,hza]
       have hzeq:Builtin.zeroCells z.cells len=(Array.range (len*ei.size)).map (z.cells[· % z.cells.size]!):=by simp only [Builtin.zeroCells,hza]
       have hnew:=rowrel_put h3 (ys:=List.replicate len (ei.zero.map D.v)) hrow0.2.1 hzl2 (off:=off) (fun i y j d q1 q2=>by
        obtain ⟨u,g1,g2⟩:=hrow0.2.2 i y j d q1 q2
        exact ⟨u,by rw [hzeq,Array.getElem?_toList]; exact g1,g2⟩) (by simpa using hob)
       have hfit:(off+len)*ei.size≤xs.length*ei.size:=Nat.mul_le_mul_right _ hob
       rw [Nat.add_mul] at hfit
       have hcsz:=h3.1
       have hlen:(Builtin.zeroCells z.cells len).toList.length=len*ei.size:=by rw [hzl2]; simp
       have hshape:Obj.shape (.cells (splice c.toList (off*ei.size) (Builtin.zeroCells z.cells len).toList).toArray e' (0,0))=Obj.shape (.cells c e' (0,0)):=by
        simp only [Obj.shape,Option.some.injEq,Prod.mk.injEq,true_and]
        rw [List.size_toArray,splice_length _ _ _ (by rw [hlen,Array.length_toList]; omega)]; simp
       have hone2:∀ v∈(Builtin.zeroCells z.cells len).toList,v.oneCell'=true:=by
        intro v hv
        obtain ⟨i,hi⟩:=List.getElem?_of_mem hv
        have hil:i<len*ei.size:=by rw [← hlen]; exact lt_of_get hi
        rw [hzeq,Array.getElem?_toList,Array.getElem?_map,Array.getElem?_range,if_pos hil] at hi
        simp only [Option.map_some,Option.some.injEq] at hi
        have hm:i % z.cells.size<z.cells.size:=Nat.mod_lt _ (by omega)
        rw [getElem!_pos z.cells (i % z.cells.size) hm] at hi
        subst hi
        refine hone _ ?_
        rw [← hzc]
        simp
       have hrun:=store_cells (P:=P) b0 (off*ei.size) e' (Builtin.zeroCells z.cells len).toList 0 w c h2' (by rw [hlen]; omega) hone2
       rw [Nat.add_zero] at hrun
       have hle':=HRel.le_setB (w:=w) hr rfl hb0' h2' hshape (.row ei.size (splice xs off (List.replicate len (ei.zero.map D.v)))) rfl
       refine ⟨.tuple #[],_,ρ,.inl (does _ _ ?_),hs.heap.setB hr rfl hb0' h2' hshape _ rfl ?_,hle',⟨#[],rfl,rfl,fun i c v h=>by simp at h⟩⟩
       ·rw [hx]
        obtain ⟨m,rfl⟩:∃ m,len=m+1:=⟨len-1,by omega⟩
        simp only [Builtin.clear_,ht0,List.getElem?_toArray,Sem.run_bind,run_underlying hu,Result.andThen_ok,List.getElem?_cons_zero,hz,hrun,Sem.run_pure]
       ·exact ⟨hpos,.inr ⟨b0,_,e',rfl,setB_same _ _ _ (hs.heap.small r0 b0 hb0').2,hnew.mono hle'.step⟩⟩
   ·cases hf
  ·cases hf
 ·rename_i m c e1
  injection hf with hf; subst hf
  refine Sound.same hs (v:=.tuple #[]) (does _ _ ?_) ⟨#[],rfl,rfl,fun i c v h=>by simp at h⟩
  rw [ev_val hs e1]
  simp [Builtin.clear_,ht0,run_underlying hu]
 ·cases hf
end
end Go.Aw
