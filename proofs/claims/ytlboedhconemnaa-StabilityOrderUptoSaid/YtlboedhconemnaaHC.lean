/- An abstract machine over the model, and contracts of functions of this program on it (part 3): words and lemmas for the proof in the last text. -/
import Derived.Test.YtlboedhconemnaaProg
import Derived.Test.YtlboedhconemnaaChecked
import Derived.Lib.Bytealg
import Derived.Lib.Walk
import Derived.Lib.Strings
import Derived.Test.YtlboedhconemnaaHB
set_option linter.unusedVariables false
set_option linter.unusedSimpArgs false

/- The weakest precondition with a table of contracts: calls that are listed are stepped over; drawn regions are run in the text's order. -/
namespace Go.Aw
open Go

/-- A contract: 'sc': it was told without any region, and gives scalars; 'g': for these arguments the obligation and the result. -/
structure XE where
  sc : Bool
  g : List PV → Option (Prop × T)
abbrev XT := List (Nat × XE)
def xget : XT → Nat → Option XE
  | [], _ => none
  | (f, e) :: r, n => if f = n then some e else xget r n

def Contract (P : Program) (G : Gl) (f : Nat) (e : XE) : Prop := ∀ ps ob t, e.g ps = some (ob, t) → ob →
  if e.sc = true then scT t = true ∧ ACalls P G f (ps.map PV.toV) [] (fun t' H' => t' = t ∧ H' = []) else ∀ H, ACalls P G f (ps.map PV.toV) H fun t' H' => t' = t ∧ H' = H
def GoodX (P : Program) (G : Gl) : XT → Prop
  | [] => True
  | (f, e) :: r => Contract P G f e ∧ GoodX P G r

theorem goodX_get {P : Program} {G : Gl} : ∀ {X : XT} {f : Nat} {e : XE}, GoodX P G X → xget X f = some e → Contract P G f e
  | [], _, _, _, h => by cases h
  | (f', e') :: r, f, e, hg, h => by
    simp only [xget] at h
    split at h
    · rename_i hf; injection h with h; subst h; subst hf; exact hg.1
    · exact goodX_get hg.2 h

/-- Regions that are looked at when a cell is lent. -/
def borC : Nat → List O → C → List Nat
  | 0, H, c => osR [c]
  | n + 1, H, c => match c with
    | .ptr r off => r :: (match H[r]? with
      | some (.cells cs) => (cs.drop off).flatMap (borC n H)
      | _ => [])
    | .eptr r _ _ _ => [r]
    | .mp r => [r]
    | .fn _ caps => caps.flatMap fun p => borC n H (.ptr p.1 p.2)
    | c => osR [c]
def borV (H : List O) (u : V) : List Nat := u.cells.flatMap (borC 3 H)
def borVs (H : List O) (vs : List V) : List Nat := vs.flatMap (borV H)
def osVs (vs : List V) : List Nat := vs.flatMap fun u => osR u.cells

structure SR where
  rd : List Nat
  wr : List Nat
  ob : Prop
  val : T
  hp : List O

def callF (X : XT) (H : List O) (f : Nat) (vs : List V) : Option SR :=
  match xget X f with
  | some e => match e.sc with
    | true => match toBVs H vs with
      | some ps => match e.g ps with
        | some (ob, t) => some ⟨borVs H vs, [], ob, t, H⟩
        | none => none
      | none => none
    | false => match toPVs H vs with
      | some ps => match e.g ps with
        | some (ob, t) => some ⟨[], osVs vs, ob, t, frzVs H vs⟩
        | none => none
      | none => none
  | none => none

def ordB (cl : List (List Nat)) (j i : Nat) : Bool := (cl.getD i []).contains j
def tmpsOf (o : AOper) : List Nat := (o.op.opers.filterMap fun x => match x with | .tmp t => some t | _ => none) ++ (match o.guard with | some (t, _) => [t] | none => [])
def slotsOk (cl : List (List Nat)) (ops : List AOper) : Bool := (List.range ops.length).all fun i => (List.range i).all fun j => ordB cl j i || (match ops[i]?, ops[j]? with
  | some a, some b => (match b.dst with | some d => !(tmpsOf a).contains d && a.dst != some d | none => true) && (match a.dst with | some d => !(tmpsOf b).contains d | none => true)
  | _, _ => true)
def drawOk (cl : List (List Nat)) (ops : List AOper) (after : List (List Nat)) : Bool := after.length == ops.length && acyc after && slotsOk cl ops

def apW (cl : List (List Nat)) (i : Nat) : List Nat → List (Nat × List Nat) → Prop
  | [], _ => True
  | _ :: _, [] => True
  | q :: rw, (j, wr) :: h => (ordB cl j i = true ∨ ∀ x ∈ wr, x ∉ q :: rw) ∧ apW cl i (q :: rw) h
def addH (i : Nat) : List Nat → List (Nat × List Nat) → List (Nat × List Nat)
  | [], h => h
  | q :: l, h => (i, q :: l) :: h

section
variable (P : Program) (G : Gl) (X : XT)

def calleeOf (s : Nat → T) : A → Option (Nat × List V)
  | .call f args => match argsOf (args.map (ev G s)) with
    | some vs => some (f, vs)
    | none => none
  | .callv f args => match ev G s f, argsOf (args.map (ev G s)) with
    | .v (.c (.fn f caps)), some vs => some (f, vs ++ caps.map fun c => .c (.ptr c.1 c.2))
    | .v (.c (.d (.fn f caps))), some vs => some (f, vs ++ caps.map fun c => .c (.d c))
    | _, _ => none
  | _ => none

def stepX (B : Nat) (st : St) (a : A) : Option SR :=
  match a with
  | .call f args => match calleeOf G st.sl (.call f args) with
    | some (f, vs) => callF X st.hp f vs
    | none => none
  | .callv f args => match calleeOf G st.sl (.callv f args) with
    | some (f, vs) => callF X st.hp f vs
    | none => none
  | a => match fop B st.hp (ev G st.sl) a with
    | some r => some ⟨(foot B (ev G st.sl) a).1, (foot B (ev G st.sl) a).2, r.ob, r.val, r.hp⟩
    | none => none

def callX (f : Nat) (vs : List V) (st : St) (κ : Kt) : Prop :=
  match callF X st.hp f vs with
  | some r => r.ob ∧ κ r.val ⟨st.sl, r.hp⟩
  | none => ACalls P G f vs st.hp (callK st.sl κ)

def wopX (B : Nat) (a : A) (st : St) (κ : Kt) : Prop :=
  match a with
  | .call f args => match argsOf (args.map (ev G st.sl)) with
    | some vs => callX P G X f vs st κ
    | none => False
  | .callv f args => match ev G st.sl f, argsOf (args.map (ev G st.sl)) with
    | .v (.c (.fn f caps)), some vs => callX P G X f (vs ++ caps.map fun c => .c (.ptr c.1 c.2)) st κ
    | .v (.c (.d (.fn f caps))), some vs => callX P G X f (vs ++ caps.map fun c => .c (.d c)) st κ
    | _, _ => False
  | .pick c a b => condP (ev G st.sl c) (κ (ev G st.sl a) st) (κ (ev G st.sl b) st)
  | .eqN ng k x => match k, ev G st.sl x with
    | .sl, .v (.c (.d (.sl xs))) => ∀ b, (xs ≠ [] → b = false) → κ (.bool (if ng then !b else b)) st
    | .sl, .v (.c (.os _ _ _ len)) => ∀ b, (len ≠ 0 → b = false) → κ (.bool (if ng then !b else b)) st
    | k, _ => match fop B st.hp (ev G st.sl) (.eqN ng k x) with
      | some r => r.ob ∧ κ r.val ⟨st.sl, r.hp⟩
      | none => False
  | a => match fop B st.hp (ev G st.sl) a with
    | some r => r.ob ∧ κ r.val ⟨st.sl, r.hp⟩
    | none => False

def wopsX (B : Nat) : List AOper → St → (St → Prop) → Prop
  | [], st, k => k st
  | o :: r, st, k => match o.guard with
    | none => wopX P G X B o.op st fun t s => wopsX B r (s.put o.dst t) k
    | some (t, want) => condW (st.sl t) want (wopX P G X B o.op st fun t s => wopsX B r (s.put o.dst t) k) (wopsX B r (st.put o.dst (.tup [])) k)

def wlex (B : Nat) (cl : List (List Nat)) : Nat → List AOper → List (Nat × List Nat) → List (Nat × List Nat) → St → (St → Prop) → Prop
  | i, [], _, _, st, k => k st
  | i, o :: r, Ws, Rs, st, k =>
    match o.guard with
    | none => match stepX G X B st o.op with
      | some s => s.ob ∧ apW cl i (s.rd ++ s.wr) Ws ∧ apW cl i s.wr Rs ∧ wlex B cl (i + 1) r (addH i s.wr Ws) (addH i s.rd Rs) ((St.mk st.sl s.hp).put o.dst s.val) k
      | none => False
    | some (t, want) => condW (st.sl t) want
      (match stepX G X B st o.op with
      | some s => s.ob ∧ apW cl i (s.rd ++ s.wr) Ws ∧ apW cl i s.wr Rs ∧ wlex B cl (i + 1) r (addH i s.wr Ws) (addH i s.rd Rs) ((St.mk st.sl s.hp).put o.dst s.val) k
      | none => False)
      (wlex B cl (i + 1) r Ws Rs (st.put o.dst (.tup [])) k)

def wcodeX (N0 : Nat) : AC → St → Qt → Prop
  | .skip, st, Q => Q .normal st
  | .region n ops, st, Q => wopsX P G X st.hp.length ops (holes n st) (normQ Q)
  | .dregion n ops after, st, Q => drawOk (clos after) ops after = true ∧ wlex G X st.hp.length (clos after) 0 ops [] [] (holes n st) (normQ Q)
  | .seq x y, st, Q => wcodeX N0 x st (thenQ (wcodeX N0 y) Q)
  | .cond c x y, st, Q => condP (ev G st.sl c) (wcodeX N0 x st Q) (wcodeX N0 y st Q)
  | .block id x, st, Q => wcodeX N0 x st (blockQ id Q)
  | .loop x, st, Q => loopW P G N0 (wcodeX N0 x) st Q
  | .exit id, st, Q => Q (.exit id) st
  | .ret, st, Q => Q .ret st
end

section
variable {P : Program} {G : Gl} {X : XT}

/-- A call whose arguments are told as data for good. -/
theorem acalls_frz {f : Nat} {vs : List V} {ps : List PV} {H : List O} {t : T} (hp : toPVs H vs = some ps)
    (h : ACalls P G f (ps.map PV.toV) (frzVs H vs) fun t' H' => t' = t ∧ H' = frzVs H vs) : ACalls P G f vs H fun t' H' => t' = t ∧ H' = frzVs H vs := by
  refine ⟨h.1, fun ρ w args hH hG hv => ?_⟩
  obtain ⟨h1, l1, _⟩ := frzVs_rel vs hH
  obtain ⟨g1, g2⟩ := toPVs_rel vs (vs := args.toList) hH hp (by simpa using hv.1) (fun i c v hc hv' => hv.2 i c v hc (by simpa using hv'))
  refine (h.2 ρ w args h1 (hG.mono l1.step) ⟨by rw [List.length_map, g1]; exact hv.1, fun i c v hi hvi => ?_⟩).mono fun e w' ⟨v, t', ρ', H', e1, e2, e3, e4, e5⟩ => ⟨v, t', ρ', H', e1, e2, e3, e4, l1.trans e5⟩
  rw [List.getElem?_map] at hi
  cases hq : ps[i]? with
  | none => rw [hq] at hi; cases hi
  | some p =>
    rw [hq] at hi
    simp at hi
    subst hi
    exact prel_vrel (k := ctx ρ (frzVs H vs) w) (g2 i p v hq (by simpa using hvi))

theorem callF_sound (hX : GoodX P G X) {H : List O} {f : Nat} {vs : List V} {r : SR} (h : callF X H f vs = some r) (hob : r.ob) :
    ACalls P G f vs H fun t' H' => t' = r.val ∧ H' = r.hp := by
  unfold callF at h
  split at h
  · rename_i e he
    have hc := goodX_get hX he
    split at h
    · rename_i hsc
      split at h
      · rename_i ps hps
        split at h
        · rename_i ob t hg
          injection h with h; subst h
          have := hc ps ob t hg hob
          rw [if_pos hsc] at this
          exact acalls_lend hps this.1 this.2
        · cases h
      · cases h
    · rename_i hsc
      split at h
      · rename_i ps hps
        split at h
        · rename_i ob t hg
          injection h with h; subst h
          have := hc ps ob t hg hob
          rw [if_neg (by rw [hsc]; simp)] at this
          exact acalls_frz hps (this _)
        · cases h
      · cases h
  · cases h

theorem callX_sound (hX : GoodX P G X) {f : Nat} {vs : List V} {st : St} {κ : Kt} (h : callX P G X f vs st κ) : ACalls P G f vs st.hp (callK st.sl κ) := by
  unfold callX at h
  split at h
  · rename_i r hr
    refine (callF_sound hX hr h.1).mono fun t H ⟨h1, h2⟩ => ?_
    subst h1; subst h2
    exact h.2
  · exact h

theorem wopX_same {B : Nat} {a : A} {st : St} {κ : Kt} (h : a.isCall = false) : wopX P G X B a st κ = wop P G B a st κ := by
  cases a <;> first | rfl | cases h

theorem wopX_sound (hX : GoodX P G X) {B : Nat} {a : A} {st : St} {κ : Kt} (h : wopX P G X B a st κ) : wop P G B a st κ := by
  cases a
  case call f args =>
    simp only [wopX] at h
    simp only [wop]
    split at h
    · rename_i vs e1
      rw [e1]
      exact callX_sound hX h
    · exact h.elim
  case callv f args =>
    simp only [wopX] at h
    simp only [wop]
    split at h
    · rename_i f' caps vs e1 e2
      rw [e1, e2]
      exact callX_sound hX h
    · rename_i f' caps vs e1 e2
      rw [e1, e2]
      exact callX_sound hX h
    · exact h.elim
  all_goals exact h

theorem wopX_mono {B : Nat} {a : A} {st : St} {κ κ' : Kt} (hk : ∀ t s, κ t s → κ' t s) (h : wopX P G X B a st κ) : wopX P G X B a st κ' := by
  have cx : ∀ f vs, callX P G X f vs st κ → callX P G X f vs st κ' := by
    intro f vs h
    unfold callX at h ⊢
    split at h
    · exact ⟨h.1, hk _ _ h.2⟩
    · exact ACalls.mono h fun t H q => hk _ _ q
  by_cases hc : a.isCall = false
  · rw [wopX_same hc] at h ⊢
    exact wop_mono hk h
  cases a <;> first | (exfalso; exact hc rfl) | skip
  case call f args =>
    simp only [wopX] at h ⊢
    split at h
    · exact cx _ _ h
    · exact h
  case callv f args =>
    simp only [wopX] at h ⊢
    split at h
    · exact cx _ _ h
    · exact cx _ _ h
    · exact h

theorem wopsX_sound (hX : GoodX P G X) {B : Nat} : ∀ {l : List AOper} {st : St} {k : St → Prop}, wopsX P G X B l st k → wops P G B l st k
  | [], st, k, h => h
  | o :: r, st, k, h => by
    simp only [wopsX] at h
    simp only [wops]
    split at h
    · rename_i e
      rw [e]
      exact wop_mono (fun t s q => wopsX_sound hX q) (wopX_sound hX h)
    · rename_i t want e
      rw [e]
      exact condW_mono h (fun h => wop_mono (fun t s q => wopsX_sound hX q) (wopX_sound hX h)) (wopsX_sound hX)

end
end Go.Aw

/- A drawn region, run in the text's order. -/
namespace Go.Aw
open Go

/-- What one operation did in the text's order. -/
structure Rec where
  rd : List Nat
  wr : List Nat
  val : T
  pre : St
  post : St

structure Step1 (P : Program) (G : Gl) (B : Nat) (o : AOper) (c : Rec) : Prop where
  slot : ∀ t, c.post.sl t = if o.dst = some t then c.val else c.pre.sl t
  len : c.post.hp.length = c.pre.hp.length
  out : ∀ q, q ∉ c.wr → c.post.hp[q]? = c.pre.hp[q]?
  loc : ∀ st : St, (∀ t ∈ tmpsOf o, st.sl t = c.pre.sl t) → st.hp.length = c.pre.hp.length → (∀ q, q ∈ c.rd ∨ q ∈ c.wr → st.hp[q]? = c.pre.hp[q]?) → ∀ κ : St → Prop,
    (∀ st' : St, (∀ t, o.dst = some t → st'.sl t = c.val) → (∀ t, o.dst ≠ some t → st'.sl t = st.sl t) → st'.hp.length = c.pre.hp.length →
      (∀ q ∈ c.wr, st'.hp[q]? = c.post.hp[q]?) → (∀ q, q ∉ c.wr → st'.hp[q]? = st.hp[q]?) → κ st') → wone P G B o st κ

section
variable {P : Program} {G : Gl} {X : XT} {B : Nat}

theorem put_slot (st : St) (d : Option Nat) (v : T) (t : Nat) : (st.put d v).sl t = if d = some t then v else st.sl t := by
  cases d with
  | none => simp [St.put]
  | some d =>
    simp only [St.put, putS, Option.some.injEq]
    by_cases e : t = d
    · rw [if_pos e, if_pos e.symm]
    · rw [if_neg e, if_neg fun x => e x.symm]
theorem put_hp (st : St) (d : Option Nat) (v : T) : (st.put d v).hp = st.hp := by cases d <;> rfl

/-! lent arguments look at their regions alone -/
theorem mapO_congr {α β : Type} {f g : α → Option β} : ∀ {l : List α}, (∀ a ∈ l, f a = g a) → mapO f l = mapO g l
  | [], _ => rfl
  | a :: r, h => by simp only [mapO, h a List.mem_cons_self, mapO_congr fun x hx => h x (List.mem_cons_of_mem _ hx)]

theorem toB_local {H H' : List O} : ∀ (n : Nat) {c : C}, (∀ q ∈ borC n H c, H'[q]? = H[q]?) → toB n H' c = toB n H c
  | 0, c, h => toD_local h
  | n + 1, c, h => by
    have ptr : ∀ r off, (∀ q ∈ borC (n + 1) H (.ptr r off), H'[q]? = H[q]?) → toB (n + 1) H' (.ptr r off) = toB (n + 1) H (.ptr r off) := by
      intro r off h
      simp only [toB]
      simp only [borC] at h
      rw [h r List.mem_cons_self]
      cases hq : H[r]? with
      | none => rfl
      | some o =>
        cases o with
        | cells cs =>
          rw [hq] at h
          dsimp only
          rw [mapO_congr (f := toB n H') (g := toB n H) fun c hc => toB_local n fun q hq' => h q (List.mem_cons_of_mem _ (List.mem_flatMap.2 ⟨c, hc, hq'⟩))]
        | _ => rfl
    cases c with
    | ptr r off => exact ptr r off h
    | eptr r sz i off =>
      simp only [toB]
      rw [h r (by simp [borC])]
    | mp r =>
      simp only [toB]
      rw [h r (by simp [borC])]
    | fn f caps =>
      simp only [toB]
      rw [mapO_congr (f := fun p : Nat × Nat => toB n H' (.ptr p.1 p.2)) (g := fun p => toB n H (.ptr p.1 p.2)) fun p hp => toB_local n fun q hq => h q (by simp only [borC]; exact List.mem_flatMap.2 ⟨p, hp, hq⟩)]
    | d x => simp only [toB]; exact toD_local (by simpa only [borC] using h)
    | os r sz off len => simp only [toB]; exact toD_local (by simpa only [borC] using h)
    | ifc => simp only [toB]; exact toD_local (by simpa only [borC] using h)
    | top => simp only [toB]; exact toD_local (by simpa only [borC] using h)

theorem toBV_local {H H' : List O} {u : V} (h : ∀ q ∈ borV H u, H'[q]? = H[q]?) : toBV H' u = toBV H u := by
  cases u with
  | any => rfl
  | c x =>
    have : toB 3 H' x = toB 3 H x := toB_local 3 fun q hq => h q (by simp only [borV, V.cells, List.flatMap_cons, List.flatMap_nil, List.append_nil]; exact hq)
    simp only [toBV, this]
  | agg cs =>
    have : mapO (toB 3 H') cs = mapO (toB 3 H) cs := mapO_congr fun c hc => toB_local 3 fun q hq => h q (by simp only [borV, V.cells]; exact List.mem_flatMap.2 ⟨c, hc, hq⟩)
    simp only [toBV, this]

theorem toPV_local {H H' : List O} {u : V} (hd : ∀ q ∈ osR u.cells, H'[q]? = H[q]?) : toPV H' u = toPV H u := by
  cases u with
  | any => rfl
  | c x => simp only [toPV, toD_local (c := x) hd]
  | agg cs => simp only [toPV, toDs_local (cs := cs) hd]

theorem toPVs_local : ∀ {vs : List V} {H H' : List O}, H'.length = H.length → (∀ q ∈ osVs vs, H'[q]? = H[q]?) → toPVs H' vs = toPVs H vs ∧
    (frzVs H' vs).length = H.length ∧ (∀ q ∈ osVs vs, (frzVs H' vs)[q]? = (frzVs H vs)[q]?) ∧ ∀ q, q ∉ osVs vs → (frzVs H' vs)[q]? = H'[q]? ∧ (frzVs H vs)[q]? = H[q]?
  | [], H, H', hl, h => ⟨rfl, hl, fun q hq => (by cases hq), fun q hq => ⟨rfl, rfl⟩⟩
  | u :: r, H, H', hl, h => by
    have hu : ∀ q ∈ osR u.cells, H'[q]? = H[q]? := fun q hq => h q (by simp only [osVs, List.flatMap_cons]; exact List.mem_append_left _ hq)
    obtain ⟨a1, a2, a3⟩ := frz_local hl hu
    have hl1 : (frz H u.cells).length = H.length := (frz_local (H := H) rfl fun q _ => rfl).1
    have hag : ∀ q ∈ osVs r, (frz H' u.cells)[q]? = (frz H u.cells)[q]? := by
      intro q hq
      by_cases hx : q ∈ osR u.cells
      · exact a2 q hx
      · rw [(a3 q hx).1, (a3 q hx).2]; exact h q (by simp only [osVs, List.flatMap_cons]; exact List.mem_append_right _ hq)
    obtain ⟨b0, b1, b2, b3⟩ := toPVs_local (vs := r) (H := frz H u.cells) (H' := frz H' u.cells) (by rw [a1, hl1]) hag
    refine ⟨by simp only [toPVs, toPV_local hu, b0], by simp only [frzVs]; rw [b1, hl1], fun q hq => ?_, fun q hq => ?_⟩
    · simp only [frzVs]
      have hq' : q ∈ osR u.cells ++ osVs r := by simpa only [osVs, List.flatMap_cons] using hq
      by_cases hx : q ∈ osVs r
      · exact b2 q hx
      · rw [(b3 q hx).1, (b3 q hx).2]
        exact a2 q ((List.mem_append.1 hq').resolve_right hx)
    · have hq' : q ∉ osR u.cells ++ osVs r := by simpa only [osVs, List.flatMap_cons] using hq
      have h1 : q ∉ osR u.cells := fun x => hq' (List.mem_append_left _ x)
      have h2 : q ∉ osVs r := fun x => hq' (List.mem_append_right _ x)
      simp only [frzVs]
      rw [(b3 q h2).1, (b3 q h2).2, (a3 q h1).1, (a3 q h1).2]
      exact ⟨rfl, rfl⟩

theorem callF_local {H H' : List O} {f : Nat} {vs : List V} {r : SR} (h : callF X H f vs = some r) (hl : H'.length = H.length) (hag : ∀ q, q ∈ r.rd ∨ q ∈ r.wr → H'[q]? = H[q]?) :
    r.hp.length = H.length ∧ (∀ q, q ∉ r.wr → r.hp[q]? = H[q]?) ∧
    ∃ r', callF X H' f vs = some r' ∧ (r.ob → r'.ob) ∧ r'.val = r.val ∧ r'.hp.length = H.length ∧ (∀ q ∈ r.wr, r'.hp[q]? = r.hp[q]?) ∧ ∀ q, q ∉ r.wr → r'.hp[q]? = H'[q]? := by
  unfold callF at h ⊢
  split at h
  · rename_i e he
    split at h
    · rename_i hsc
      split at h
      · rename_i ps hps
        split at h
        · rename_i ob t hg
          injection h with h; subst h
          have hb : toBVs H' vs = some ps := by
            rw [← hps]
            exact mapO_congr fun u hu => toBV_local fun q hq => hag q (.inl (List.mem_flatMap.2 ⟨u, hu, hq⟩))
          refine ⟨rfl, fun q _ => rfl, ?_⟩
          simp only [hb, hg]
          exact ⟨_, rfl, id, rfl, hl, fun q hq => (by cases hq), fun q _ => rfl⟩
        · cases h
      · cases h
    · rename_i hsc
      split at h
      · rename_i ps hps
        split at h
        · rename_i ob t hg
          injection h with h; subst h
          obtain ⟨b0, b1, b2, b3⟩ := toPVs_local (vs := vs) hl fun q hq => hag q (.inr hq)
          obtain ⟨_, c1, _, c3⟩ := toPVs_local (vs := vs) (H := H) (H' := H) rfl fun q _ => rfl
          refine ⟨c1, fun q hq => (c3 q hq).1, ?_⟩
          rw [b0, hps]
          simp only [hg]
          exact ⟨_, rfl, id, rfl, b1, b2, fun q hq => (b3 q hq).1⟩
        · cases h
      · cases h
  · cases h

theorem calleeOf_local {s s' : Nat → T} {a : A} (h : ∀ x ∈ a.opers, ev G s' x = ev G s x) : calleeOf G s' a = calleeOf G s a := by
  cases a
  case call f args =>
    have h' : ∀ x ∈ args, ev G s' x = ev G s x := h
    simp only [calleeOf, map_congr' h']
  case callv f args =>
    have h1 : ev G s' f = ev G s f := h f List.mem_cons_self
    have h' : ∀ x ∈ args, ev G s' x = ev G s x := fun x hx => h x (List.mem_cons_of_mem _ hx)
    simp only [calleeOf, h1, map_congr' h']
  all_goals rfl

theorem wop_of_fop {a : A} {st : St} {κ : Kt} {r : R} (h : fop B st.hp (ev G st.sl) a = some r) (hob : r.ob) (hk : κ r.val ⟨st.sl, r.hp⟩) : wop P G B a st κ := by
  by_cases hp : a.plain = true
  · rw [wop_plain hp, h]; exact ⟨hob, hk⟩
  cases a <;> first | (exfalso; exact hp rfl) | skip
  case call => cases h
  case callv => cases h
  case pick c x y =>
    simp only [fop] at h
    split at h
    · rename_i t e1
      injection h with h; subst h
      simp only [wop, e1, condP]
      cases t
      · exact ⟨fun e => by simp at e, fun _ => hk⟩
      · exact ⟨fun _ => hk, fun e => by simp at e⟩
    · cases h
  case eqN ng k x =>
    have h2 := h
    simp only [wop]
    split
    · rename_i xs e1; simp only [fop, e1] at h; cases h
    · rename_i r0 sz off len e1; simp only [fop, e1] at h; cases h
    · rw [h2]; exact ⟨hob, hk⟩

theorem wop_of_call {a : A} {st : St} {κ : Kt} {f : Nat} {vs : List V} (h : calleeOf G st.sl a = some (f, vs)) (hk : ACalls P G f vs st.hp (callK st.sl κ)) : wop P G B a st κ := by
  cases a
  case call f' args =>
    simp only [calleeOf] at h
    split at h
    · rename_i vs' e
      injection h with h; injection h with h1 h2; subst h1; subst h2
      simp only [wop, e]; exact hk
    · cases h
  case callv f' args =>
    simp only [calleeOf] at h
    split at h
    · rename_i f2 caps vs' e1 e2
      injection h with h; injection h with h1 h2; subst h1; subst h2
      simp only [wop, e1, e2]; exact hk
    · rename_i f2 caps vs' e1 e2
      injection h with h; injection h with h1 h2; subst h1; subst h2
      simp only [wop, e1, e2]; exact hk
    · cases h
  all_goals cases h

theorem ev_same {s s' : Nat → T} {l : List Operand} (h : ∀ t ∈ (l.filterMap fun x => match x with | .tmp t => some t | _ => none), s' t = s t) : ∀ x ∈ l, ev G s' x = ev G s x := by
  intro x hx
  cases x with
  | tmp t => exact h t (List.mem_filterMap.2 ⟨_, hx, rfl⟩)
  | const v => rfl
  | global g => rfl
  | func f => rfl

theorem stepX_other {st : St} {a : A} (h : a.isCall = false) : stepX G X B st a = match fop B st.hp (ev G st.sl) a with
    | some r => some ⟨(foot B (ev G st.sl) a).1, (foot B (ev G st.sl) a).2, r.ob, r.val, r.hp⟩
    | none => none := by
  cases a <;> first | rfl | cases h
theorem stepX_call {st : St} {a : A} (h : a.isCall = true) : stepX G X B st a = match calleeOf G st.sl a with
    | some (f, vs) => callF X st.hp f vs
    | none => none := by
  cases a <;> first | rfl | cases h

theorem foot_local {e e' : Operand → T} {a : A} (h : ∀ x ∈ a.opers, e' x = e x) : foot B e' a = foot B e a := by
  cases a
  case bsl j sz z len ps =>
    simp only [foot]
    congr 2
    rw [List.flatMap_def, List.flatMap_def, map_congr' (f := fun p : Nat × Operand => osT (e' p.2)) (g := fun p => osT (e p.2)) fun p hp => by rw [h _ (List.mem_map.2 ⟨p, hp, rfl⟩)]]
  all_goals first | rfl | (simp only [A.opers, List.mem_cons, List.not_mem_nil, or_false, forall_eq_or_imp, forall_eq, false_imp_iff, implies_true] at h; simp only [foot, h])

/-- One operation, alone and among others. -/
theorem stepX_step1 (hX : GoodX P G X) {o : AOper} {st : St} {s : SR} (h : stepX G X B st o.op = some s) (hob : s.ob)
    (hg : ∀ t want, o.guard = some (t, want) → st.sl t = .v (.c (.d (.v (.bool want))))) :
    Step1 P G B o ⟨s.rd, s.wr, s.val, st, (St.mk st.sl s.hp).put o.dst s.val⟩ := by
  have core : s.hp.length = st.hp.length ∧ (∀ q, q ∉ s.wr → s.hp[q]? = st.hp[q]?) ∧ ∀ st2 : St, (∀ x ∈ o.op.opers, ev G st2.sl x = ev G st.sl x) → st2.hp.length = st.hp.length → (∀ q, q ∈ s.rd ∨ q ∈ s.wr → st2.hp[q]? = st.hp[q]?) →
      ∀ κ : Kt, (∀ H2 : List O, H2.length = st.hp.length → (∀ q ∈ s.wr, H2[q]? = s.hp[q]?) → (∀ q, q ∉ s.wr → H2[q]? = st2.hp[q]?) → κ s.val ⟨st2.sl, H2⟩) → wop P G B o.op st2 κ := by
    by_cases hc : o.op.isCall = true
    · rw [stepX_call hc] at h
      split at h
      · rename_i f vs hcal
        obtain ⟨l1, l2, _⟩ := callF_local h rfl fun q _ => rfl
        refine ⟨l1, l2, fun st2 he hl hag κ hk => ?_⟩
        obtain ⟨_, _, r', g1, g2, g3, g4, g5, g6⟩ := callF_local h hl hag
        refine wop_of_call ((calleeOf_local he).trans hcal) ((callF_sound hX g1 (g2 hob)).mono fun t H2 ⟨e1, e2⟩ => ?_)
        subst e1; subst e2
        rw [g3]
        exact hk _ g4 g5 g6
      · cases h
    · rw [stepX_other (by simpa using hc)] at h
      split at h
      · rename_i r hr
        injection h with h; subst h
        obtain ⟨r0, q1, q2, q3, q4, q5, q6⟩ := fop_local hr rfl fun q _ => rfl
        rw [hr] at q1; injection q1 with q1; subst q1
        refine ⟨q4, q6, fun st2 he hl hag κ hk => ?_⟩
        obtain ⟨r', g1, g2, g3, g4, g5, g6⟩ := fop_local hr hl hag
        rw [← fop_opers he] at g1
        exact wop_of_fop g1 (g2 hob) (by rw [g3]; exact hk _ g4 g5 g6)
      · cases h
  obtain ⟨l1, l2, loc⟩ := core
  refine ⟨fun t => by rw [put_slot], by rw [put_hp]; exact l1, fun q hq => by rw [put_hp]; exact l2 q hq, fun st2 ht hl hag κ hk => ?_⟩
  have he : ∀ x ∈ o.op.opers, ev G st2.sl x = ev G st.sl x := ev_same fun t h' => ht t (List.mem_append_left _ h')
  have run : wop P G B o.op st2 fun t s' => κ (s'.put o.dst t) := loc st2 he hl hag _ fun H2 a1 a2 a3 => hk _ (fun t hd => by rw [put_slot, if_pos hd]) (fun t hd => by rw [put_slot, if_neg hd]) (by rw [put_hp]; exact a1)
    (fun q hq => by rw [put_hp, put_hp]; exact a2 q hq) (fun q hq => by rw [put_hp]; exact a3 q hq)
  unfold wone
  split
  · exact run
  · rename_i t want hgd
    have : st2.sl t = .v (.c (.d (.v (.bool want)))) := by
      rw [ht t (by unfold tmpsOf; rw [hgd]; simp)]; exact hg t want hgd
    unfold condW
    rw [this]
    exact ⟨fun _ => run, fun e => by cases want <;> simp at e⟩

/-- An operation whose guard is not met. -/
theorem skip_step1 {o : AOper} {st : St} {t : Nat} {want b : Bool} (hgd : o.guard = some (t, want)) (ht : st.sl t = .v (.c (.d (.v (.bool b))))) (hb : b ≠ want) :
    Step1 P G B o ⟨[], [], .tup [], st, st.put o.dst (.tup [])⟩ := by
  refine ⟨fun t => by rw [put_slot], by rw [put_hp], fun q hq => by rw [put_hp], fun st2 hs hl hag κ hk => ?_⟩
  have h2 : st2.sl t = .v (.c (.d (.v (.bool b)))) := by
    rw [hs t (by unfold tmpsOf; rw [hgd]; simp)]; exact ht
  unfold wone
  rw [hgd]
  show condW _ _ _ _
  unfold condW
  rw [h2]
  refine ⟨fun e => absurd e hb, fun e => hk _ (fun t hd => by rw [put_slot, if_pos hd]) (fun t hd => by rw [put_slot, if_neg hd]) (by rw [put_hp]; exact hl) (fun q hq => by cases hq) (fun q hq => by rw [put_hp])⟩

/-- An operation whose guard was itself skipped. -/
theorem skip_stepU {o : AOper} {st : St} {t : Nat} {want : Bool} (hgd : o.guard = some (t, want)) (ht : st.sl t = .tup []) :
    Step1 P G B o ⟨[], [], .tup [], st, st.put o.dst (.tup [])⟩ := by
  refine ⟨fun t => by rw [put_slot], by rw [put_hp], fun q hq => by rw [put_hp], fun st2 hs hl hag κ hk => ?_⟩
  have h2 : st2.sl t = .tup [] := by
    rw [hs t (by unfold tmpsOf; rw [hgd]; simp)]; exact ht
  unfold wone
  rw [hgd]
  show condW _ _ _ _
  unfold condW
  rw [h2]
  exact hk _ (fun t hd => by rw [put_slot, if_pos hd]) (fun t hd => by rw [put_slot, if_neg hd]) (by rw [put_hp]; exact hl) (fun q hq => by cases hq) (fun q hq => by rw [put_hp])

/-- The whole run. -/
def Runs (P : Program) (G : Gl) (B : Nat) (cl : List (List Nat)) : Nat → List AOper → List (Nat × List Nat) → List (Nat × List Nat) → St → List Rec → St → Prop
  | _, [], _, _, st, L, sE => L = [] ∧ sE = st
  | i, o :: r, Ws, Rs, st, L, sE => ∃ c L', L = c :: L' ∧ c.pre = st ∧ Step1 P G B o c ∧ apW cl i (c.rd ++ c.wr) Ws ∧ apW cl i c.wr Rs ∧ Runs P G B cl (i + 1) r (addH i c.wr Ws) (addH i c.rd Rs) c.post L' sE

theorem apW_nil (cl : List (List Nat)) (i : Nat) (h : List (Nat × List Nat)) : apW cl i [] h := by cases h <;> trivial

theorem wlex_runs (hX : GoodX P G X) {cl : List (List Nat)} : ∀ {ops : List AOper} {i : Nat} {Ws Rs : List (Nat × List Nat)} {st : St} {k : St → Prop}, wlex G X B cl i ops Ws Rs st k → ∃ L sE, k sE ∧ Runs P G B cl i ops Ws Rs st L sE
  | [], i, Ws, Rs, st, k, h => ⟨[], st, h, rfl, rfl⟩
  | o :: r, i, Ws, Rs, st, k, h => by
    have go : ∀ (hg : ∀ t want, o.guard = some (t, want) → st.sl t = .v (.c (.d (.v (.bool want))))), (match stepX G X B st o.op with
      | some s => s.ob ∧ apW cl i (s.rd ++ s.wr) Ws ∧ apW cl i s.wr Rs ∧ wlex G X B cl (i + 1) r (addH i s.wr Ws) (addH i s.rd Rs) ((St.mk st.sl s.hp).put o.dst s.val) k
      | none => False) → ∃ L sE, k sE ∧ Runs P G B cl i (o :: r) Ws Rs st L sE := by
      intro hg h
      split at h
      · rename_i s hs
        obtain ⟨hob, h1, h2, h3⟩ := h
        obtain ⟨L, sE, hk, hr⟩ := wlex_runs hX h3
        exact ⟨_, sE, hk, _, L, rfl, rfl, stepX_step1 hX hs hob hg, h1, h2, hr⟩
      · exact h.elim
    simp only [wlex] at h
    split at h
    · rename_i hgd
      exact go (fun t want e => by rw [hgd] at e; cases e) h
    · rename_i t want hgd
      unfold condW at h
      split at h
      · rename_i b hb
        by_cases e : b = want
        · subst e
          exact go (fun t' want' e' => by rw [hgd] at e'; injection e' with e'; injection e' with e1 e2; subst e1; subst e2; exact hb) (h.1 rfl)
        · have h' := h.2 (by cases b <;> cases want <;> simp_all)
          obtain ⟨L, sE, hk, hr⟩ := wlex_runs hX h'
          exact ⟨_, sE, hk, _, L, rfl, rfl, skip_step1 hgd hb e, apW_nil _ _ _, apW_nil _ _ _, hr⟩
      · rename_i hb
        obtain ⟨L, sE, hk, hr⟩ := wlex_runs hX h
        exact ⟨_, sE, hk, _, L, rfl, rfl, skip_stepU hgd hb, apW_nil _ _ _, apW_nil _ _ _, hr⟩
      · exact h.elim

theorem apW_mem {cl : List (List Nat)} {i : Nat} : ∀ {rw : List Nat} {h : List (Nat × List Nat)}, apW cl i rw h → ∀ {j : Nat} {wr : List Nat}, (j, wr) ∈ h → ordB cl j i = true ∨ ∀ x ∈ wr, x ∉ rw
  | [], h, _, j, wr, hm => .inr fun x _ hx => (by cases hx)
  | q :: rw, (j', wr') :: h, ⟨h1, h2⟩, j, wr, hm => by
    rcases List.mem_cons.1 hm with e | hm
    · injection e with e1 e2; subst e1; subst e2; exact h1
    · exact apW_mem h2 hm

theorem mem_addH {i j : Nat} {l wr : List Nat} {h : List (Nat × List Nat)} : (j, wr) ∈ h → (j, wr) ∈ addH i l h := by
  intro hm; cases l with
  | nil => exact hm
  | cons q l => exact List.mem_cons_of_mem _ hm
theorem self_addH {i : Nat} {l : List Nat} {h : List (Nat × List Nat)} : l = [] ∨ (i, l) ∈ addH i l h := by
  cases l with
  | nil => exact .inl rfl
  | cons q l => exact .inr List.mem_cons_self

/-- What a run says of its operations. -/
theorem runs_spec {cl : List (List Nat)} : ∀ {ops : List AOper} {i : Nat} {Ws Rs : List (Nat × List Nat)} {st : St} {L : List Rec} {sE : St}, Runs P G B cl i ops Ws Rs st L sE →
    L.length = ops.length ∧ (∀ (m : Nat) o c, ops[m]? = some o → L[m]? = some c → Step1 P G B o c) ∧
    (∀ (m : Nat) c, L[m]? = some c → (∀ j wr, (j, wr) ∈ Ws → ordB cl j (i + m) = true ∨ ∀ x ∈ wr, x ∉ c.rd ++ c.wr) ∧ (∀ j wr, (j, wr) ∈ Rs → ordB cl j (i + m) = true ∨ ∀ x ∈ wr, x ∉ c.wr)) ∧
    (∀ (m m' : Nat) c c', m' < m → L[m]? = some c → L[m']? = some c' → ordB cl (i + m') (i + m) = true ∨ ((∀ x ∈ c'.wr, x ∉ c.rd ++ c.wr) ∧ ∀ x ∈ c'.rd, x ∉ c.wr)) ∧
    (∀ c, L[0]? = some c → c.pre = st) ∧ (∀ (m : Nat) c c', L[m]? = some c → L[m + 1]? = some c' → c'.pre = c.post) ∧ (∀ c, L.getLast? = some c → sE = c.post) ∧ (L = [] → sE = st)
  | [], i, Ws, Rs, st, L, sE, ⟨h1, h2⟩ => by
    subst h1; subst h2
    exact ⟨rfl, fun m o c h => by simp at h, fun m c h => by simp at h, fun m m' c c' _ h => by simp at h, fun c h => by simp at h, fun m c c' h => by simp at h, fun c h => by simp at h, fun _ => rfl⟩
  | o :: r, i, Ws, Rs, st, L, sE, ⟨c, L', hL, hpre, hs, ha, hb, hr⟩ => by
    subst hL
    obtain ⟨g1, g2, g3, g4, g5, g6, g7, g8⟩ := runs_spec hr
    refine ⟨by simp [g1], fun m o' c' ho hc => ?_, fun m c' hc => ?_, fun m m' c1 c2 hlt h1 h2 => ?_, fun c' hc => ?_, fun m c1 c2 h1 h2 => ?_, fun c' hc => ?_, fun e => by cases e⟩
    · cases m with
      | zero => simp at ho hc; subst ho; subst hc; exact hs
      | succ m => exact g2 m o' c' (by simpa using ho) (by simpa using hc)
    · cases m with
      | zero =>
        simp at hc; subst hc
        exact ⟨fun j wr hm => apW_mem ha hm, fun j wr hm => apW_mem hb hm⟩
      | succ m =>
        obtain ⟨q1, q2⟩ := g3 m c' (by simpa using hc)
        rw [show i + (m + 1) = i + 1 + m by omega]
        exact ⟨fun j wr hm => q1 j wr (mem_addH hm), fun j wr hm => q2 j wr (mem_addH hm)⟩
    · cases m with
      | zero => omega
      | succ m =>
        have h1' : L'[m]? = some c1 := by simpa using h1
        cases m' with
        | zero =>
          simp at h2; subst h2
          obtain ⟨q1, q2⟩ := g3 m c1 h1'
          rw [show i + (m + 1) = i + 1 + m by omega, Nat.add_zero]
          have e1 : ordB cl i (i + 1 + m) = true ∨ ∀ x ∈ c.wr, x ∉ c1.rd ++ c1.wr := by
            rcases self_addH (i := i) (l := c.wr) (h := Ws) with e | e
            · exact .inr fun x hx => by rw [e] at hx; cases hx
            · exact q1 _ _ e
          have e2 : ordB cl i (i + 1 + m) = true ∨ ∀ x ∈ c.rd, x ∉ c1.wr := by
            rcases self_addH (i := i) (l := c.rd) (h := Rs) with e | e
            · exact .inr fun x hx => by rw [e] at hx; cases hx
            · exact q2 _ _ e
          rcases e1 with e1 | e1
          · exact .inl e1
          · rcases e2 with e2 | e2
            · exact .inl e2
            · exact .inr ⟨e1, e2⟩
        | succ m' =>
          have := g4 m m' c1 c2 (by omega) h1' (by simpa using h2)
          rw [show i + (m + 1) = i + 1 + m by omega, show i + (m' + 1) = i + 1 + m' by omega]
          exact this
    · simp at hc; subst hc; exact hpre
    · cases m with
      | zero =>
        simp at h1; subst h1
        exact g5 c2 (by simpa using h2)
      | succ m => exact g6 m c1 c2 (by simpa using h1) (by simpa using h2)
    · cases L' with
      | nil => simp at hc; subst hc; exact g8 rfl
      | cons x l =>
        rw [List.getLast?_cons_cons] at hc
        exact g7 c' hc

theorem wlex_sound (hX : GoodX P G X) {ops : List AOper} {after : List (List Nat)} {s0 : St} {k : St → Prop} (hok : drawOk (clos after) ops after = true)
    (h : wlex G X B (clos after) 0 ops [] [] s0 k) : wAny P G B ops after after.length [] s0 k := by
  obtain ⟨L, sE, hk, hr⟩ := wlex_runs hX h
  obtain ⟨g1, g2, _, g4, g5, g6, g7, g8⟩ := runs_spec hr
  unfold drawOk at hok
  simp only [Bool.and_eq_true, beq_iff_eq] at hok
  obtain ⟨⟨hl, hac⟩, hsl⟩ := hok
  let E : Eff := ⟨fun i => (ops[i]?).bind (·.dst), fun i => match L[i]? with | some c => c.val | none => .v .any, fun i q => ∃ c, L[i]? = some c ∧ q ∈ c.wr, fun i q => match L[i]? with | some c => c.post.hp[q]? | none => none⟩
  have hat : ∀ i, i ≤ ops.length → (∀ c, L[i]? = some c → (∀ t, slAt E s0 (fun _ => True) i t = c.pre.sl t) ∧ (∀ q, hpAt E s0 (fun _ => True) i q = c.pre.hp[q]?) ∧ c.pre.hp.length = s0.hp.length) ∧
      (i = ops.length → (∀ t, slAt E s0 (fun _ => True) i t = sE.sl t) ∧ (∀ q, hpAt E s0 (fun _ => True) i q = sE.hp[q]?) ∧ sE.hp.length = s0.hp.length) := by
    intro i
    induction i with
    | zero =>
      intro _
      refine ⟨fun c hc => ?_, fun e => ?_⟩
      · rw [g5 c hc]; exact ⟨fun t => rfl, fun q => rfl, rfl⟩
      · have : L = [] := List.eq_nil_of_length_eq_zero (by rw [g1]; exact e.symm)
        rw [g8 this]; exact ⟨fun t => rfl, fun q => rfl, rfl⟩
    | succ i ih =>
      intro hi
      have hil : i < ops.length := by omega
      have hLi : L[i]? = some (L[i]'(by omega)) := by simp
      have hoi : ops[i]? = some ops[i] := by simp
      obtain ⟨p1, p2, p3⟩ := (ih (by omega)).1 _ hLi
      have hs := g2 i _ _ hoi hLi
      have post : (∀ t, slAt E s0 (fun _ => True) (i + 1) t = (L[i]'(by omega)).post.sl t) ∧ (∀ q, hpAt E s0 (fun _ => True) (i + 1) q = (L[i]'(by omega)).post.hp[q]?) ∧ (L[i]'(by omega)).post.hp.length = s0.hp.length := by
        refine ⟨fun t => ?_, fun q => ?_, by rw [hs.len]; exact p3⟩
        · unfold slAt
          rw [hs.slot t, p1 t]
          have e : E.dst i = ops[i].dst := by simp [E, hoi]
          have e2 : E.val i = (L[i]'(by omega)).val := by simp [E, hLi]
          rw [e, e2]
          by_cases q : ops[i].dst = some t
          · rw [if_pos ⟨trivial, q⟩, if_pos q]
          · rw [if_neg (fun x => q x.2), if_neg q]
        · unfold hpAt
          have e : E.wr i q ↔ q ∈ (L[i]'(by omega)).wr := by simp only [E, hLi]; exact ⟨fun ⟨c, h1, h2⟩ => by injection h1 with h1; rw [h1]; exact h2, fun h => ⟨_, rfl, h⟩⟩
          have e2 : E.obj i q = (L[i]'(by omega)).post.hp[q]? := by simp [E, hLi]
          by_cases hq : q ∈ (L[i]'(by omega)).wr
          · rw [if_pos ⟨trivial, e.2 hq⟩, e2]
          · rw [if_neg (fun x => hq (e.1 x.2)), p2 q, hs.out q hq]
      refine ⟨fun c hc => ?_, fun e => ?_⟩
      · rw [g6 i _ c hLi hc]; exact post
      · have : L.getLast? = some (L[i]'(by omega)) := by
          have e9 : L.length - 1 = i := by omega
          rw [List.getLast?_eq_getElem?, e9]; exact hLi
        rw [g7 _ this]; exact post
  let rs : Nat → Nat → Prop := fun i t => ∃ o, ops[i]? = some o ∧ t ∈ tmpsOf o
  let rd : Nat → Nat → Prop := fun i q => ∃ c, L[i]? = some c ∧ q ∈ c.rd
  have hbo : ∀ j i, before after j i = ordB (clos after) j i := fun j i => rfl
  have calm : Calm P G B ops after s0 E rs rd := by
    refine ⟨fun i j hji hi hb => ?_, fun i o ho st hst hlen hhp κ hκ => ?_⟩
    · have hoi : ops[i]? = some ops[i] := by simp
      have hoj : ops[j]? = some (ops[j]'(by omega)) := by simp
      have hLi : L[i]? = some (L[i]'(by omega)) := by simp
      have hLj : L[j]? = some (L[j]'(by omega)) := by simp
      have h1 := List.all_eq_true.1 hsl i (by simpa using hi)
      have h2 := List.all_eq_true.1 h1 j (by simpa using hji)
      rw [← hbo, hb, hoi, hoj] at h2
      simp only [Bool.false_or, Bool.and_eq_true] at h2
      have h3 := g4 i j _ _ hji hLi hLj
      rw [Nat.zero_add, Nat.zero_add, ← hbo, hb] at h3
      have h3 := h3.resolve_left (by simp)
      have ed : ∀ m (hm : m < ops.length), E.dst m = ops[m].dst := fun m hm => by simp [E, hm]
      refine ⟨fun t ht => ?_, fun t ht => ?_, fun q hq => ?_, fun q hq => ?_⟩
      · rw [ed j (by omega)] at ht
        have q := h2.1
        rw [ht] at q
        simp only [Bool.and_eq_true, Bool.not_eq_true', bne_iff_ne, ne_eq] at q
        refine ⟨fun ⟨o, ho, hm⟩ => ?_, by rw [ed i hi]; exact q.2⟩
        rw [hoi] at ho; injection ho with ho; subst ho
        have := q.1
        rw [List.contains_eq_mem, decide_eq_false_iff_not] at this
        exact this hm
      · rw [ed i hi] at ht
        have q := h2.2
        rw [ht] at q
        simp only [Bool.not_eq_true'] at q
        rintro ⟨o, ho, hm⟩
        rw [hoj] at ho; injection ho with ho; subst ho
        rw [List.contains_eq_mem, decide_eq_false_iff_not] at q
        exact q hm
      · obtain ⟨c, hc, hm⟩ := hq
        rw [hLj] at hc; injection hc with hc; subst hc
        have := h3.1 q hm
        refine ⟨fun ⟨c, hc, hm'⟩ => ?_, fun ⟨c, hc, hm'⟩ => ?_⟩
        · rw [hLi] at hc; injection hc with hc; subst hc
          exact this (List.mem_append_left _ hm')
        · rw [hLi] at hc; injection hc with hc; subst hc
          exact this (List.mem_append_right _ hm')
      · obtain ⟨c, hc, hm⟩ := hq
        rw [hLi] at hc; injection hc with hc; subst hc
        rintro ⟨c, hc, hm'⟩
        rw [hLj] at hc; injection hc with hc; subst hc
        exact h3.2 q hm' hm
    · have hi : i < ops.length := lt_of_get ho
      have hLi : L[i]? = some (L[i]'(by omega)) := by simp
      obtain ⟨p1, p2, p3⟩ := (hat i (by omega)).1 _ hLi
      have hs := g2 i o _ ho hLi
      have ed : E.dst i = o.dst := by simp [E, ho]
      have ev' : E.val i = (L[i]'(by omega)).val := by simp [E, hLi]
      refine hs.loc st (fun t ht => by rw [hst t ⟨o, ho, ht⟩, p1 t]) (by rw [hlen, p3]) (fun q hq => ?_) κ fun st' a1 a2 a3 a4 a5 => ?_
      · rw [hhp q ?_, p2 q]
        rcases hq with hq | hq
        · exact .inl ⟨_, hLi, hq⟩
        · exact .inr ⟨_, hLi, hq⟩
      · refine hκ st' (fun t ht => ?_) (fun t ht => ?_) (by rw [a3, p3]) (fun q hq => ?_) (fun q hq => ?_)
        · rw [ev']; exact a1 t (by rw [← ed]; exact ht)
        · exact a2 t (by rw [← ed]; exact ht)
        · obtain ⟨c, hc, hm⟩ := hq
          rw [hLi] at hc; injection hc with hc; subst hc
          rw [a4 q hm]; simp [E, hLi]
        · exact a5 q fun hm => hq ⟨_, hLi, hm⟩
  have hfin : ∀ st, At E s0 ops.length (fun _ => True) st → k st := by
    intro st hA
    obtain ⟨p1, p2, p3⟩ := (hat ops.length (Nat.le_refl _)).2 rfl
    have : st = sE := by
      have e1 : st.sl = sE.sl := funext fun t => by rw [hA.sl t, p1 t]
      have e2 : st.hp = sE.hp := List.ext_getElem? fun q => by rw [hA.hp q, p2 q]
      cases st; cases sE; simp only at e1 e2; rw [e1, e2]
    rw [this]; exact hk
  refine calm_any calm hl hac hfin after.length [] s0 ⟨fun t => ?_, rfl, fun r => ?_⟩ (fun x hx => by cases hx) List.nodup_nil (fun x hx => by cases hx) (by simpa using hl)
  · have : ∀ n, slAt E s0 (fun i => i ∈ ([] : List Nat)) n t = s0.sl t := fun n => by
      rw [slAt_top (i := 0) n (by omega) (fun j _ _ hj => by cases hj)]; rfl
    rw [this]
  · have : ∀ n, hpAt E s0 (fun i => i ∈ ([] : List Nat)) n r = s0.hp[r]? := fun n => by
      rw [hpAt_top (i := 0) n (by omega) (fun j _ _ hj => by cases hj)]; rfl
    rw [this]

theorem wcodeX_sound (hX : GoodX P G X) {N0 : Nat} : ∀ {c : AC} {st : St} {Q : Qt}, wcodeX P G X N0 c st Q → wcode P G N0 c st Q
  | .skip, st, Q, h => h
  | .region n ops, st, Q, h => wopsX_sound hX h
  | .dregion n ops after, st, Q, h => wlex_sound hX h.1 h.2
  | .seq x y, st, Q, h => wcode_mono (c := x) (Q := thenQ (wcodeX P G X N0 y) Q) (fun e s q => by
      cases e with
      | normal => exact wcodeX_sound hX (c := y) q
      | exit i => exact q
      | ret => exact q) (wcodeX_sound hX (c := x) h)
  | .cond c x y, st, Q, h => condP_mono h (wcodeX_sound hX) (wcodeX_sound hX)
  | .block id x, st, Q, h => wcodeX_sound hX (c := x) h
  | .loop x, st, Q, h => by
      obtain ⟨I, μ, h1, h2⟩ := h
      exact ⟨I, μ, h1, fun s hs => wcodeX_sound hX (c := x) (h2 s hs)⟩
  | .exit id, st, Q, h => h
  | .ret, st, Q, h => h

end
end Go.Aw

/- How a function's contract is proved: its code run with a table of contracts, its loops by counted invariants. -/
namespace Go.Aw
open Go

section
variable {P : Program} {G : Gl} {X : XT}

theorem wopsX_mono {B : Nat} : ∀ {l : List AOper} {st : St} {k k' : St → Prop}, (∀ s, k s → k' s) → wopsX P G X B l st k → wopsX P G X B l st k'
  | [], st, k, k', hk, h => hk _ h
  | o :: r, st, k, k', hk, h => by
    simp only [wopsX] at h ⊢
    cases hg : o.guard with
    | none => rw [hg] at h; exact wopX_mono (fun t s q => wopsX_mono hk q) h
    | some p => rw [hg] at h; exact condW_mono h (wopX_mono fun t s q => wopsX_mono hk q) (wopsX_mono hk)

theorem wlex_mono {B : Nat} {cl : List (List Nat)} : ∀ {l : List AOper} {i : Nat} {Ws Rs : List (Nat × List Nat)} {st : St} {k k' : St → Prop}, (∀ s, k s → k' s) → wlex G X B cl i l Ws Rs st k → wlex G X B cl i l Ws Rs st k'
  | [], i, Ws, Rs, st, k, k', hk, h => hk _ h
  | o :: r, i, Ws, Rs, st, k, k', hk, h => by
    have go : (match stepX G X B st o.op with
      | some s => s.ob ∧ apW cl i (s.rd ++ s.wr) Ws ∧ apW cl i s.wr Rs ∧ wlex G X B cl (i + 1) r (addH i s.wr Ws) (addH i s.rd Rs) ((St.mk st.sl s.hp).put o.dst s.val) k
      | none => False) → (match stepX G X B st o.op with
      | some s => s.ob ∧ apW cl i (s.rd ++ s.wr) Ws ∧ apW cl i s.wr Rs ∧ wlex G X B cl (i + 1) r (addH i s.wr Ws) (addH i s.rd Rs) ((St.mk st.sl s.hp).put o.dst s.val) k'
      | none => False) := by
      intro h
      cases hs : stepX G X B st o.op with
      | none => rw [hs] at h; exact h.elim
      | some s => rw [hs] at h; exact ⟨h.1, h.2.1, h.2.2.1, wlex_mono hk h.2.2.2⟩
    simp only [wlex] at h ⊢
    cases hg : o.guard with
    | none => rw [hg] at h; exact go h
    | some p => rw [hg] at h; exact condW_mono h go (wlex_mono hk)

theorem wcodeX_mono {N0 : Nat} : ∀ {c : AC} {st : St} {Q Q' : Qt}, (∀ e s, Q e s → Q' e s) → wcodeX P G X N0 c st Q → wcodeX P G X N0 c st Q'
  | .skip, st, Q, Q', hq, h => hq _ _ h
  | .region n ops, st, Q, Q', hq, h => wopsX_mono (fun s q => hq _ _ q) h
  | .dregion n ops after, st, Q, Q', hq, h => ⟨h.1, wlex_mono (fun s q => hq _ _ q) h.2⟩
  | .seq x y, st, Q, Q', hq, h => by
      show wcodeX P G X N0 x st (thenQ (wcodeX P G X N0 y) Q')
      refine wcodeX_mono (c := x) (Q := thenQ (wcodeX P G X N0 y) Q) (fun e s q => ?_) h
      cases e with
      | normal => exact wcodeX_mono (c := y) hq q
      | exit i => exact hq _ _ q
      | ret => exact hq _ _ q
  | .cond c x y, st, Q, Q', hq, h => condP_mono h (wcodeX_mono hq) (wcodeX_mono hq)
  | .block id x, st, Q, Q', hq, h => by
      show wcodeX P G X N0 x st (blockQ id Q')
      refine wcodeX_mono (c := x) (Q := blockQ id Q) (fun e s q => ?_) h
      cases e with
      | normal => exact hq _ _ q
      | exit i =>
        show if i = id then Q' .normal s else Q' (.exit i) s
        have q : if i = id then Q .normal s else Q (.exit i) s := q
        split
        · rename_i e; rw [if_pos e] at q; exact hq _ _ q
        · rename_i e; rw [if_neg e] at q; exact hq _ _ q
      | ret => exact hq _ _ q
  | .loop x, st, Q, Q', hq, h => by
      obtain ⟨I, μ, h1, h2⟩ := h
      refine ⟨I, μ, h1, fun s hs => wcodeX_mono (fun e s' q => ?_) (h2 s hs)⟩
      cases e with
      | normal => exact q
      | exit i => exact hq _ _ q
      | ret => exact hq _ _ q
  | .exit id, st, Q, Q', hq, h => hq _ _ h
  | .ret, st, Q, Q', hq, h => hq _ _ h

open Classical in
theorem loopX {N0 : Nat} {x : AC} {st : St} {Q : Qt} (I : Nat → St → Prop) (h0 : wk P G N0 st fun s => ∃ k, I k s)
    (h : ∀ k s, I k s → wcodeX P G X N0 x s (loopN P G N0 I k Q)) : wcodeX P G X N0 (.loop x) st Q := by
  let J : St → Prop := fun s => ∃ k, I k s
  have hleast : ∀ s, J s → ∃ k, I k s ∧ ∀ k', I k' s → k ≤ k' := by
    rintro s ⟨k, hk⟩
    induction k using Nat.strongRecOn with
    | _ k ih =>
      by_cases hx : ∃ k', k' < k ∧ I k' s
      · obtain ⟨k', h1, h2⟩ := hx; exact ih k' h1 h2
      · refine ⟨k, hk, fun k' hk' => Nat.le_of_not_lt fun hl => hx ⟨k', hl, hk'⟩⟩
  let μ : St → Nat := fun s => if hs : J s then Classical.choose (hleast s hs) else 0
  have hμ : ∀ s, J s → I (μ s) s ∧ ∀ k', I k' s → μ s ≤ k' := fun s hs => by
    have := Classical.choose_spec (hleast s hs)
    simp only [μ, dif_pos hs]; exact this
  show loopW P G N0 (wcodeX P G X N0 x) st Q
  refine ⟨J, μ, h0, fun s hs => ?_⟩
  refine wcodeX_mono (fun e s' q => ?_) (h (μ s) s (hμ s hs).1)
  cases e with
  | normal => exact wk_mono (fun s'' ⟨k', h1, h2⟩ => ⟨⟨k', h2⟩, Nat.lt_of_le_of_lt ((hμ s'' ⟨k', h2⟩).2 k' h2) h1⟩) q
  | exit i => exact q
  | ret => exact q

theorem acallsX {tt : TT} (hX : GoodX P G X) (htab : tabB P tt = true) (hmix : P.follows .mixedOrders = true) {f : Nat} {fn : Func} {af : AF} (hf : P.funcs[f]? = some fn) (hc : compF tt fn = some af) {args : List V} {H : List O} {R : T → List O → Prop} (hn : Nat.ble args.length af.n = true)
    (h : Wf H → wcodeX P G X H.length af.body ⟨argSl args, H⟩ (retQ P H.length af.res R)) : ACalls P G f args H R :=
  acalls_pre htab hmix hf hc hn fun hw => wcodeX_sound hX (h hw)

end
end Go.Aw

/- The types and the code of the functions of this seat, as the abstract machine has them. -/
namespace Go.Aw.Try
open Go Go.Proofs Go.Aw
set_option maxRecDepth 100000
set_option maxHeartbeats 4000000
def tt : TT := [
  (1, ⟨.func, 1, 8, [.nilFunc], false, false⟩),
  (2, ⟨.int .i64, 1, 8, [.int .i64 0], false, false⟩),
  (3, ⟨.int .i64, 1, 8, [.int .i64 0], false, false⟩),
  (4, ⟨.bool, 1, 1, [.bool false], false, false⟩),
  (5, ⟨.int .u8, 1, 1, [.int .u8 0], false, false⟩),
  (6, ⟨.int .u8, 1, 1, [.int .u8 0], false, false⟩),
  (7, ⟨.st [(0, 2), (1, 3), (2, 4), (3, 6)], 4, 24, [.int .i64 0, .int .i64 0, .bool false, .int .u8 0], true, true⟩),
  (8, ⟨.st [(0, 2), (1, 3), (2, 4), (3, 6)], 4, 24, [.int .i64 0, .int .i64 0, .bool false, .int .u8 0], true, true⟩),
  (9, ⟨.str, 1, 16, [.string ⟨#[]⟩], false, false⟩),
  (10, ⟨.str, 1, 16, [.string ⟨#[]⟩], false, false⟩),
  (11, ⟨.str, 1, 16, [.string ⟨#[]⟩], false, false⟩),
  (12, ⟨.int .u64, 1, 8, [.int .u64 0], false, false⟩),
  (15, ⟨.ptr, 1, 8, [.pointer none], false, false⟩),
  (16, ⟨.ptr, 1, 8, [.pointer none], false, false⟩),
  (17, ⟨.ptr, 1, 8, [.pointer none], false, false⟩),
  (18, ⟨.st [(0, 17)], 1, 8, [.pointer none], true, false⟩),
  (19, ⟨.st [(0, 17)], 1, 8, [.pointer none], true, false⟩),
  (20, ⟨.iface, 1, 16, [.nilIface], false, false⟩),
  (21, ⟨.int .i32, 1, 4, [.int .i32 0], false, false⟩),
  (22, ⟨.sl 38, 1, 24, [.slice none 0 0], false, false⟩),
  (23, ⟨.sl 43, 1, 24, [.slice none 0 0], false, false⟩),
  (24, ⟨.func, 1, 8, [.nilFunc], false, false⟩),
  (25, ⟨.func, 1, 8, [.nilFunc], false, false⟩),
  (26, ⟨.func, 1, 8, [.nilFunc], false, false⟩),
  (27, ⟨.func, 1, 8, [.nilFunc], false, false⟩),
  (28, ⟨.func, 1, 8, [.nilFunc], false, false⟩),
  (29, ⟨.func, 1, 8, [.nilFunc], false, false⟩),
  (30, ⟨.func, 1, 8, [.nilFunc], false, false⟩),
  (31, ⟨.func, 1, 8, [.nilFunc], false, false⟩),
  (32, ⟨.st [(0, 9), (1, 3)], 2, 24, [.string ⟨#[]⟩, .int .i64 0], true, true⟩),
  (33, ⟨.st [(0, 9), (1, 3)], 2, 24, [.string ⟨#[]⟩, .int .i64 0], true, true⟩),
  (34, ⟨.sl 33, 1, 24, [.slice none 0 0], false, false⟩),
  (35, ⟨.st [(0, 4), (1, 9), (2, 9)], 3, 40, [.bool false, .string ⟨#[]⟩, .string ⟨#[]⟩], true, true⟩),
  (36, ⟨.st [(0, 4), (1, 9), (2, 9)], 3, 40, [.bool false, .string ⟨#[]⟩, .string ⟨#[]⟩], true, true⟩),
  (37, ⟨.st [(0, 33), (2, 3), (3, 3), (4, 34), (5, 3), (6, 33), (8, 33), (10, 36), (13, 9), (14, 9), (15, 33), (17, 9)], 18, 232, [.string ⟨#[]⟩, .int .i64 0, .int .i64 0, .int .i64 0, .slice none 0 0, .int .i64 0, .string ⟨#[]⟩, .int .i64 0, .string ⟨#[]⟩, .int .i64 0, .bool false, .string ⟨#[]⟩, .string ⟨#[]⟩, .string ⟨#[]⟩, .string ⟨#[]⟩, .string ⟨#[]⟩, .int .i64 0, .string ⟨#[]⟩], true, false⟩),
  (38, ⟨.st [(0, 33), (2, 3), (3, 3), (4, 34), (5, 3), (6, 33), (8, 33), (10, 36), (13, 9), (14, 9), (15, 33), (17, 9)], 18, 232, [.string ⟨#[]⟩, .int .i64 0, .int .i64 0, .int .i64 0, .slice none 0 0, .int .i64 0, .string ⟨#[]⟩, .int .i64 0, .string ⟨#[]⟩, .int .i64 0, .bool false, .string ⟨#[]⟩, .string ⟨#[]⟩, .string ⟨#[]⟩, .string ⟨#[]⟩, .string ⟨#[]⟩, .int .i64 0, .string ⟨#[]⟩], true, false⟩),
  (39, ⟨.func, 1, 8, [.nilFunc], false, false⟩),
  (40, ⟨.func, 1, 8, [.nilFunc], false, false⟩),
  (41, ⟨.int .i64, 1, 8, [.int .i64 0], false, false⟩),
  (42, ⟨.st [(0, 9), (1, 3), (2, 41)], 3, 32, [.string ⟨#[]⟩, .int .i64 0, .int .i64 0], true, true⟩),
  (43, ⟨.st [(0, 9), (1, 3), (2, 41)], 3, 32, [.string ⟨#[]⟩, .int .i64 0, .int .i64 0], true, true⟩),
  (44, ⟨.func, 1, 8, [.nilFunc], false, false⟩),
  (45, ⟨.sl 54, 1, 24, [.slice none 0 0], false, false⟩),
  (46, ⟨.func, 1, 8, [.nilFunc], false, false⟩),
  (47, ⟨.sl 3, 1, 24, [.slice none 0 0], false, false⟩),
  (49, ⟨.func, 1, 8, [.nilFunc], false, false⟩),
  (50, ⟨.func, 1, 8, [.nilFunc], false, false⟩),
  (51, ⟨.st [(0, 23), (1, 38)], 19, 256, [.slice none 0 0, .string ⟨#[]⟩, .int .i64 0, .int .i64 0, .int .i64 0, .slice none 0 0, .int .i64 0, .string ⟨#[]⟩, .int .i64 0, .string ⟨#[]⟩, .int .i64 0, .bool false, .string ⟨#[]⟩, .string ⟨#[]⟩, .string ⟨#[]⟩, .string ⟨#[]⟩, .string ⟨#[]⟩, .int .i64 0, .string ⟨#[]⟩], true, false⟩),
  (52, ⟨.st [(0, 23), (1, 38)], 19, 256, [.slice none 0 0, .string ⟨#[]⟩, .int .i64 0, .int .i64 0, .int .i64 0, .slice none 0 0, .int .i64 0, .string ⟨#[]⟩, .int .i64 0, .string ⟨#[]⟩, .int .i64 0, .bool false, .string ⟨#[]⟩, .string ⟨#[]⟩, .string ⟨#[]⟩, .string ⟨#[]⟩, .string ⟨#[]⟩, .int .i64 0, .string ⟨#[]⟩], true, false⟩),
  (53, ⟨.st [(0, 9), (1, 9)], 2, 32, [.string ⟨#[]⟩, .string ⟨#[]⟩], true, true⟩),
  (54, ⟨.st [(0, 9), (1, 9)], 2, 32, [.string ⟨#[]⟩, .string ⟨#[]⟩], true, true⟩),
  (55, ⟨.func, 1, 8, [.nilFunc], false, false⟩),
  (56, ⟨.func, 1, 8, [.nilFunc], false, false⟩),
  (57, ⟨.func, 1, 8, [.nilFunc], false, false⟩),
  (58, ⟨.func, 1, 8, [.nilFunc], false, false⟩),
  (59, ⟨.sl 9, 1, 24, [.slice none 0 0], false, false⟩),
  (60, ⟨.func, 1, 8, [.nilFunc], false, false⟩),
  (62, ⟨.func, 1, 8, [.nilFunc], false, false⟩),
  (63, ⟨.func, 1, 8, [.nilFunc], false, false⟩),
  (64, ⟨.func, 1, 8, [.nilFunc], false, false⟩),
  (65, ⟨.map 9 3, 1, 8, [.map none], false, false⟩),
  (66, ⟨.func, 1, 8, [.nilFunc], false, false⟩),
  (67, ⟨.func, 1, 8, [.nilFunc], false, false⟩),
  (68, ⟨.func, 1, 8, [.nilFunc], false, false⟩),
  (69, ⟨.func, 1, 8, [.nilFunc], false, false⟩),
  (70, ⟨.func, 1, 8, [.nilFunc], false, false⟩),
  (71, ⟨.func, 1, 8, [.nilFunc], false, false⟩),
  (72, ⟨.func, 1, 8, [.nilFunc], false, false⟩),
  (73, ⟨.func, 1, 8, [.nilFunc], false, false⟩),
  (74, ⟨.st [(0, 33), (2, 33), (4, 33), (6, 33), (8, 3), (9, 3), (10, 3), (11, 36), (14, 9), (15, 9), (16, 9)], 17, 208, [.string ⟨#[]⟩, .int .i64 0, .string ⟨#[]⟩, .int .i64 0, .string ⟨#[]⟩, .int .i64 0, .string ⟨#[]⟩, .int .i64 0, .int .i64 0, .int .i64 0, .int .i64 0, .bool false, .string ⟨#[]⟩, .string ⟨#[]⟩, .string ⟨#[]⟩, .string ⟨#[]⟩, .string ⟨#[]⟩], true, true⟩),
  (75, ⟨.st [(0, 33), (2, 33), (4, 33), (6, 33), (8, 3), (9, 3), (10, 3), (11, 36), (14, 9), (15, 9), (16, 9)], 17, 208, [.string ⟨#[]⟩, .int .i64 0, .string ⟨#[]⟩, .int .i64 0, .string ⟨#[]⟩, .int .i64 0, .string ⟨#[]⟩, .int .i64 0, .int .i64 0, .int .i64 0, .int .i64 0, .bool false, .string ⟨#[]⟩, .string ⟨#[]⟩, .string ⟨#[]⟩, .string ⟨#[]⟩, .string ⟨#[]⟩], true, true⟩),
  (76, ⟨.func, 1, 8, [.nilFunc], false, false⟩),
  (77, ⟨.func, 1, 8, [.nilFunc], false, false⟩),
  (78, ⟨.func, 1, 8, [.nilFunc], false, false⟩),
  (79, ⟨.map 9 82, 1, 8, [.map none], false, false⟩),
  (80, ⟨.func, 1, 8, [.nilFunc], false, false⟩),
  (81, ⟨.st [(0, 3), (1, 3), (2, 3)], 3, 24, [.int .i64 0, .int .i64 0, .int .i64 0], true, true⟩),
  (82, ⟨.st [(0, 3), (1, 3), (2, 3)], 3, 24, [.int .i64 0, .int .i64 0, .int .i64 0], true, true⟩),
  (84, ⟨.func, 1, 8, [.nilFunc], false, false⟩),
  (85, ⟨.func, 1, 8, [.nilFunc], false, false⟩),
  (86, ⟨.map 33 38, 1, 8, [.map none], false, false⟩),
  (88, ⟨.func, 1, 8, [.nilFunc], false, false⟩),
  (89, ⟨.func, 1, 8, [.nilFunc], false, false⟩),
  (90, ⟨.func, 1, 8, [.nilFunc], false, false⟩),
  (91, ⟨.func, 1, 8, [.nilFunc], false, false⟩),
  (92, ⟨.func, 1, 8, [.nilFunc], false, false⟩),
  (93, ⟨.func, 1, 8, [.nilFunc], false, false⟩),
  (94, ⟨.func, 1, 8, [.nilFunc], false, false⟩),
  (96, ⟨.func, 1, 8, [.nilFunc], false, false⟩),
  (97, ⟨.func, 1, 8, [.nilFunc], false, false⟩),
  (98, ⟨.func, 1, 8, [.nilFunc], false, false⟩),
  (99, ⟨.func, 1, 8, [.nilFunc], false, false⟩),
  (100, ⟨.func, 1, 8, [.nilFunc], false, false⟩),
  (101, ⟨.func, 1, 8, [.nilFunc], false, false⟩),
  (102, ⟨.int .u64, 1, 8, [.int .u64 0], false, false⟩),
  (103, ⟨.func, 1, 8, [.nilFunc], false, false⟩),
  (104, ⟨.func, 1, 8, [.nilFunc], false, false⟩),
  (105, ⟨.func, 1, 8, [.nilFunc], false, false⟩),
  (106, ⟨.func, 1, 8, [.nilFunc], false, false⟩),
  (107, ⟨.func, 1, 8, [.nilFunc], false, false⟩),
  (108, ⟨.func, 1, 8, [.nilFunc], false, false⟩),
  (109, ⟨.int .i64, 1, 8, [.int .i64 0], false, false⟩),
  (111, ⟨.func, 1, 8, [.nilFunc], false, false⟩),
  (112, ⟨.func, 1, 8, [.nilFunc], false, false⟩),
  (113, ⟨.func, 1, 8, [.nilFunc], false, false⟩),
  (114, ⟨.func, 1, 8, [.nilFunc], false, false⟩),
  (115, ⟨.func, 1, 8, [.nilFunc], false, false⟩),
  (116, ⟨.func, 1, 8, [.nilFunc], false, false⟩),
  (117, ⟨.int .u32, 1, 4, [.int .u32 0], false, false⟩),
  (118, ⟨.func, 1, 8, [.nilFunc], false, false⟩),
  (119, ⟨.int .u64, 1, 8, [.int .u64 0], false, false⟩),
  (120, ⟨.func, 1, 8, [.nilFunc], false, false⟩),
  (121, ⟨.int .u64, 1, 8, [.int .u64 0], false, false⟩),
  (122, ⟨.func, 1, 8, [.nilFunc], false, false⟩),
  (123, ⟨.func, 1, 8, [.nilFunc], false, false⟩),
  (124, ⟨.func, 1, 8, [.nilFunc], false, false⟩),
  (125, ⟨.ptr, 1, 8, [.pointer none], false, false⟩),
  (126, ⟨.func, 1, 8, [.nilFunc], false, false⟩),
  (127, ⟨.func, 1, 8, [.nilFunc], false, false⟩),
  (128, ⟨.ptr, 1, 8, [.pointer none], false, false⟩),
  (129, ⟨.func, 1, 8, [.nilFunc], false, false⟩),
  (130, ⟨.func, 1, 8, [.nilFunc], false, false⟩),
  (133, ⟨.arr 0 16, 0, 0, [], true, false⟩),
  (136, ⟨.func, 1, 8, [.nilFunc], false, false⟩),
  (137, ⟨.int .u8, 1, 1, [.int .u8 0], false, false⟩),
  (138, ⟨.int .u8, 1, 1, [.int .u8 0], false, false⟩),
  (139, ⟨.func, 1, 8, [.nilFunc], false, false⟩),
  (140, ⟨.ptr, 1, 8, [.pointer none], false, false⟩),
  (141, ⟨.int .i32, 1, 4, [.int .i32 0], false, false⟩),
  (142, ⟨.int .i32, 1, 4, [.int .i32 0], false, false⟩)]
theorem tab : tabB Try.prog tt = true := by kernel_rfl
end Go.Aw.Try

namespace Go.Aw.Try
open Go Go.Proofs Go.Aw
set_option maxRecDepth 100000
set_option maxHeartbeats 4000000
def b3 : AC := (.seq (.region 0 [
    ⟨(some 4), (.mov (.const (.bool false))), none⟩])
  (.seq (.seq (.region 0 [
    ⟨(some 5), (.mov (.tmp 0)), none⟩,
    ⟨(some 6), (.call 15 [(.tmp 5)]), none⟩,
    ⟨(some 7), (.binI .gtr .i64 (.tmp 6) (.const (.int .i64 0))), none⟩,
    ⟨(some 8), (.mov (.tmp 7)), none⟩,
    ⟨(some 9), (.mov (.tmp 1)), (some (8, false))⟩,
    ⟨(some 10), (.lenL (.tmp 9)), (some (8, false))⟩,
    ⟨(some 11), (.binI .gtr .i64 (.tmp 10) (.const (.int .i64 20))), (some (8, false))⟩,
    ⟨(some 12), (.pick (.tmp 8) (.const (.bool true)) (.tmp 11)), none⟩])
  (.cond (.tmp 12) (.seq (.region 0 [
    ⟨(some 13), (.call 16 []), none⟩,
    ⟨(some 4), (.mov (.tmp 13)), none⟩])
  .ret) .skip))
  (.seq (.region 0 [
    ⟨(some 14), (.call 16 []), none⟩,
    ⟨(some 15), (.mov (.tmp 14)), none⟩,
    ⟨(some 16), (.mov (.tmp 0)), (some (15, true))⟩,
    ⟨(some 17), (.mov (.tmp 1)), (some (15, true))⟩,
    ⟨(some 18), (.call 18 [(.tmp 16), (.tmp 17)]), (some (15, true))⟩,
    ⟨(some 19), (.mov (.tmp 0)), (some (15, true))⟩,
    ⟨(some 20), (.mov (.tmp 1)), (some (15, true))⟩,
    ⟨(some 21), (.call 19 [(.tmp 19), (.tmp 20)]), (some (15, true))⟩,
    ⟨(some 22), (.call 17 [(.tmp 18), (.tmp 21)]), (some (15, true))⟩,
    ⟨(some 23), (.pick (.tmp 15) (.tmp 22) (.const (.bool false))), none⟩,
    ⟨(some 4), (.mov (.tmp 23)), none⟩])
  .ret)))
def ir3 : AF := ⟨24, [(.tmp 4)], b3⟩
theorem c3 : compF tt Try.f3 = some ir3 := by kernel_rfl
def b4 : AC := (.seq (.region 0 [
    ⟨(some 6), (.mov (.const (.bool false))), none⟩])
  (.seq (.region 3 [
    ⟨(some 9), (.bsl 0 18 [(.v (.string ⟨#[]⟩)), (.v (.int .i64 0)), (.v (.int .i64 0)), (.v (.int .i64 0)), (.v (.slice none 0 0)), (.v (.int .i64 0)), (.v (.string ⟨#[]⟩)), (.v (.int .i64 0)), (.v (.string ⟨#[]⟩)), (.v (.int .i64 0)), (.v (.bool false)), (.v (.string ⟨#[]⟩)), (.v (.string ⟨#[]⟩)), (.v (.string ⟨#[]⟩)), (.v (.string ⟨#[]⟩)), (.v (.string ⟨#[]⟩)), (.v (.int .i64 0)), (.v (.string ⟨#[]⟩))] 0 []), none⟩,
    ⟨(some 10), (.mov (.tmp 0)), none⟩,
    ⟨(some 11), (.app 1 18 232 (.tmp 9) (.tmp 10)), none⟩,
    ⟨(some 12), (.mov (.tmp 1)), none⟩,
    ⟨(some 13), (.app 2 18 232 (.tmp 11) (.tmp 12)), none⟩,
    ⟨(some 7), (.mov (.tmp 13)), none⟩])
  (.seq (.seq (.region 0 [
    ⟨(some 14), (.mov (.tmp 7)), none⟩,
    ⟨(some 15), (.call 15 [(.tmp 14)]), none⟩,
    ⟨(some 16), (.binI .gtr .i64 (.tmp 15) (.const (.int .i64 0))), none⟩,
    ⟨(some 17), (.mov (.tmp 16)), none⟩,
    ⟨(some 18), (.mov (.tmp 2)), (some (17, false))⟩,
    ⟨(some 19), (.lenL (.tmp 18)), (some (17, false))⟩,
    ⟨(some 20), (.binI .gtr .i64 (.tmp 19) (.const (.int .i64 20))), (some (17, false))⟩,
    ⟨(some 21), (.pick (.tmp 17) (.const (.bool true)) (.tmp 20)), none⟩])
  (.cond (.tmp 21) (.seq (.region 0 [
    ⟨(some 22), (.call 16 []), none⟩,
    ⟨(some 6), (.mov (.tmp 22)), none⟩])
  .ret) .skip))
  (.seq (.region 3 [
    ⟨(some 23), (.bsl 0 18 [(.v (.string ⟨#[]⟩)), (.v (.int .i64 0)), (.v (.int .i64 0)), (.v (.int .i64 0)), (.v (.slice none 0 0)), (.v (.int .i64 0)), (.v (.string ⟨#[]⟩)), (.v (.int .i64 0)), (.v (.string ⟨#[]⟩)), (.v (.int .i64 0)), (.v (.bool false)), (.v (.string ⟨#[]⟩)), (.v (.string ⟨#[]⟩)), (.v (.string ⟨#[]⟩)), (.v (.string ⟨#[]⟩)), (.v (.string ⟨#[]⟩)), (.v (.int .i64 0)), (.v (.string ⟨#[]⟩))] 0 []), none⟩,
    ⟨(some 24), (.mov (.tmp 0)), none⟩,
    ⟨(some 25), (.mov (.tmp 2)), none⟩,
    ⟨(some 26), (.call 18 [(.tmp 24), (.tmp 25)]), none⟩,
    ⟨(some 27), (.app 1 18 232 (.tmp 23) (.tmp 26)), none⟩,
    ⟨(some 28), (.mov (.tmp 1)), none⟩,
    ⟨(some 29), (.mov (.tmp 2)), none⟩,
    ⟨(some 30), (.call 18 [(.tmp 28), (.tmp 29)]), none⟩,
    ⟨(some 31), (.app 2 18 232 (.tmp 27) (.tmp 30)), none⟩,
    ⟨(some 8), (.mov (.tmp 31)), none⟩])
  (.seq (.region 1 [
    ⟨(some 32), (.call 16 []), none⟩,
    ⟨(some 33), (.mov (.tmp 32)), none⟩,
    ⟨(some 34), (.mov (.tmp 7)), (some (33, true))⟩,
    ⟨(some 35), (.mov (.tmp 2)), (some (33, true))⟩,
    ⟨(some 36), (.call 18 [(.tmp 34), (.tmp 35)]), (some (33, true))⟩,
    ⟨(some 37), (.mov (.tmp 8)), (some (33, true))⟩,
    ⟨(some 38), (.call 20 [(.tmp 37)]), (some (33, true))⟩,
    ⟨(some 39), (.call 17 [(.tmp 36), (.tmp 38)]), (some (33, true))⟩,
    ⟨(some 40), (.pick (.tmp 33) (.tmp 39) (.const (.bool false))), none⟩,
    ⟨(some 41), (.mov (.tmp 40)), none⟩,
    ⟨(some 42), (.mov (.tmp 7)), (some (41, true))⟩,
    ⟨(some 43), (.call 20 [(.tmp 42)]), (some (41, true))⟩,
    ⟨(some 44), (.mov (.tmp 0)), (some (41, true))⟩,
    ⟨(some 45), (.call 20 [(.tmp 44)]), (some (41, true))⟩,
    ⟨(some 46), (.mov (.tmp 1)), (some (41, true))⟩,
    ⟨(some 47), (.call 20 [(.tmp 46)]), (some (41, true))⟩,
    ⟨(some 48), (.app 0 18 232 (.tmp 45) (.tmp 47)), (some (41, true))⟩,
    ⟨(some 49), (.call 20 [(.tmp 48)]), (some (41, true))⟩,
    ⟨(some 50), (.call 17 [(.tmp 43), (.tmp 49)]), (some (41, true))⟩,
    ⟨(some 51), (.pick (.tmp 41) (.tmp 50) (.const (.bool false))), none⟩,
    ⟨(some 6), (.mov (.tmp 51)), none⟩])
  .ret)))))
def ir4 : AF := ⟨52, [(.tmp 6)], b4⟩
theorem c4 : compF tt Try.f4 = some ir4 := by kernel_rfl
def b15_0 : AC := (.region 0 [
    ⟨(some 2), (.mov (.const (.int .i64 0))), none⟩])
def b15_1 : AC := (.region 0 [
    ⟨(some 3), (.mov (.const (.int .i64 0))), none⟩])
def b15_2 : AC := (.seq (.region 0 [
    ⟨(some 8), (.mov (.tmp 0)), none⟩,
    ⟨(some 9), (.lenL (.tmp 8)), none⟩,
    ⟨(some 10), (.mov (.const (.int .i64 0))), none⟩])
  (.block 0 (.loop (.seq (.region 0 [
    ⟨(some 11), (.binI .lss .i64 (.tmp 10) (.tmp 9)), none⟩])
  (.seq (.cond (.tmp 11) .skip (.exit 0))
  (.seq (.block 1 (.seq (.region 1 [
    ⟨(some 12), (.iaddr 18 (.tmp 8) (.tmp 10)), none⟩,
    ⟨(some 13), (.load true 18 (.tmp 12)), none⟩,
    ⟨(some 5), (.zero 0 [(.v (.string ⟨#[]⟩)), (.v (.int .i64 0)), (.v (.int .i64 0)), (.v (.int .i64 0)), (.v (.slice none 0 0)), (.v (.int .i64 0)), (.v (.string ⟨#[]⟩)), (.v (.int .i64 0)), (.v (.string ⟨#[]⟩)), (.v (.int .i64 0)), (.v (.bool false)), (.v (.string ⟨#[]⟩)), (.v (.string ⟨#[]⟩)), (.v (.string ⟨#[]⟩)), (.v (.string ⟨#[]⟩)), (.v (.string ⟨#[]⟩)), (.v (.int .i64 0)), (.v (.string ⟨#[]⟩))]), none⟩,
    ⟨none, (.store 18 (.tmp 5) (.tmp 13)), none⟩])
  (.seq (.region 0 [
    ⟨(some 14), (.mov (.tmp 3)), none⟩,
    ⟨(some 15), (.faddr 0 (.tmp 5)), none⟩,
    ⟨(some 16), (.faddr 0 (.tmp 15)), none⟩,
    ⟨(some 17), (.load false 1 (.tmp 16)), none⟩,
    ⟨(some 18), (.lenS (.tmp 17)), none⟩,
    ⟨(some 19), (.binI .add .i64 (.const (.int .i64 10)) (.tmp 18)), none⟩,
    ⟨(some 20), (.faddr 13 (.tmp 5)), none⟩,
    ⟨(some 21), (.load false 1 (.tmp 20)), none⟩,
    ⟨(some 22), (.lenS (.tmp 21)), none⟩,
    ⟨(some 23), (.binI .add .i64 (.tmp 19) (.tmp 22)), none⟩,
    ⟨(some 24), (.faddr 14 (.tmp 5)), none⟩,
    ⟨(some 25), (.load false 1 (.tmp 24)), none⟩,
    ⟨(some 26), (.lenS (.tmp 25)), none⟩,
    ⟨(some 27), (.binI .add .i64 (.tmp 23) (.tmp 26)), none⟩,
    ⟨(some 28), (.faddr 17 (.tmp 5)), none⟩,
    ⟨(some 29), (.load false 1 (.tmp 28)), none⟩,
    ⟨(some 30), (.lenS (.tmp 29)), none⟩,
    ⟨(some 31), (.binI .add .i64 (.tmp 27) (.tmp 30)), none⟩,
    ⟨(some 32), (.faddr 4 (.tmp 5)), none⟩,
    ⟨(some 33), (.load false 1 (.tmp 32)), none⟩,
    ⟨(some 34), (.lenL (.tmp 33)), none⟩,
    ⟨(some 35), (.binI .mul .i64 (.const (.int .i64 5)) (.tmp 34)), none⟩,
    ⟨(some 36), (.binI .add .i64 (.tmp 31) (.tmp 35)), none⟩,
    ⟨(some 37), (.binI .add .i64 (.tmp 14) (.tmp 36)), none⟩,
    ⟨(some 3), (.mov (.tmp 37)), none⟩])
  (.seq (.region 0 [
    ⟨(some 38), (.faddr 4 (.tmp 5)), none⟩,
    ⟨(some 39), (.load false 1 (.tmp 38)), none⟩,
    ⟨(some 40), (.lenL (.tmp 39)), none⟩,
    ⟨(some 41), (.mov (.const (.int .i64 0))), none⟩])
  (.block 2 (.loop (.seq (.region 0 [
    ⟨(some 42), (.binI .lss .i64 (.tmp 41) (.tmp 40)), none⟩])
  (.seq (.cond (.tmp 42) .skip (.exit 2))
  (.seq (.block 3 (.seq (.region 1 [
    ⟨(some 43), (.iaddr 2 (.tmp 39) (.tmp 41)), none⟩,
    ⟨(some 44), (.load true 2 (.tmp 43)), none⟩,
    ⟨(some 7), (.zero 0 [(.v (.string ⟨#[]⟩)), (.v (.int .i64 0))]), none⟩,
    ⟨none, (.store 2 (.tmp 7) (.tmp 44)), none⟩])
  (.region 0 [
    ⟨(some 45), (.mov (.tmp 3)), none⟩,
    ⟨(some 46), (.faddr 0 (.tmp 7)), none⟩,
    ⟨(some 47), (.load false 1 (.tmp 46)), none⟩,
    ⟨(some 48), (.lenS (.tmp 47)), none⟩,
    ⟨(some 49), (.binI .add .i64 (.tmp 45) (.tmp 48)), none⟩,
    ⟨(some 3), (.mov (.tmp 49)), none⟩])))
  (.region 0 [
    ⟨(some 50), (.binI .add .i64 (.tmp 41) (.const (.int .i64 1))), none⟩,
    ⟨(some 41), (.mov (.tmp 50)), none⟩]))))))))))
  (.region 0 [
    ⟨(some 51), (.binI .add .i64 (.tmp 10) (.const (.int .i64 1))), none⟩,
    ⟨(some 10), (.mov (.tmp 51)), none⟩])))))))
def b15_3 : AC := (.seq (.region 0 [
    ⟨(some 52), (.mov (.tmp 3)), none⟩,
    ⟨(some 53), (.binI .gtr .i64 (.tmp 52) (.const (.int .i64 1500))), none⟩])
  (.cond (.tmp 53) (.seq (.region 0 [
    ⟨(some 2), (.mov (.const (.int .i64 1))), none⟩])
  .ret) .skip))
def b15_4 : AC := (.region 0 [
    ⟨(some 2), (.mov (.const (.int .i64 0))), none⟩])
def b15_5 : AC := .ret
def b15 : AC := (.seq b15_0 (.seq b15_1 (.seq b15_2 (.seq b15_3 (.seq b15_4 b15_5)))))
def ir15 : AF := ⟨54, [(.tmp 2)], b15⟩
theorem c15 : compF tt Try.f15 = some ir15 := by kernel_rfl
def b16_0 : AC := (.region 0 [
    ⟨(some 0), (.mov (.const (.bool false))), none⟩])
def b16_1 : AC := (.region 2 [
    ⟨(some 6), (.call 39 [(.const (.string ⟨#[97, 110, 110]⟩)), (.const (.int .i64 4)), (.const (.int .i64 5))]), none⟩,
    ⟨(some 7), (.call 39 [(.const (.string ⟨#[98, 111, 98]⟩)), (.const (.int .i64 1)), (.const (.int .i64 1))]), none⟩,
    ⟨(some 1), (.zero 0 [(.v (.string ⟨#[]⟩)), (.v (.int .i64 0)), (.v (.int .i64 0)), (.v (.int .i64 0)), (.v (.slice none 0 0)), (.v (.int .i64 0)), (.v (.string ⟨#[]⟩)), (.v (.int .i64 0)), (.v (.string ⟨#[]⟩)), (.v (.int .i64 0)), (.v (.bool false)), (.v (.string ⟨#[]⟩)), (.v (.string ⟨#[]⟩)), (.v (.string ⟨#[]⟩)), (.v (.string ⟨#[]⟩)), (.v (.string ⟨#[]⟩)), (.v (.int .i64 0)), (.v (.string ⟨#[]⟩))]), none⟩,
    ⟨(some 2), (.zero 1 [(.v (.string ⟨#[]⟩)), (.v (.int .i64 0)), (.v (.int .i64 0)), (.v (.int .i64 0)), (.v (.slice none 0 0)), (.v (.int .i64 0)), (.v (.string ⟨#[]⟩)), (.v (.int .i64 0)), (.v (.string ⟨#[]⟩)), (.v (.int .i64 0)), (.v (.bool false)), (.v (.string ⟨#[]⟩)), (.v (.string ⟨#[]⟩)), (.v (.string ⟨#[]⟩)), (.v (.string ⟨#[]⟩)), (.v (.string ⟨#[]⟩)), (.v (.int .i64 0)), (.v (.string ⟨#[]⟩))]), none⟩,
    ⟨none, (.store 18 (.tmp 1) (.tmp 6)), none⟩,
    ⟨none, (.store 18 (.tmp 2) (.tmp 7)), none⟩])
def b16_2 : AC := (.region 1 [
    ⟨(some 8), (.call 39 [(.const (.string ⟨#[97, 110, 110]⟩)), (.const (.int .i64 3)), (.const (.int .i64 2))]), none⟩,
    ⟨(some 3), (.zero 0 [(.v (.string ⟨#[]⟩)), (.v (.int .i64 0)), (.v (.int .i64 0)), (.v (.int .i64 0)), (.v (.slice none 0 0)), (.v (.int .i64 0)), (.v (.string ⟨#[]⟩)), (.v (.int .i64 0)), (.v (.string ⟨#[]⟩)), (.v (.int .i64 0)), (.v (.bool false)), (.v (.string ⟨#[]⟩)), (.v (.string ⟨#[]⟩)), (.v (.string ⟨#[]⟩)), (.v (.string ⟨#[]⟩)), (.v (.string ⟨#[]⟩)), (.v (.int .i64 0)), (.v (.string ⟨#[]⟩))]), none⟩,
    ⟨none, (.store 18 (.tmp 3) (.tmp 8)), none⟩])
def b16_3 : AC := (.region 1 [
    ⟨(some 9), (.load true 18 (.tmp 1)), none⟩,
    ⟨(some 10), (.load true 18 (.tmp 2)), none⟩,
    ⟨(some 11), (.load true 18 (.tmp 3)), none⟩,
    ⟨(some 12), (.load true 18 (.tmp 1)), none⟩,
    ⟨(some 13), (.bsl 0 18 [(.v (.string ⟨#[]⟩)), (.v (.int .i64 0)), (.v (.int .i64 0)), (.v (.int .i64 0)), (.v (.slice none 0 0)), (.v (.int .i64 0)), (.v (.string ⟨#[]⟩)), (.v (.int .i64 0)), (.v (.string ⟨#[]⟩)), (.v (.int .i64 0)), (.v (.bool false)), (.v (.string ⟨#[]⟩)), (.v (.string ⟨#[]⟩)), (.v (.string ⟨#[]⟩)), (.v (.string ⟨#[]⟩)), (.v (.string ⟨#[]⟩)), (.v (.int .i64 0)), (.v (.string ⟨#[]⟩))] 4 [(0, (.tmp 9)), (1, (.tmp 10)), (2, (.tmp 11)), (3, (.tmp 12))]), none⟩,
    ⟨(some 14), (.call 20 [(.tmp 13)]), none⟩,
    ⟨(some 4), (.mov (.tmp 14)), none⟩])
def b16_4 : AC := (.region 1 [
    ⟨(some 15), (.mov (.tmp 4)), none⟩,
    ⟨(some 16), (.build [(.v (.string ⟨#[]⟩)), (.v (.int .i64 0)), (.v (.int .i64 0))] [(0, (1, (.const (.string ⟨#[97, 110, 110]⟩)))), (1, (1, (.const (.int .i64 3)))), (2, (1, (.const (.int .i64 22))))]), none⟩,
    ⟨(some 17), (.bsl 0 3 [(.v (.string ⟨#[]⟩)), (.v (.int .i64 0)), (.v (.int .i64 0))] 1 [(0, (.tmp 16))]), none⟩,
    ⟨(some 18), (.call 18 [(.tmp 15), (.tmp 17)]), none⟩,
    ⟨(some 5), (.mov (.tmp 18)), none⟩])
def b16_5 : AC := (.dregion 0 [
    ⟨(some 19), (.mov (.tmp 4)), none⟩,
    ⟨(some 20), (.lenL (.tmp 19)), none⟩,
    ⟨(some 21), (.binI .eql .i64 (.tmp 20) (.const (.int .i64 3))), none⟩,
    ⟨(some 22), (.mov (.tmp 21)), none⟩,
    ⟨(some 23), (.mov (.tmp 4)), (some (22, true))⟩,
    ⟨(some 24), (.iaddr 18 (.tmp 23) (.const (.int .i64 0))), (some (22, true))⟩,
    ⟨(some 25), (.faddr 0 (.tmp 24)), (some (22, true))⟩,
    ⟨(some 26), (.load true 2 (.tmp 25)), (some (22, true))⟩,
    ⟨(some 27), (.faddr 0 (.tmp 2)), (some (22, true))⟩,
    ⟨(some 28), (.load true 2 (.tmp 27)), (some (22, true))⟩,
    ⟨(some 29), (.eqA false [.s, (.i .i64)] (.tmp 26) (.tmp 28)), (some (22, true))⟩,
    ⟨(some 30), (.pick (.tmp 22) (.tmp 29) (.const (.bool false))), none⟩,
    ⟨(some 31), (.mov (.tmp 30)), none⟩,
    ⟨(some 32), (.mov (.tmp 4)), (some (31, true))⟩,
    ⟨(some 33), (.iaddr 18 (.tmp 32) (.const (.int .i64 2))), (some (31, true))⟩,
    ⟨(some 34), (.faddr 0 (.tmp 33)), (some (31, true))⟩,
    ⟨(some 35), (.load true 2 (.tmp 34)), (some (31, true))⟩,
    ⟨(some 36), (.faddr 0 (.tmp 1)), (some (31, true))⟩,
    ⟨(some 37), (.load true 2 (.tmp 36)), (some (31, true))⟩,
    ⟨(some 38), (.eqA false [.s, (.i .i64)] (.tmp 35) (.tmp 37)), (some (31, true))⟩,
    ⟨(some 39), (.pick (.tmp 31) (.tmp 38) (.const (.bool false))), none⟩,
    ⟨(some 40), (.mov (.tmp 39)), none⟩,
    ⟨(some 41), (.mov (.tmp 5)), (some (40, true))⟩,
    ⟨(some 42), (.lenL (.tmp 41)), (some (40, true))⟩,
    ⟨(some 43), (.binI .eql .i64 (.tmp 42) (.const (.int .i64 2))), (some (40, true))⟩,
    ⟨(some 44), (.pick (.tmp 40) (.tmp 43) (.const (.bool false))), none⟩,
    ⟨(some 45), (.mov (.tmp 44)), none⟩,
    ⟨(some 46), (.mov (.tmp 5)), (some (45, true))⟩,
    ⟨(some 47), (.iaddr 18 (.tmp 46) (.const (.int .i64 1))), (some (45, true))⟩,
    ⟨(some 48), (.faddr 0 (.tmp 47)), (some (45, true))⟩,
    ⟨(some 49), (.load true 2 (.tmp 48)), (some (45, true))⟩,
    ⟨(some 50), (.faddr 0 (.tmp 3)), (some (45, true))⟩,
    ⟨(some 51), (.load true 2 (.tmp 50)), (some (45, true))⟩,
    ⟨(some 52), (.eqA false [.s, (.i .i64)] (.tmp 49) (.tmp 51)), (some (45, true))⟩,
    ⟨(some 53), (.pick (.tmp 45) (.tmp 52) (.const (.bool false))), none⟩,
    ⟨(some 0), (.mov (.tmp 53)), none⟩] [[], [0], [1], [2], [3], [4, 3], [5, 3], [6, 3], [3], [8, 3], [7, 9, 3], [3, 10], [11, 3], [12], [13, 12], [14, 12], [15, 12], [12], [17, 12], [16, 18, 12], [12, 19], [20, 12], [21], [22, 21], [23, 21], [21, 24], [25, 21], [26], [27, 26], [28, 26], [29, 26], [26], [31, 26], [30, 32, 26], [26, 33], [34, 26, 0, 1, 2, 3, 4, 5, 6, 7, 8, 9, 10, 11, 12, 13, 14, 15, 16, 17, 18, 19, 20, 21, 22, 23, 24, 25, 26, 27, 28, 29, 30, 31, 32, 33, 34]])
def b16_6 : AC := .ret
def b16 : AC := (.seq b16_0 (.seq b16_1 (.seq b16_2 (.seq b16_3 (.seq b16_4 (.seq b16_5 b16_6))))))
def ir16 : AF := ⟨54, [(.tmp 0)], b16⟩
theorem c16 : compF tt Try.f16 = some ir16 := by kernel_rfl
def b17 : AC := (.seq (.region 0 [
    ⟨(some 4), (.mov (.const (.bool false))), none⟩])
  (.seq (.seq (.region 0 [
    ⟨(some 6), (.mov (.tmp 0)), none⟩,
    ⟨(some 7), (.lenL (.tmp 6)), none⟩,
    ⟨(some 8), (.mov (.tmp 1)), none⟩,
    ⟨(some 9), (.lenL (.tmp 8)), none⟩,
    ⟨(some 10), (.binI .neq .i64 (.tmp 7) (.tmp 9)), none⟩])
  (.cond (.tmp 10) (.seq (.region 0 [
    ⟨(some 4), (.mov (.const (.bool false))), none⟩])
  .ret) .skip))
  (.seq (.seq (.region 0 [
    ⟨(some 5), (.mov (.const (.int .i64 0))), none⟩])
  (.block 0 (.loop (.seq (.seq (.region 0 [
    ⟨(some 11), (.mov (.tmp 5)), none⟩,
    ⟨(some 12), (.mov (.tmp 0)), none⟩,
    ⟨(some 13), (.lenL (.tmp 12)), none⟩,
    ⟨(some 14), (.binI .lss .i64 (.tmp 11) (.tmp 13)), none⟩])
  (.cond (.tmp 14) .skip (.exit 0)))
  (.seq (.block 1 (.seq (.dregion 0 [
    ⟨(some 17), (.mov (.tmp 0)), none⟩,
    ⟨(some 18), (.mov (.tmp 5)), none⟩,
    ⟨(some 19), (.iaddr 18 (.tmp 17) (.tmp 18)), none⟩,
    ⟨(some 20), (.load true 18 (.tmp 19)), none⟩,
    ⟨(some 21), (.mov (.tmp 1)), none⟩,
    ⟨(some 22), (.mov (.tmp 5)), none⟩,
    ⟨(some 23), (.iaddr 18 (.tmp 21) (.tmp 22)), none⟩,
    ⟨(some 24), (.load true 18 (.tmp 23)), none⟩,
    ⟨(some 25), (.call 37 [(.tmp 20), (.tmp 24)]), none⟩,
    ⟨(some 26), (.not (.tmp 25)), none⟩] [[], [], [0, 1], [2], [], [], [4, 5], [6], [3, 7], [8]])
  (.cond (.tmp 26) (.seq (.region 0 [
    ⟨(some 4), (.mov (.const (.bool false))), none⟩])
  .ret) .skip)))
  (.region 0 [
    ⟨(some 15), (.mov (.tmp 5)), none⟩,
    ⟨(some 16), (.binI .add .i64 (.tmp 15) (.const (.int .i64 1))), none⟩,
    ⟨(some 5), (.mov (.tmp 16)), none⟩]))))))
  (.seq (.region 0 [
    ⟨(some 4), (.mov (.const (.bool true))), none⟩])
  .ret))))
def ir17 : AF := ⟨27, [(.tmp 4)], b17⟩
theorem c17 : compF tt Try.f17 = some ir17 := by kernel_rfl
def b18 : AC := (.seq (.region 0 [
    ⟨(some 4), (.mov (.const (.slice none 0 0))), none⟩])
  (.seq (.region 2 [
    ⟨(some 10), (.mkmap 0 ⟨false, [.s]⟩), none⟩,
    ⟨(some 5), (.zero 1 [(.v (.map none))]), none⟩,
    ⟨none, (.store 1 (.tmp 5) (.tmp 10)), none⟩])
  (.seq (.seq (.region 0 [
    ⟨(some 11), (.mov (.tmp 1)), none⟩,
    ⟨(some 12), (.lenL (.tmp 11)), none⟩,
    ⟨(some 13), (.mov (.const (.int .i64 0))), none⟩])
  (.block 0 (.loop (.seq (.region 0 [
    ⟨(some 14), (.binI .lss .i64 (.tmp 13) (.tmp 12)), none⟩])
  (.seq (.cond (.tmp 14) .skip (.exit 0))
  (.seq (.block 1 (.seq (.region 1 [
    ⟨(some 15), (.iaddr 3 (.tmp 11) (.tmp 13)), none⟩,
    ⟨(some 16), (.load true 3 (.tmp 15)), none⟩,
    ⟨(some 7), (.zero 0 [(.v (.string ⟨#[]⟩)), (.v (.int .i64 0)), (.v (.int .i64 0))]), none⟩,
    ⟨none, (.store 3 (.tmp 7) (.tmp 16)), none⟩])
  (.seq (.seq (.region 0 [
    ⟨(some 17), (.faddr 2 (.tmp 7)), none⟩,
    ⟨(some 18), (.load false 1 (.tmp 17)), none⟩,
    ⟨(some 19), (.binI .neq .i64 (.tmp 18) (.const (.int .i64 22))), none⟩])
  (.cond (.tmp 19) (.exit 1) .skip))
  (.seq (.region 0 [
    ⟨(some 21), (.load false 1 (.tmp 5)), none⟩,
    ⟨(some 22), (.faddr 0 (.tmp 7)), none⟩,
    ⟨(some 23), (.load false 1 (.tmp 22)), none⟩,
    ⟨(some 24), (.look ⟨false, [.s]⟩ (.c (.v (.int .i64 0))) (.tmp 21) (.tmp 23) true), none⟩,
    ⟨(some 20), (.mov (.tmp 24)), none⟩,
    ⟨(some 25), (.ext (.tmp 20) 0), none⟩,
    ⟨(some 26), (.ext (.tmp 20) 1), none⟩,
    ⟨(some 8), (.mov (.tmp 25)), none⟩,
    ⟨(some 9), (.mov (.tmp 26)), none⟩])
  (.seq (.region 0 [
    ⟨(some 27), (.mov (.tmp 9)), none⟩,
    ⟨(some 28), (.not (.tmp 27)), none⟩,
    ⟨(some 29), (.mov (.tmp 28)), none⟩,
    ⟨(some 30), (.faddr 1 (.tmp 7)), (some (29, false))⟩,
    ⟨(some 31), (.load false 1 (.tmp 30)), (some (29, false))⟩,
    ⟨(some 32), (.mov (.tmp 8)), (some (29, false))⟩,
    ⟨(some 33), (.binI .lss .i64 (.tmp 31) (.tmp 32)), (some (29, false))⟩,
    ⟨(some 34), (.pick (.tmp 29) (.const (.bool true)) (.tmp 33)), none⟩])
  (.cond (.tmp 34) (.region 0 [
    ⟨(some 35), (.load false 1 (.tmp 5)), none⟩,
    ⟨(some 36), (.faddr 0 (.tmp 7)), none⟩,
    ⟨(some 37), (.load false 1 (.tmp 36)), none⟩,
    ⟨(some 38), (.faddr 1 (.tmp 7)), none⟩,
    ⟨(some 39), (.load false 1 (.tmp 38)), none⟩,
    ⟨none, (.mapup ⟨false, [.s]⟩ (.tmp 35) (.tmp 37) (.tmp 39)), none⟩]) .skip))))))
  (.region 0 [
    ⟨(some 40), (.binI .add .i64 (.tmp 13) (.const (.int .i64 1))), none⟩,
    ⟨(some 13), (.mov (.tmp 40)), none⟩])))))))
  (.seq (.region 0 [
    ⟨(some 41), (.mov (.tmp 0)), none⟩,
    ⟨(some 42), (.call 20 [(.tmp 41)]), none⟩,
    ⟨(some 43), (.mkfn 41 [(.tmp 5)]), none⟩,
    ⟨(some 44), (.call 40 [(.tmp 42), (.tmp 43)]), none⟩,
    ⟨(some 4), (.mov (.tmp 44)), none⟩])
  .ret))))
def ir18 : AF := ⟨45, [(.tmp 4)], b18⟩
theorem c18 : compF tt Try.f18 = some ir18 := by kernel_rfl
def b19 : AC := (.seq (.region 0 [
    ⟨(some 4), (.mov (.const (.slice none 0 0))), none⟩])
  (.seq (.region 1 [
    ⟨(some 8), (.bsl 0 18 [(.v (.string ⟨#[]⟩)), (.v (.int .i64 0)), (.v (.int .i64 0)), (.v (.int .i64 0)), (.v (.slice none 0 0)), (.v (.int .i64 0)), (.v (.string ⟨#[]⟩)), (.v (.int .i64 0)), (.v (.string ⟨#[]⟩)), (.v (.int .i64 0)), (.v (.bool false)), (.v (.string ⟨#[]⟩)), (.v (.string ⟨#[]⟩)), (.v (.string ⟨#[]⟩)), (.v (.string ⟨#[]⟩)), (.v (.string ⟨#[]⟩)), (.v (.int .i64 0)), (.v (.string ⟨#[]⟩))] 0 []), none⟩,
    ⟨(some 5), (.mov (.tmp 8)), none⟩])
  (.seq (.region 0 [
    ⟨(some 9), (.mov (.tmp 0)), none⟩,
    ⟨(some 10), (.call 38 [(.tmp 9)]), none⟩,
    ⟨(some 6), (.mov (.tmp 10)), none⟩])
  (.seq (.seq (.region 0 [
    ⟨(some 7), (.mov (.const (.int .i64 0))), none⟩])
  (.block 0 (.loop (.seq (.seq (.region 0 [
    ⟨(some 11), (.mov (.tmp 7)), none⟩,
    ⟨(some 12), (.mov (.tmp 6)), none⟩,
    ⟨(some 13), (.lenL (.tmp 12)), none⟩,
    ⟨(some 14), (.binI .lss .i64 (.tmp 11) (.tmp 13)), none⟩])
  (.cond (.tmp 14) .skip (.exit 0)))
  (.seq (.block 1 (.seq (.region 0 [
    ⟨(some 17), (.mov (.tmp 6)), none⟩,
    ⟨(some 18), (.mov (.tmp 7)), none⟩,
    ⟨(some 19), (.iaddr 18 (.tmp 17) (.tmp 18)), none⟩,
    ⟨(some 20), (.load true 18 (.tmp 19)), none⟩,
    ⟨(some 21), (.mov (.tmp 1)), none⟩,
    ⟨(some 22), (.call 42 [(.tmp 20), (.tmp 21)]), none⟩])
  (.cond (.tmp 22) (.region 2 [
    ⟨(some 23), (.mov (.tmp 5)), none⟩,
    ⟨(some 24), (.mov (.tmp 6)), none⟩,
    ⟨(some 25), (.mov (.tmp 7)), none⟩,
    ⟨(some 26), (.iaddr 18 (.tmp 24) (.tmp 25)), none⟩,
    ⟨(some 27), (.load true 18 (.tmp 26)), none⟩,
    ⟨(some 28), (.bsl 0 18 [(.v (.string ⟨#[]⟩)), (.v (.int .i64 0)), (.v (.int .i64 0)), (.v (.int .i64 0)), (.v (.slice none 0 0)), (.v (.int .i64 0)), (.v (.string ⟨#[]⟩)), (.v (.int .i64 0)), (.v (.string ⟨#[]⟩)), (.v (.int .i64 0)), (.v (.bool false)), (.v (.string ⟨#[]⟩)), (.v (.string ⟨#[]⟩)), (.v (.string ⟨#[]⟩)), (.v (.string ⟨#[]⟩)), (.v (.string ⟨#[]⟩)), (.v (.int .i64 0)), (.v (.string ⟨#[]⟩))] 1 [(0, (.tmp 27))]), none⟩,
    ⟨(some 29), (.app 1 18 232 (.tmp 23) (.tmp 28)), none⟩,
    ⟨(some 5), (.mov (.tmp 29)), none⟩]) .skip)))
  (.region 0 [
    ⟨(some 15), (.mov (.tmp 7)), none⟩,
    ⟨(some 16), (.binI .add .i64 (.tmp 15) (.const (.int .i64 1))), none⟩,
    ⟨(some 7), (.mov (.tmp 16)), none⟩]))))))
  (.seq (.region 0 [
    ⟨(some 30), (.mov (.tmp 5)), none⟩,
    ⟨(some 4), (.mov (.tmp 30)), none⟩])
  .ret)))))
def ir19 : AF := ⟨31, [(.tmp 4)], b19⟩
theorem c19 : compF tt Try.f19 = some ir19 := by kernel_rfl
def b20 : AC := (.seq (.region 0 [
    ⟨(some 2), (.mov (.const (.slice none 0 0))), none⟩])
  (.seq (.region 0 [
    ⟨(some 4), (.mov (.tmp 0)), none⟩,
    ⟨(some 5), (.call 43 [(.tmp 4)]), none⟩,
    ⟨(some 3), (.mov (.tmp 5)), none⟩])
  (.seq (.region 0 [
    ⟨(some 6), (.mov (.tmp 3)), none⟩,
    ⟨(some 7), (.call 44 [(.tmp 6), (.func 21)]), none⟩])
  (.seq (.region 0 [
    ⟨(some 8), (.mov (.tmp 3)), none⟩,
    ⟨(some 9), (.call 45 [(.tmp 8), (.func 46)]), none⟩,
    ⟨(some 2), (.mov (.tmp 9)), none⟩])
  .ret))))
def ir20 : AF := ⟨10, [(.tmp 2)], b20⟩
theorem c20 : compF tt Try.f20 = some ir20 := by kernel_rfl
def b21 : AC := (.seq (.region 2 [
    ⟨(some 2), (.box 0 (.tmp 0)), none⟩,
    ⟨(some 3), (.box 1 (.tmp 1)), none⟩,
    ⟨(some 4), (.mov (.const (.int .i64 0))), none⟩])
  (.seq (.dregion 1 [
    ⟨(some 5), (.faddr 2 (.tmp 2)), none⟩,
    ⟨(some 6), (.load false 1 (.tmp 5)), none⟩,
    ⟨(some 7), (.faddr 2 (.tmp 3)), none⟩,
    ⟨(some 8), (.load false 1 (.tmp 7)), none⟩,
    ⟨(some 9), (.call 48 [(.tmp 6), (.tmp 8)]), none⟩,
    ⟨(some 10), (.faddr 0 (.tmp 2)), none⟩,
    ⟨(some 11), (.faddr 0 (.tmp 10)), none⟩,
    ⟨(some 12), (.load false 1 (.tmp 11)), none⟩,
    ⟨(some 13), (.faddr 0 (.tmp 3)), none⟩,
    ⟨(some 14), (.faddr 0 (.tmp 13)), none⟩,
    ⟨(some 15), (.load false 1 (.tmp 14)), none⟩,
    ⟨(some 16), (.call 49 [(.tmp 12), (.tmp 15)]), none⟩,
    ⟨(some 17), (.faddr 0 (.tmp 2)), none⟩,
    ⟨(some 18), (.faddr 1 (.tmp 17)), none⟩,
    ⟨(some 19), (.load false 1 (.tmp 18)), none⟩,
    ⟨(some 20), (.faddr 0 (.tmp 3)), none⟩,
    ⟨(some 21), (.faddr 1 (.tmp 20)), none⟩,
    ⟨(some 22), (.load false 1 (.tmp 21)), none⟩,
    ⟨(some 23), (.call 48 [(.tmp 19), (.tmp 22)]), none⟩,
    ⟨(some 24), (.bsl 0 1 [(.v (.int .i64 0))] 3 [(0, (.tmp 9)), (1, (.tmp 16)), (2, (.tmp 23))]), none⟩,
    ⟨(some 25), (.call 47 [(.tmp 24)]), none⟩,
    ⟨(some 4), (.mov (.tmp 25)), none⟩] [[], [0], [], [2], [1, 3], [], [5], [6], [], [8], [9], [7, 10, 4], [], [12], [13], [], [15], [16], [14, 17, 11], [4, 11, 18], [19, 18], [20, 20, 0, 1, 2, 3, 4, 5, 6, 7, 8, 9, 10, 11, 12, 13, 14, 15, 16, 17, 18, 19, 20]])
  .ret))
def ir21 : AF := ⟨26, [(.tmp 4)], b21⟩
theorem c21 : compF tt Try.f21 = some ir21 := by kernel_rfl
def b37 : AC := (.seq (.region 2 [
    ⟨(some 2), (.box 0 (.tmp 0)), none⟩,
    ⟨(some 3), (.box 1 (.tmp 1)), none⟩,
    ⟨(some 4), (.mov (.const (.bool false))), none⟩])
  (.seq (.region 0 [
    ⟨(some 5), (.load true 18 (.tmp 2)), none⟩,
    ⟨(some 6), (.load true 18 (.tmp 3)), none⟩,
    ⟨(some 7), (.call 62 [(.tmp 5), (.tmp 6)]), none⟩,
    ⟨(some 4), (.mov (.tmp 7)), none⟩])
  .ret))
def ir37 : AF := ⟨8, [(.tmp 4)], b37⟩
theorem c37 : compF tt Try.f37 = some ir37 := by kernel_rfl
def b38 : AC := (.seq (.region 0 [
    ⟨(some 2), (.mov (.const (.slice none 0 0))), none⟩])
  (.seq (.region 1 [
    ⟨(some 5), (.bsl 0 18 [(.v (.string ⟨#[]⟩)), (.v (.int .i64 0)), (.v (.int .i64 0)), (.v (.int .i64 0)), (.v (.slice none 0 0)), (.v (.int .i64 0)), (.v (.string ⟨#[]⟩)), (.v (.int .i64 0)), (.v (.string ⟨#[]⟩)), (.v (.int .i64 0)), (.v (.bool false)), (.v (.string ⟨#[]⟩)), (.v (.string ⟨#[]⟩)), (.v (.string ⟨#[]⟩)), (.v (.string ⟨#[]⟩)), (.v (.string ⟨#[]⟩)), (.v (.int .i64 0)), (.v (.string ⟨#[]⟩))] 0 []), none⟩,
    ⟨(some 3), (.mov (.tmp 5)), none⟩])
  (.seq (.seq (.region 0 [
    ⟨(some 4), (.mov (.const (.int .i64 0))), none⟩])
  (.block 0 (.loop (.seq (.seq (.region 0 [
    ⟨(some 6), (.mov (.tmp 4)), none⟩,
    ⟨(some 7), (.mov (.tmp 0)), none⟩,
    ⟨(some 8), (.lenL (.tmp 7)), none⟩,
    ⟨(some 9), (.binI .lss .i64 (.tmp 6) (.tmp 8)), none⟩])
  (.cond (.tmp 9) .skip (.exit 0)))
  (.seq (.block 1 (.region 0 [
    ⟨(some 12), (.mov (.tmp 3)), none⟩,
    ⟨(some 13), (.mov (.tmp 0)), none⟩,
    ⟨(some 14), (.mov (.tmp 4)), none⟩,
    ⟨(some 15), (.iaddr 18 (.tmp 13) (.tmp 14)), none⟩,
    ⟨(some 16), (.load true 18 (.tmp 15)), none⟩,
    ⟨(some 17), (.call 63 [(.tmp 12), (.tmp 16)]), none⟩,
    ⟨(some 3), (.mov (.tmp 17)), none⟩]))
  (.region 0 [
    ⟨(some 10), (.mov (.tmp 4)), none⟩,
    ⟨(some 11), (.binI .add .i64 (.tmp 10) (.const (.int .i64 1))), none⟩,
    ⟨(some 4), (.mov (.tmp 11)), none⟩]))))))
  (.seq (.region 0 [
    ⟨(some 18), (.mov (.tmp 3)), none⟩,
    ⟨(some 2), (.mov (.tmp 18)), none⟩])
  .ret))))
def ir38 : AF := ⟨19, [(.tmp 2)], b38⟩
theorem c38 : compF tt Try.f38 = some ir38 := by kernel_rfl
def b39 : AC := (.seq (.region 1 [
    ⟨(some 6), (.zero 0 [(.v (.string ⟨#[]⟩)), (.v (.int .i64 0)), (.v (.int .i64 0)), (.v (.int .i64 0)), (.v (.slice none 0 0)), (.v (.int .i64 0)), (.v (.string ⟨#[]⟩)), (.v (.int .i64 0)), (.v (.string ⟨#[]⟩)), (.v (.int .i64 0)), (.v (.bool false)), (.v (.string ⟨#[]⟩)), (.v (.string ⟨#[]⟩)), (.v (.string ⟨#[]⟩)), (.v (.string ⟨#[]⟩)), (.v (.string ⟨#[]⟩)), (.v (.int .i64 0)), (.v (.string ⟨#[]⟩))]), none⟩])
  (.seq (.region 0 [
    ⟨(some 7), (.mov (.tmp 0)), none⟩,
    ⟨(some 8), (.mov (.tmp 1)), none⟩,
    ⟨(some 9), (.build [(.v (.string ⟨#[]⟩)), (.v (.int .i64 0))] [(0, (1, (.tmp 7))), (1, (1, (.tmp 8)))]), none⟩,
    ⟨(some 10), (.mov (.tmp 2)), none⟩,
    ⟨(some 11), (.build [(.v (.string ⟨#[]⟩)), (.v (.int .i64 0)), (.v (.int .i64 0)), (.v (.int .i64 0)), (.v (.slice none 0 0)), (.v (.int .i64 0)), (.v (.string ⟨#[]⟩)), (.v (.int .i64 0)), (.v (.string ⟨#[]⟩)), (.v (.int .i64 0)), (.v (.bool false)), (.v (.string ⟨#[]⟩)), (.v (.string ⟨#[]⟩)), (.v (.string ⟨#[]⟩)), (.v (.string ⟨#[]⟩)), (.v (.string ⟨#[]⟩)), (.v (.int .i64 0)), (.v (.string ⟨#[]⟩))] [(0, (2, (.tmp 9))), (2, (1, (.tmp 10))), (5, (1, (.const (.int .i64 6))))]), none⟩,
    ⟨none, (.store 18 (.tmp 6) (.tmp 11)), none⟩])
  .ret))
def ir39 : AF := ⟨12, [(.cell 6 true 18)], b39⟩
theorem c39 : compF tt Try.f39 = some ir39 := by kernel_rfl
def b40 : AC := (.seq (.region 0 [
    ⟨(some 4), (.mov (.const (.slice none 0 0))), none⟩])
  (.seq (.region 0 [
    ⟨(some 8), (.mov (.tmp 0)), none⟩,
    ⟨(some 9), (.mov (.tmp 1)), none⟩,
    ⟨(some 10), (.call 60 [(.tmp 8), (.tmp 9)]), none⟩,
    ⟨(some 5), (.mov (.tmp 10)), none⟩])
  (.seq (.seq (.region 0 [
    ⟨(some 11), (.mov (.tmp 5)), none⟩,
    ⟨(some 12), (.binI .eql .i64 (.tmp 11) (.const (.int .i64 (-1)))), none⟩])
  (.cond (.tmp 12) (.seq (.region 0 [
    ⟨(some 13), (.mov (.tmp 0)), none⟩,
    ⟨(some 4), (.mov (.tmp 13)), none⟩])
  .ret) .skip))
  (.seq (.seq (.region 0 [
    ⟨(some 14), (.mov (.tmp 5)), none⟩,
    ⟨(some 15), (.binI .add .i64 (.tmp 14) (.const (.int .i64 1))), none⟩,
    ⟨(some 6), (.mov (.tmp 15)), none⟩])
  (.block 0 (.loop (.seq (.seq (.region 0 [
    ⟨(some 16), (.mov (.tmp 6)), none⟩,
    ⟨(some 17), (.mov (.tmp 0)), none⟩,
    ⟨(some 18), (.lenL (.tmp 17)), none⟩,
    ⟨(some 19), (.binI .lss .i64 (.tmp 16) (.tmp 18)), none⟩])
  (.cond (.tmp 19) .skip (.exit 0)))
  (.seq (.block 1 (.seq (.region 1 [
    ⟨(some 22), (.mov (.tmp 0)), none⟩,
    ⟨(some 23), (.mov (.tmp 6)), none⟩,
    ⟨(some 24), (.iaddr 18 (.tmp 22) (.tmp 23)), none⟩,
    ⟨(some 25), (.load true 18 (.tmp 24)), none⟩,
    ⟨(some 7), (.zero 0 [(.v (.string ⟨#[]⟩)), (.v (.int .i64 0)), (.v (.int .i64 0)), (.v (.int .i64 0)), (.v (.slice none 0 0)), (.v (.int .i64 0)), (.v (.string ⟨#[]⟩)), (.v (.int .i64 0)), (.v (.string ⟨#[]⟩)), (.v (.int .i64 0)), (.v (.bool false)), (.v (.string ⟨#[]⟩)), (.v (.string ⟨#[]⟩)), (.v (.string ⟨#[]⟩)), (.v (.string ⟨#[]⟩)), (.v (.string ⟨#[]⟩)), (.v (.int .i64 0)), (.v (.string ⟨#[]⟩))]), none⟩,
    ⟨none, (.store 18 (.tmp 7) (.tmp 25)), none⟩])
  (.seq (.region 0 [
    ⟨(some 26), (.mov (.tmp 1)), none⟩,
    ⟨(some 27), (.load true 18 (.tmp 7)), none⟩,
    ⟨(some 28), (.callv (.tmp 26) [(.tmp 27)]), none⟩,
    ⟨(some 29), (.not (.tmp 28)), none⟩])
  (.cond (.tmp 29) (.seq (.region 0 [
    ⟨(some 30), (.mov (.tmp 0)), none⟩,
    ⟨(some 31), (.mov (.tmp 5)), none⟩,
    ⟨(some 32), (.load true 18 (.tmp 7)), none⟩,
    ⟨(some 33), (.iaddr 18 (.tmp 30) (.tmp 31)), none⟩,
    ⟨none, (.store 18 (.tmp 33) (.tmp 32)), none⟩])
  (.region 0 [
    ⟨(some 34), (.mov (.tmp 5)), none⟩,
    ⟨(some 35), (.binI .add .i64 (.tmp 34) (.const (.int .i64 1))), none⟩,
    ⟨(some 5), (.mov (.tmp 35)), none⟩])) .skip))))
  (.region 0 [
    ⟨(some 20), (.mov (.tmp 6)), none⟩,
    ⟨(some 21), (.binI .add .i64 (.tmp 20) (.const (.int .i64 1))), none⟩,
    ⟨(some 6), (.mov (.tmp 21)), none⟩]))))))
  (.seq (.region 0 [
    ⟨(some 36), (.mov (.tmp 0)), none⟩,
    ⟨(some 37), (.mov (.tmp 5)), none⟩,
    ⟨(some 38), (.slice 18 (.tmp 36) (some (.tmp 37)) none), none⟩,
    ⟨none, (.clr 18 [(.v (.string ⟨#[]⟩)), (.v (.int .i64 0)), (.v (.int .i64 0)), (.v (.int .i64 0)), (.v (.slice none 0 0)), (.v (.int .i64 0)), (.v (.string ⟨#[]⟩)), (.v (.int .i64 0)), (.v (.string ⟨#[]⟩)), (.v (.int .i64 0)), (.v (.bool false)), (.v (.string ⟨#[]⟩)), (.v (.string ⟨#[]⟩)), (.v (.string ⟨#[]⟩)), (.v (.string ⟨#[]⟩)), (.v (.string ⟨#[]⟩)), (.v (.int .i64 0)), (.v (.string ⟨#[]⟩))] (.tmp 38)), none⟩])
  (.seq (.region 0 [
    ⟨(some 39), (.mov (.tmp 0)), none⟩,
    ⟨(some 40), (.mov (.tmp 5)), none⟩,
    ⟨(some 41), (.slice 18 (.tmp 39) none (some (.tmp 40))), none⟩,
    ⟨(some 4), (.mov (.tmp 41)), none⟩])
  .ret))))))
def ir40 : AF := ⟨42, [(.tmp 4)], b40⟩
theorem c40 : compF tt Try.f40 = some ir40 := by kernel_rfl
def b41 : AC := (.seq (.region 1 [
    ⟨(some 2), (.box 0 (.tmp 0)), none⟩,
    ⟨(some 3), (.mov (.const (.bool false))), none⟩])
  (.seq (.region 0 [
    ⟨(some 7), (.load false 1 (.tmp 1)), none⟩,
    ⟨(some 8), (.faddr 0 (.tmp 2)), none⟩,
    ⟨(some 9), (.faddr 0 (.tmp 8)), none⟩,
    ⟨(some 10), (.load false 1 (.tmp 9)), none⟩,
    ⟨(some 11), (.look ⟨false, [.s]⟩ (.c (.v (.int .i64 0))) (.tmp 7) (.tmp 10) true), none⟩,
    ⟨(some 6), (.mov (.tmp 11)), none⟩,
    ⟨(some 12), (.ext (.tmp 6) 0), none⟩,
    ⟨(some 13), (.ext (.tmp 6) 1), none⟩,
    ⟨(some 4), (.mov (.tmp 12)), none⟩,
    ⟨(some 5), (.mov (.tmp 13)), none⟩])
  (.seq (.region 0 [
    ⟨(some 14), (.mov (.tmp 5)), none⟩,
    ⟨(some 15), (.mov (.tmp 14)), none⟩,
    ⟨(some 16), (.faddr 0 (.tmp 2)), (some (15, true))⟩,
    ⟨(some 17), (.faddr 1 (.tmp 16)), (some (15, true))⟩,
    ⟨(some 18), (.load false 1 (.tmp 17)), (some (15, true))⟩,
    ⟨(some 19), (.mov (.tmp 4)), (some (15, true))⟩,
    ⟨(some 20), (.binI .gtr .i64 (.tmp 18) (.tmp 19)), (some (15, true))⟩,
    ⟨(some 21), (.pick (.tmp 15) (.tmp 20) (.const (.bool false))), none⟩,
    ⟨(some 3), (.mov (.tmp 21)), none⟩])
  .ret)))
def ir41 : AF := ⟨22, [(.tmp 3)], b41⟩
theorem c41 : compF tt Try.f41 = some ir41 := by kernel_rfl
def b42 : AC := (.seq (.region 1 [
    ⟨(some 2), (.box 0 (.tmp 0)), none⟩,
    ⟨(some 4), (.mov (.const (.bool false))), none⟩])
  (.seq (.seq (.region 0 [
    ⟨(some 5), (.mov (.const (.int .i64 0))), none⟩])
  (.block 0 (.loop (.seq (.seq (.region 0 [
    ⟨(some 6), (.mov (.tmp 5)), none⟩,
    ⟨(some 7), (.mov (.tmp 1)), none⟩,
    ⟨(some 8), (.lenL (.tmp 7)), none⟩,
    ⟨(some 9), (.binI .lss .i64 (.tmp 6) (.tmp 8)), none⟩])
  (.cond (.tmp 9) .skip (.exit 0)))
  (.seq (.block 1 (.seq (.dregion 0 [
    ⟨(some 12), (.mov (.tmp 1)), none⟩,
    ⟨(some 13), (.mov (.tmp 5)), none⟩,
    ⟨(some 14), (.iaddr 3 (.tmp 12) (.tmp 13)), none⟩,
    ⟨(some 15), (.faddr 2 (.tmp 14)), none⟩,
    ⟨(some 16), (.load false 1 (.tmp 15)), none⟩,
    ⟨(some 17), (.binI .eql .i64 (.tmp 16) (.const (.int .i64 22))), none⟩,
    ⟨(some 18), (.mov (.tmp 17)), none⟩,
    ⟨(some 19), (.mov (.tmp 1)), (some (18, true))⟩,
    ⟨(some 20), (.mov (.tmp 5)), (some (18, true))⟩,
    ⟨(some 21), (.iaddr 3 (.tmp 19) (.tmp 20)), (some (18, true))⟩,
    ⟨(some 22), (.faddr 0 (.tmp 21)), (some (18, true))⟩,
    ⟨(some 23), (.load false 1 (.tmp 22)), (some (18, true))⟩,
    ⟨(some 24), (.faddr 0 (.tmp 2)), (some (18, true))⟩,
    ⟨(some 25), (.faddr 0 (.tmp 24)), (some (18, true))⟩,
    ⟨(some 26), (.load false 1 (.tmp 25)), (some (18, true))⟩,
    ⟨(some 27), (.binS .eql (.tmp 23) (.tmp 26)), (some (18, true))⟩,
    ⟨(some 28), (.pick (.tmp 18) (.tmp 27) (.const (.bool false))), none⟩,
    ⟨(some 29), (.mov (.tmp 28)), none⟩,
    ⟨(some 30), (.mov (.tmp 1)), (some (29, true))⟩,
    ⟨(some 31), (.mov (.tmp 5)), (some (29, true))⟩,
    ⟨(some 32), (.iaddr 3 (.tmp 30) (.tmp 31)), (some (29, true))⟩,
    ⟨(some 33), (.faddr 1 (.tmp 32)), (some (29, true))⟩,
    ⟨(some 34), (.load false 1 (.tmp 33)), (some (29, true))⟩,
    ⟨(some 35), (.faddr 0 (.tmp 2)), (some (29, true))⟩,
    ⟨(some 36), (.faddr 1 (.tmp 35)), (some (29, true))⟩,
    ⟨(some 37), (.load false 1 (.tmp 36)), (some (29, true))⟩,
    ⟨(some 38), (.binI .lss .i64 (.tmp 34) (.tmp 37)), (some (29, true))⟩,
    ⟨(some 39), (.pick (.tmp 29) (.tmp 38) (.const (.bool false))), none⟩] [[], [], [0, 1], [2], [3], [4], [5], [6], [6], [7, 8, 6], [9, 6], [10, 6], [6], [12, 6], [13, 6], [11, 14, 6], [6, 15], [16, 6], [17], [17], [18, 19, 17], [20, 17], [21, 17], [17], [23, 17], [24, 17], [22, 25, 17], [17, 26]])
  (.cond (.tmp 39) (.seq (.region 0 [
    ⟨(some 4), (.mov (.const (.bool false))), none⟩])
  .ret) .skip)))
  (.region 0 [
    ⟨(some 10), (.mov (.tmp 5)), none⟩,
    ⟨(some 11), (.binI .add .i64 (.tmp 10) (.const (.int .i64 1))), none⟩,
    ⟨(some 5), (.mov (.tmp 11)), none⟩]))))))
  (.seq (.region 0 [
    ⟨(some 4), (.mov (.const (.bool true))), none⟩])
  .ret)))
def ir42 : AF := ⟨40, [(.tmp 4)], b42⟩
theorem c42 : compF tt Try.f42 = some ir42 := by kernel_rfl
def b43 : AC := (.seq (.region 0 [
    ⟨(some 2), (.mov (.const (.slice none 0 0))), none⟩])
  (.seq (.seq (.region 0 [
    ⟨(some 3), (.mov (.tmp 0)), none⟩,
    ⟨(some 4), (.eqN false .sl (.tmp 3)), none⟩])
  (.cond (.tmp 4) (.seq (.region 0 [
    ⟨(some 2), (.mov (.const (.slice none 0 0))), none⟩])
  .ret) .skip))
  (.seq (.region 2 [
    ⟨(some 5), (.bsl 0 18 [(.v (.string ⟨#[]⟩)), (.v (.int .i64 0)), (.v (.int .i64 0)), (.v (.int .i64 0)), (.v (.slice none 0 0)), (.v (.int .i64 0)), (.v (.string ⟨#[]⟩)), (.v (.int .i64 0)), (.v (.string ⟨#[]⟩)), (.v (.int .i64 0)), (.v (.bool false)), (.v (.string ⟨#[]⟩)), (.v (.string ⟨#[]⟩)), (.v (.string ⟨#[]⟩)), (.v (.string ⟨#[]⟩)), (.v (.string ⟨#[]⟩)), (.v (.int .i64 0)), (.v (.string ⟨#[]⟩))] 0 []), none⟩,
    ⟨(some 6), (.mov (.tmp 0)), none⟩,
    ⟨(some 7), (.app 1 18 232 (.tmp 5) (.tmp 6)), none⟩,
    ⟨(some 2), (.mov (.tmp 7)), none⟩])
  .ret)))
def ir43 : AF := ⟨8, [(.tmp 2)], b43⟩
theorem c43 : compF tt Try.f43 = some ir43 := by kernel_rfl
def b44 : AC := (.region 0 [
    ⟨(some 4), (.mov (.tmp 0)), none⟩,
    ⟨(some 5), (.mov (.tmp 0)), none⟩,
    ⟨(some 6), (.lenL (.tmp 5)), none⟩,
    ⟨(some 7), (.mov (.tmp 1)), none⟩,
    ⟨(some 8), (.call 64 [(.tmp 4), (.tmp 6), (.tmp 7)]), none⟩])
def ir44 : AF := ⟨9, [], b44⟩
theorem c44 : compF tt Try.f44 = some ir44 := by kernel_rfl
def b45_0 : AC := (.region 0 [
    ⟨(some 4), (.mov (.const (.slice none 0 0))), none⟩])
def b45_1 : AC := (.seq (.region 0 [
    ⟨(some 8), (.mov (.tmp 0)), none⟩,
    ⟨(some 9), (.lenL (.tmp 8)), none⟩,
    ⟨(some 10), (.binI .lss .i64 (.tmp 9) (.const (.int .i64 2))), none⟩])
  (.cond (.tmp 10) (.seq (.region 0 [
    ⟨(some 11), (.mov (.tmp 0)), none⟩,
    ⟨(some 4), (.mov (.tmp 11)), none⟩])
  .ret) .skip))
def b45_2 : AC := (.seq (.region 0 [
    ⟨(some 5), (.mov (.const (.int .i64 1))), none⟩])
  (.block 0 (.loop (.seq (.seq (.region 0 [
    ⟨(some 12), (.mov (.tmp 5)), none⟩,
    ⟨(some 13), (.mov (.tmp 0)), none⟩,
    ⟨(some 14), (.lenL (.tmp 13)), none⟩,
    ⟨(some 15), (.binI .lss .i64 (.tmp 12) (.tmp 14)), none⟩])
  (.cond (.tmp 15) .skip (.exit 0)))
  (.seq (.block 1 (.seq (.dregion 0 [
    ⟨(some 18), (.mov (.tmp 1)), none⟩,
    ⟨(some 19), (.mov (.tmp 0)), none⟩,
    ⟨(some 20), (.mov (.tmp 5)), none⟩,
    ⟨(some 21), (.iaddr 18 (.tmp 19) (.tmp 20)), none⟩,
    ⟨(some 22), (.load true 18 (.tmp 21)), none⟩,
    ⟨(some 23), (.mov (.tmp 0)), none⟩,
    ⟨(some 24), (.mov (.tmp 5)), none⟩,
    ⟨(some 25), (.binI .sub .i64 (.tmp 24) (.const (.int .i64 1))), none⟩,
    ⟨(some 26), (.iaddr 18 (.tmp 23) (.tmp 25)), none⟩,
    ⟨(some 27), (.load true 18 (.tmp 26)), none⟩,
    ⟨(some 28), (.callv (.tmp 18) [(.tmp 22), (.tmp 27)]), none⟩] [[], [], [], [1, 2], [3], [], [], [6], [5, 7], [8], [0, 4, 9]])
  (.cond (.tmp 28) (.seq (.region 0 [
    ⟨(some 29), (.mov (.tmp 0)), none⟩,
    ⟨(some 30), (.mov (.tmp 5)), none⟩,
    ⟨(some 31), (.slice 18 (.tmp 29) (some (.tmp 30)) none), none⟩,
    ⟨(some 6), (.mov (.tmp 31)), none⟩])
  (.seq (.seq (.region 0 [
    ⟨(some 7), (.mov (.const (.int .i64 1))), none⟩])
  (.block 2 (.loop (.seq (.seq (.region 0 [
    ⟨(some 32), (.mov (.tmp 7)), none⟩,
    ⟨(some 33), (.mov (.tmp 6)), none⟩,
    ⟨(some 34), (.lenL (.tmp 33)), none⟩,
    ⟨(some 35), (.binI .lss .i64 (.tmp 32) (.tmp 34)), none⟩])
  (.cond (.tmp 35) .skip (.exit 2)))
  (.seq (.block 3 (.seq (.dregion 0 [
    ⟨(some 38), (.mov (.tmp 1)), none⟩,
    ⟨(some 39), (.mov (.tmp 6)), none⟩,
    ⟨(some 40), (.mov (.tmp 7)), none⟩,
    ⟨(some 41), (.iaddr 18 (.tmp 39) (.tmp 40)), none⟩,
    ⟨(some 42), (.load true 18 (.tmp 41)), none⟩,
    ⟨(some 43), (.mov (.tmp 6)), none⟩,
    ⟨(some 44), (.mov (.tmp 7)), none⟩,
    ⟨(some 45), (.binI .sub .i64 (.tmp 44) (.const (.int .i64 1))), none⟩,
    ⟨(some 46), (.iaddr 18 (.tmp 43) (.tmp 45)), none⟩,
    ⟨(some 47), (.load true 18 (.tmp 46)), none⟩,
    ⟨(some 48), (.callv (.tmp 38) [(.tmp 42), (.tmp 47)]), none⟩,
    ⟨(some 49), (.not (.tmp 48)), none⟩] [[], [], [], [1, 2], [3], [], [], [6], [5, 7], [8], [0, 4, 9], [10]])
  (.cond (.tmp 49) (.seq (.region 0 [
    ⟨(some 50), (.mov (.tmp 0)), none⟩,
    ⟨(some 51), (.mov (.tmp 5)), none⟩,
    ⟨(some 52), (.mov (.tmp 6)), none⟩,
    ⟨(some 53), (.mov (.tmp 7)), none⟩,
    ⟨(some 54), (.iaddr 18 (.tmp 52) (.tmp 53)), none⟩,
    ⟨(some 55), (.load true 18 (.tmp 54)), none⟩,
    ⟨(some 56), (.iaddr 18 (.tmp 50) (.tmp 51)), none⟩,
    ⟨none, (.store 18 (.tmp 56) (.tmp 55)), none⟩])
  (.region 0 [
    ⟨(some 57), (.mov (.tmp 5)), none⟩,
    ⟨(some 58), (.binI .add .i64 (.tmp 57) (.const (.int .i64 1))), none⟩,
    ⟨(some 5), (.mov (.tmp 58)), none⟩])) .skip)))
  (.region 0 [
    ⟨(some 36), (.mov (.tmp 7)), none⟩,
    ⟨(some 37), (.binI .add .i64 (.tmp 36) (.const (.int .i64 1))), none⟩,
    ⟨(some 7), (.mov (.tmp 37)), none⟩]))))))
  (.seq (.region 0 [
    ⟨(some 59), (.mov (.tmp 0)), none⟩,
    ⟨(some 60), (.mov (.tmp 5)), none⟩,
    ⟨(some 61), (.slice 18 (.tmp 59) (some (.tmp 60)) none), none⟩,
    ⟨none, (.clr 18 [(.v (.string ⟨#[]⟩)), (.v (.int .i64 0)), (.v (.int .i64 0)), (.v (.int .i64 0)), (.v (.slice none 0 0)), (.v (.int .i64 0)), (.v (.string ⟨#[]⟩)), (.v (.int .i64 0)), (.v (.string ⟨#[]⟩)), (.v (.int .i64 0)), (.v (.bool false)), (.v (.string ⟨#[]⟩)), (.v (.string ⟨#[]⟩)), (.v (.string ⟨#[]⟩)), (.v (.string ⟨#[]⟩)), (.v (.string ⟨#[]⟩)), (.v (.int .i64 0)), (.v (.string ⟨#[]⟩))] (.tmp 61)), none⟩])
  (.seq (.region 0 [
    ⟨(some 62), (.mov (.tmp 0)), none⟩,
    ⟨(some 63), (.mov (.tmp 5)), none⟩,
    ⟨(some 64), (.slice 18 (.tmp 62) none (some (.tmp 63))), none⟩,
    ⟨(some 4), (.mov (.tmp 64)), none⟩])
  .ret)))) .skip)))
  (.region 0 [
    ⟨(some 16), (.mov (.tmp 5)), none⟩,
    ⟨(some 17), (.binI .add .i64 (.tmp 16) (.const (.int .i64 1))), none⟩,
    ⟨(some 5), (.mov (.tmp 17)), none⟩]))))))
def b45_3 : AC := (.region 0 [
    ⟨(some 65), (.mov (.tmp 0)), none⟩,
    ⟨(some 4), (.mov (.tmp 65)), none⟩])
def b45_4 : AC := .ret
def b45 : AC := (.seq b45_0 (.seq b45_1 (.seq b45_2 (.seq b45_3 b45_4))))
def ir45 : AF := ⟨66, [(.tmp 4)], b45⟩
theorem c45 : compF tt Try.f45 = some ir45 := by kernel_rfl
def b46 : AC := (.seq (.region 2 [
    ⟨(some 2), (.box 0 (.tmp 0)), none⟩,
    ⟨(some 3), (.box 1 (.tmp 1)), none⟩,
    ⟨(some 4), (.mov (.const (.bool false))), none⟩])
  (.seq (.region 0 [
    ⟨(some 5), (.load true 18 (.tmp 2)), none⟩,
    ⟨(some 6), (.load true 18 (.tmp 3)), none⟩,
    ⟨(some 7), (.call 21 [(.tmp 5), (.tmp 6)]), none⟩,
    ⟨(some 8), (.binI .eql .i64 (.tmp 7) (.const (.int .i64 0))), none⟩,
    ⟨(some 4), (.mov (.tmp 8)), none⟩])
  .ret))
def ir46 : AF := ⟨9, [(.tmp 4)], b46⟩
theorem c46 : compF tt Try.f46 = some ir46 := by kernel_rfl
def b47 : AC := (.seq (.region 0 [
    ⟨(some 2), (.mov (.const (.int .i64 0))), none⟩])
  (.seq (.region 0 [
    ⟨(some 3), (.mov (.const (.int .i64 0))), none⟩])
  (.seq (.seq (.region 0 [
    ⟨(some 6), (.mov (.tmp 0)), none⟩,
    ⟨(some 7), (.lenL (.tmp 6)), none⟩,
    ⟨(some 8), (.mov (.const (.int .i64 0))), none⟩])
  (.block 0 (.loop (.seq (.region 0 [
    ⟨(some 9), (.binI .lss .i64 (.tmp 8) (.tmp 7)), none⟩])
  (.seq (.cond (.tmp 9) .skip (.exit 0))
  (.seq (.block 1 (.seq (.region 0 [
    ⟨(some 10), (.iaddr 1 (.tmp 6) (.tmp 8)), none⟩,
    ⟨(some 11), (.load false 1 (.tmp 10)), none⟩,
    ⟨(some 5), (.mov (.tmp 11)), none⟩])
  (.seq (.region 0 [
    ⟨(some 12), (.mov (.tmp 5)), none⟩,
    ⟨(some 13), (.mov (.tmp 3)), none⟩,
    ⟨(some 14), (.binI .neq .i64 (.tmp 12) (.tmp 13)), none⟩])
  (.cond (.tmp 14) (.seq (.region 0 [
    ⟨(some 15), (.mov (.tmp 5)), none⟩,
    ⟨(some 2), (.mov (.tmp 15)), none⟩])
  .ret) .skip))))
  (.region 0 [
    ⟨(some 16), (.binI .add .i64 (.tmp 8) (.const (.int .i64 1))), none⟩,
    ⟨(some 8), (.mov (.tmp 16)), none⟩])))))))
  (.seq (.region 0 [
    ⟨(some 17), (.mov (.tmp 3)), none⟩,
    ⟨(some 2), (.mov (.tmp 17)), none⟩])
  .ret))))
def ir47 : AF := ⟨18, [(.tmp 2)], b47⟩
theorem c47 : compF tt Try.f47 = some ir47 := by kernel_rfl
def b48 : AC := (.seq (.region 0 [
    ⟨(some 4), (.mov (.const (.int .i64 0))), none⟩])
  (.seq (.region 0 [
    ⟨(some 7), (.mov (.tmp 0)), none⟩,
    ⟨(some 8), (.call 65 [(.tmp 7)]), none⟩,
    ⟨(some 5), (.mov (.tmp 8)), none⟩])
  (.seq (.region 0 [
    ⟨(some 9), (.mov (.tmp 1)), none⟩,
    ⟨(some 10), (.call 65 [(.tmp 9)]), none⟩,
    ⟨(some 6), (.mov (.tmp 10)), none⟩])
  (.seq (.seq (.region 0 [
    ⟨(some 11), (.mov (.tmp 5)), none⟩])
  (.cond (.tmp 11) (.seq (.seq (.region 0 [
    ⟨(some 12), (.mov (.tmp 6)), none⟩])
  (.cond (.tmp 12) (.seq (.region 0 [
    ⟨(some 4), (.mov (.const (.int .i64 0))), none⟩])
  .ret) .skip))
  (.seq (.region 0 [
    ⟨(some 4), (.mov (.const (.int .i64 (-1)))), none⟩])
  .ret)) .skip))
  (.seq (.seq (.region 0 [
    ⟨(some 13), (.mov (.tmp 6)), none⟩])
  (.cond (.tmp 13) (.seq (.region 0 [
    ⟨(some 4), (.mov (.const (.int .i64 1))), none⟩])
  .ret) .skip))
  (.seq (.seq (.region 0 [
    ⟨(some 14), (.mov (.tmp 0)), none⟩,
    ⟨(some 15), (.mov (.tmp 1)), none⟩,
    ⟨(some 16), (.binI .lss .i64 (.tmp 14) (.tmp 15)), none⟩])
  (.cond (.tmp 16) (.seq (.region 0 [
    ⟨(some 4), (.mov (.const (.int .i64 (-1)))), none⟩])
  .ret) .skip))
  (.seq (.seq (.region 0 [
    ⟨(some 17), (.mov (.tmp 0)), none⟩,
    ⟨(some 18), (.mov (.tmp 1)), none⟩,
    ⟨(some 19), (.binI .gtr .i64 (.tmp 17) (.tmp 18)), none⟩])
  (.cond (.tmp 19) (.seq (.region 0 [
    ⟨(some 4), (.mov (.const (.int .i64 1))), none⟩])
  .ret) .skip))
  (.seq (.region 0 [
    ⟨(some 4), (.mov (.const (.int .i64 0))), none⟩])
  .ret))))))))
def ir48 : AF := ⟨20, [(.tmp 4)], b48⟩
theorem c48 : compF tt Try.f48 = some ir48 := by kernel_rfl
def b49 : AC := (.seq (.region 0 [
    ⟨(some 4), (.mov (.const (.int .i64 0))), none⟩])
  (.seq (.region 0 [
    ⟨(some 5), (.mov (.tmp 0)), none⟩,
    ⟨(some 6), (.mov (.tmp 1)), none⟩,
    ⟨(some 7), (.call 66 [(.tmp 5), (.tmp 6)]), none⟩,
    ⟨(some 4), (.mov (.tmp 7)), none⟩])
  .ret))
def ir49 : AF := ⟨8, [(.tmp 4)], b49⟩
theorem c49 : compF tt Try.f49 = some ir49 := by kernel_rfl
def b60 : AC := (.seq (.region 0 [
    ⟨(some 4), (.mov (.const (.int .i64 0))), none⟩])
  (.seq (.seq (.region 0 [
    ⟨(some 6), (.mov (.tmp 0)), none⟩,
    ⟨(some 7), (.lenL (.tmp 6)), none⟩,
    ⟨(some 8), (.mov (.const (.int .i64 0))), none⟩])
  (.block 0 (.loop (.seq (.region 0 [
    ⟨(some 9), (.binI .lss .i64 (.tmp 8) (.tmp 7)), none⟩])
  (.seq (.cond (.tmp 9) .skip (.exit 0))
  (.seq (.block 1 (.seq (.region 0 [
    ⟨(some 10), (.mov (.tmp 8)), none⟩,
    ⟨(some 5), (.mov (.tmp 10)), none⟩])
  (.seq (.region 0 [
    ⟨(some 11), (.mov (.tmp 1)), none⟩,
    ⟨(some 12), (.mov (.tmp 0)), none⟩,
    ⟨(some 13), (.mov (.tmp 5)), none⟩,
    ⟨(some 14), (.iaddr 18 (.tmp 12) (.tmp 13)), none⟩,
    ⟨(some 15), (.load true 18 (.tmp 14)), none⟩,
    ⟨(some 16), (.callv (.tmp 11) [(.tmp 15)]), none⟩])
  (.cond (.tmp 16) (.seq (.region 0 [
    ⟨(some 17), (.mov (.tmp 5)), none⟩,
    ⟨(some 4), (.mov (.tmp 17)), none⟩])
  .ret) .skip))))
  (.region 0 [
    ⟨(some 18), (.binI .add .i64 (.tmp 8) (.const (.int .i64 1))), none⟩,
    ⟨(some 8), (.mov (.tmp 18)), none⟩])))))))
  (.seq (.region 0 [
    ⟨(some 4), (.mov (.const (.int .i64 (-1)))), none⟩])
  .ret)))
def ir60 : AF := ⟨19, [(.tmp 4)], b60⟩
theorem c60 : compF tt Try.f60 = some ir60 := by kernel_rfl
def b62_0 : AC := (.region 2 [
    ⟨(some 2), (.box 0 (.tmp 0)), none⟩,
    ⟨(some 3), (.box 1 (.tmp 1)), none⟩,
    ⟨(some 4), (.mov (.const (.bool false))), none⟩])
def b62_1 : AC := (.seq (.region 0 [
    ⟨(some 6), (.faddr 4 (.tmp 2)), none⟩,
    ⟨(some 7), (.load false 1 (.tmp 6)), none⟩,
    ⟨(some 8), (.lenL (.tmp 7)), none⟩,
    ⟨(some 9), (.faddr 4 (.tmp 3)), none⟩,
    ⟨(some 10), (.load false 1 (.tmp 9)), none⟩,
    ⟨(some 11), (.lenL (.tmp 10)), none⟩,
    ⟨(some 12), (.binI .neq .i64 (.tmp 8) (.tmp 11)), none⟩])
  (.cond (.tmp 12) (.seq (.region 0 [
    ⟨(some 4), (.mov (.const (.bool false))), none⟩])
  .ret) .skip))
def b62_2 : AC := (.seq (.region 0 [
    ⟨(some 13), (.faddr 4 (.tmp 2)), none⟩,
    ⟨(some 14), (.load false 1 (.tmp 13)), none⟩,
    ⟨(some 15), (.lenL (.tmp 14)), none⟩,
    ⟨(some 16), (.mov (.const (.int .i64 0))), none⟩])
  (.block 0 (.loop (.seq (.region 0 [
    ⟨(some 17), (.binI .lss .i64 (.tmp 16) (.tmp 15)), none⟩])
  (.seq (.cond (.tmp 17) .skip (.exit 0))
  (.seq (.block 1 (.seq (.region 0 [
    ⟨(some 18), (.mov (.tmp 16)), none⟩,
    ⟨(some 5), (.mov (.tmp 18)), none⟩])
  (.seq (.dregion 0 [
    ⟨(some 19), (.faddr 4 (.tmp 2)), none⟩,
    ⟨(some 20), (.load false 1 (.tmp 19)), none⟩,
    ⟨(some 21), (.mov (.tmp 5)), none⟩,
    ⟨(some 22), (.iaddr 2 (.tmp 20) (.tmp 21)), none⟩,
    ⟨(some 23), (.load true 2 (.tmp 22)), none⟩,
    ⟨(some 24), (.faddr 4 (.tmp 3)), none⟩,
    ⟨(some 25), (.load false 1 (.tmp 24)), none⟩,
    ⟨(some 26), (.mov (.tmp 5)), none⟩,
    ⟨(some 27), (.iaddr 2 (.tmp 25) (.tmp 26)), none⟩,
    ⟨(some 28), (.load true 2 (.tmp 27)), none⟩,
    ⟨(some 29), (.eqA true [.s, (.i .i64)] (.tmp 23) (.tmp 28)), none⟩] [[], [0], [], [1, 2], [3], [], [5], [], [6, 7], [8], [4, 9]])
  (.cond (.tmp 29) (.seq (.region 0 [
    ⟨(some 4), (.mov (.const (.bool false))), none⟩])
  .ret) .skip))))
  (.region 0 [
    ⟨(some 30), (.binI .add .i64 (.tmp 16) (.const (.int .i64 1))), none⟩,
    ⟨(some 16), (.mov (.tmp 30)), none⟩])))))))
def b62_3 : AC := (.region 0 [
    ⟨(some 31), (.faddr 0 (.tmp 2)), none⟩,
    ⟨(some 32), (.load true 2 (.tmp 31)), none⟩,
    ⟨(some 33), (.faddr 0 (.tmp 3)), none⟩,
    ⟨(some 34), (.load true 2 (.tmp 33)), none⟩,
    ⟨(some 35), (.eqA false [.s, (.i .i64)] (.tmp 32) (.tmp 34)), none⟩,
    ⟨(some 36), (.mov (.tmp 35)), none⟩,
    ⟨(some 37), (.faddr 2 (.tmp 2)), (some (36, true))⟩,
    ⟨(some 38), (.load false 1 (.tmp 37)), (some (36, true))⟩,
    ⟨(some 39), (.faddr 2 (.tmp 3)), (some (36, true))⟩,
    ⟨(some 40), (.load false 1 (.tmp 39)), (some (36, true))⟩,
    ⟨(some 41), (.binI .eql .i64 (.tmp 38) (.tmp 40)), (some (36, true))⟩,
    ⟨(some 42), (.pick (.tmp 36) (.tmp 41) (.const (.bool false))), none⟩,
    ⟨(some 43), (.mov (.tmp 42)), none⟩,
    ⟨(some 44), (.faddr 3 (.tmp 2)), (some (43, true))⟩,
    ⟨(some 45), (.load false 1 (.tmp 44)), (some (43, true))⟩,
    ⟨(some 46), (.faddr 3 (.tmp 3)), (some (43, true))⟩,
    ⟨(some 47), (.load false 1 (.tmp 46)), (some (43, true))⟩,
    ⟨(some 48), (.binI .eql .i64 (.tmp 45) (.tmp 47)), (some (43, true))⟩,
    ⟨(some 49), (.pick (.tmp 43) (.tmp 48) (.const (.bool false))), none⟩,
    ⟨(some 50), (.mov (.tmp 49)), none⟩,
    ⟨(some 51), (.faddr 5 (.tmp 2)), (some (50, true))⟩,
    ⟨(some 52), (.load false 1 (.tmp 51)), (some (50, true))⟩,
    ⟨(some 53), (.faddr 5 (.tmp 3)), (some (50, true))⟩,
    ⟨(some 54), (.load false 1 (.tmp 53)), (some (50, true))⟩,
    ⟨(some 55), (.binI .eql .i64 (.tmp 52) (.tmp 54)), (some (50, true))⟩,
    ⟨(some 56), (.pick (.tmp 50) (.tmp 55) (.const (.bool false))), none⟩,
    ⟨(some 57), (.mov (.tmp 56)), none⟩,
    ⟨(some 58), (.faddr 6 (.tmp 2)), (some (57, true))⟩,
    ⟨(some 59), (.load true 2 (.tmp 58)), (some (57, true))⟩,
    ⟨(some 60), (.faddr 6 (.tmp 3)), (some (57, true))⟩,
    ⟨(some 61), (.load true 2 (.tmp 60)), (some (57, true))⟩,
    ⟨(some 62), (.eqA false [.s, (.i .i64)] (.tmp 59) (.tmp 61)), (some (57, true))⟩,
    ⟨(some 63), (.pick (.tmp 57) (.tmp 62) (.const (.bool false))), none⟩,
    ⟨(some 64), (.mov (.tmp 63)), none⟩,
    ⟨(some 65), (.faddr 8 (.tmp 2)), (some (64, true))⟩,
    ⟨(some 66), (.load true 2 (.tmp 65)), (some (64, true))⟩,
    ⟨(some 67), (.faddr 8 (.tmp 3)), (some (64, true))⟩,
    ⟨(some 68), (.load true 2 (.tmp 67)), (some (64, true))⟩,
    ⟨(some 69), (.eqA false [.s, (.i .i64)] (.tmp 66) (.tmp 68)), (some (64, true))⟩,
    ⟨(some 70), (.pick (.tmp 64) (.tmp 69) (.const (.bool false))), none⟩,
    ⟨(some 71), (.mov (.tmp 70)), none⟩,
    ⟨(some 72), (.faddr 10 (.tmp 2)), (some (71, true))⟩,
    ⟨(some 73), (.load true 3 (.tmp 72)), (some (71, true))⟩,
    ⟨(some 74), (.faddr 10 (.tmp 3)), (some (71, true))⟩,
    ⟨(some 75), (.load true 3 (.tmp 74)), (some (71, true))⟩,
    ⟨(some 76), (.eqA false [.b, .s, .s] (.tmp 73) (.tmp 75)), (some (71, true))⟩,
    ⟨(some 77), (.pick (.tmp 71) (.tmp 76) (.const (.bool false))), none⟩,
    ⟨(some 78), (.mov (.tmp 77)), none⟩,
    ⟨(some 79), (.faddr 13 (.tmp 2)), (some (78, true))⟩,
    ⟨(some 80), (.load false 1 (.tmp 79)), (some (78, true))⟩,
    ⟨(some 81), (.faddr 13 (.tmp 3)), (some (78, true))⟩,
    ⟨(some 82), (.load false 1 (.tmp 81)), (some (78, true))⟩,
    ⟨(some 83), (.binS .eql (.tmp 80) (.tmp 82)), (some (78, true))⟩,
    ⟨(some 84), (.pick (.tmp 78) (.tmp 83) (.const (.bool false))), none⟩,
    ⟨(some 85), (.mov (.tmp 84)), none⟩,
    ⟨(some 86), (.faddr 14 (.tmp 2)), (some (85, true))⟩,
    ⟨(some 87), (.load false 1 (.tmp 86)), (some (85, true))⟩,
    ⟨(some 88), (.faddr 14 (.tmp 3)), (some (85, true))⟩,
    ⟨(some 89), (.load false 1 (.tmp 88)), (some (85, true))⟩,
    ⟨(some 90), (.binS .eql (.tmp 87) (.tmp 89)), (some (85, true))⟩,
    ⟨(some 91), (.pick (.tmp 85) (.tmp 90) (.const (.bool false))), none⟩,
    ⟨(some 92), (.mov (.tmp 91)), none⟩,
    ⟨(some 93), (.faddr 15 (.tmp 2)), (some (92, true))⟩,
    ⟨(some 94), (.load true 2 (.tmp 93)), (some (92, true))⟩,
    ⟨(some 95), (.faddr 15 (.tmp 3)), (some (92, true))⟩,
    ⟨(some 96), (.load true 2 (.tmp 95)), (some (92, true))⟩,
    ⟨(some 97), (.eqA false [.s, (.i .i64)] (.tmp 94) (.tmp 96)), (some (92, true))⟩,
    ⟨(some 98), (.pick (.tmp 92) (.tmp 97) (.const (.bool false))), none⟩,
    ⟨(some 99), (.mov (.tmp 98)), none⟩,
    ⟨(some 100), (.faddr 17 (.tmp 2)), (some (99, true))⟩,
    ⟨(some 101), (.load false 1 (.tmp 100)), (some (99, true))⟩,
    ⟨(some 102), (.faddr 17 (.tmp 3)), (some (99, true))⟩,
    ⟨(some 103), (.load false 1 (.tmp 102)), (some (99, true))⟩,
    ⟨(some 104), (.binS .eql (.tmp 101) (.tmp 103)), (some (99, true))⟩,
    ⟨(some 105), (.pick (.tmp 99) (.tmp 104) (.const (.bool false))), none⟩,
    ⟨(some 4), (.mov (.tmp 105)), none⟩])
def b62_4 : AC := .ret
def b62 : AC := (.seq b62_0 (.seq b62_1 (.seq b62_2 (.seq b62_3 b62_4))))
def ir62 : AF := ⟨106, [(.tmp 4)], b62⟩
theorem c62 : compF tt Try.f62 = some ir62 := by kernel_rfl
def b63_0 : AC := (.region 1 [
    ⟨(some 3), (.box 0 (.tmp 1)), none⟩,
    ⟨(some 4), (.mov (.const (.slice none 0 0))), none⟩])
def b63_1 : AC := (.seq (.region 0 [
    ⟨(some 5), (.mov (.const (.int .i64 0))), none⟩])
  (.block 0 (.loop (.seq (.seq (.region 0 [
    ⟨(some 8), (.mov (.tmp 5)), none⟩,
    ⟨(some 9), (.mov (.tmp 0)), none⟩,
    ⟨(some 10), (.lenL (.tmp 9)), none⟩,
    ⟨(some 11), (.binI .lss .i64 (.tmp 8) (.tmp 10)), none⟩])
  (.cond (.tmp 11) .skip (.exit 0)))
  (.seq (.block 1 (.seq (.dregion 0 [
    ⟨(some 14), (.mov (.tmp 0)), none⟩,
    ⟨(some 15), (.mov (.tmp 5)), none⟩,
    ⟨(some 16), (.iaddr 18 (.tmp 14) (.tmp 15)), none⟩,
    ⟨(some 17), (.load true 18 (.tmp 16)), none⟩,
    ⟨(some 18), (.load true 18 (.tmp 3)), none⟩,
    ⟨(some 19), (.call 76 [(.tmp 17), (.tmp 18)]), none⟩,
    ⟨(some 6), (.mov (.tmp 19)), none⟩] [[], [], [0, 1], [2], [], [3, 4], [5, 5, 0, 1, 2, 3, 4, 5]])
  (.seq (.seq (.region 0 [
    ⟨(some 20), (.mov (.tmp 6)), none⟩,
    ⟨(some 21), (.binI .eql .i64 (.tmp 20) (.const (.int .i64 0))), none⟩])
  (.cond (.tmp 21) (.seq (.region 0 [
    ⟨(some 22), (.mov (.tmp 0)), none⟩,
    ⟨(some 4), (.mov (.tmp 22)), none⟩])
  .ret) .skip))
  (.seq (.region 0 [
    ⟨(some 23), (.mov (.tmp 6)), none⟩,
    ⟨(some 24), (.binI .gtr .i64 (.tmp 23) (.const (.int .i64 0))), none⟩])
  (.cond (.tmp 24) (.seq (.region 2 [
    ⟨(some 25), (.bsl 0 18 [(.v (.string ⟨#[]⟩)), (.v (.int .i64 0)), (.v (.int .i64 0)), (.v (.int .i64 0)), (.v (.slice none 0 0)), (.v (.int .i64 0)), (.v (.string ⟨#[]⟩)), (.v (.int .i64 0)), (.v (.string ⟨#[]⟩)), (.v (.int .i64 0)), (.v (.bool false)), (.v (.string ⟨#[]⟩)), (.v (.string ⟨#[]⟩)), (.v (.string ⟨#[]⟩)), (.v (.string ⟨#[]⟩)), (.v (.string ⟨#[]⟩)), (.v (.int .i64 0)), (.v (.string ⟨#[]⟩))] 0 []), none⟩,
    ⟨(some 26), (.mov (.tmp 0)), none⟩,
    ⟨(some 27), (.mov (.tmp 5)), none⟩,
    ⟨(some 28), (.slice 18 (.tmp 26) none (some (.tmp 27))), none⟩,
    ⟨(some 29), (.app 1 18 232 (.tmp 25) (.tmp 28)), none⟩,
    ⟨(some 7), (.mov (.tmp 29)), none⟩])
  (.seq (.region 2 [
    ⟨(some 30), (.mov (.tmp 7)), none⟩,
    ⟨(some 31), (.load true 18 (.tmp 3)), none⟩,
    ⟨(some 32), (.bsl 0 18 [(.v (.string ⟨#[]⟩)), (.v (.int .i64 0)), (.v (.int .i64 0)), (.v (.int .i64 0)), (.v (.slice none 0 0)), (.v (.int .i64 0)), (.v (.string ⟨#[]⟩)), (.v (.int .i64 0)), (.v (.string ⟨#[]⟩)), (.v (.int .i64 0)), (.v (.bool false)), (.v (.string ⟨#[]⟩)), (.v (.string ⟨#[]⟩)), (.v (.string ⟨#[]⟩)), (.v (.string ⟨#[]⟩)), (.v (.string ⟨#[]⟩)), (.v (.int .i64 0)), (.v (.string ⟨#[]⟩))] 1 [(0, (.tmp 31))]), none⟩,
    ⟨(some 33), (.app 1 18 232 (.tmp 30) (.tmp 32)), none⟩,
    ⟨(some 7), (.mov (.tmp 33)), none⟩])
  (.seq (.region 1 [
    ⟨(some 34), (.mov (.tmp 7)), none⟩,
    ⟨(some 35), (.mov (.tmp 0)), none⟩,
    ⟨(some 36), (.mov (.tmp 5)), none⟩,
    ⟨(some 37), (.slice 18 (.tmp 35) (some (.tmp 36)) none), none⟩,
    ⟨(some 38), (.app 0 18 232 (.tmp 34) (.tmp 37)), none⟩,
    ⟨(some 4), (.mov (.tmp 38)), none⟩])
  .ret))) .skip)))))
  (.region 0 [
    ⟨(some 12), (.mov (.tmp 5)), none⟩,
    ⟨(some 13), (.binI .add .i64 (.tmp 12) (.const (.int .i64 1))), none⟩,
    ⟨(some 5), (.mov (.tmp 13)), none⟩]))))))
def b63_2 : AC := (.dregion 4 [
    ⟨(some 39), (.bsl 0 18 [(.v (.string ⟨#[]⟩)), (.v (.int .i64 0)), (.v (.int .i64 0)), (.v (.int .i64 0)), (.v (.slice none 0 0)), (.v (.int .i64 0)), (.v (.string ⟨#[]⟩)), (.v (.int .i64 0)), (.v (.string ⟨#[]⟩)), (.v (.int .i64 0)), (.v (.bool false)), (.v (.string ⟨#[]⟩)), (.v (.string ⟨#[]⟩)), (.v (.string ⟨#[]⟩)), (.v (.string ⟨#[]⟩)), (.v (.string ⟨#[]⟩)), (.v (.int .i64 0)), (.v (.string ⟨#[]⟩))] 0 []), none⟩,
    ⟨(some 40), (.mov (.tmp 0)), none⟩,
    ⟨(some 41), (.app 1 18 232 (.tmp 39) (.tmp 40)), none⟩,
    ⟨(some 42), (.load true 18 (.tmp 3)), none⟩,
    ⟨(some 43), (.bsl 2 18 [(.v (.string ⟨#[]⟩)), (.v (.int .i64 0)), (.v (.int .i64 0)), (.v (.int .i64 0)), (.v (.slice none 0 0)), (.v (.int .i64 0)), (.v (.string ⟨#[]⟩)), (.v (.int .i64 0)), (.v (.string ⟨#[]⟩)), (.v (.int .i64 0)), (.v (.bool false)), (.v (.string ⟨#[]⟩)), (.v (.string ⟨#[]⟩)), (.v (.string ⟨#[]⟩)), (.v (.string ⟨#[]⟩)), (.v (.string ⟨#[]⟩)), (.v (.int .i64 0)), (.v (.string ⟨#[]⟩))] 1 [(0, (.tmp 42))]), none⟩,
    ⟨(some 44), (.app 3 18 232 (.tmp 41) (.tmp 43)), none⟩,
    ⟨(some 4), (.mov (.tmp 44)), none⟩] [[], [], [0, 1], [], [3], [2, 4, 2], [5, 5, 0, 1, 2, 3, 4, 5]])
def b63_3 : AC := .ret
def b63 : AC := (.seq b63_0 (.seq b63_1 (.seq b63_2 b63_3)))
def ir63 : AF := ⟨45, [(.tmp 4)], b63⟩
theorem c63 : compF tt Try.f63 = some ir63 := by kernel_rfl
def b64_0 : AC := (.region 0 [
    ⟨(some 6), (.mov (.const (.int .i64 20))), none⟩])
def b64_1 : AC := (.region 0 [
    ⟨(some 10), (.mov (.tmp 6)), none⟩,
    ⟨(some 7), (.mov (.const (.int .i64 0))), none⟩,
    ⟨(some 8), (.mov (.tmp 10)), none⟩])
def b64_2 : AC := (.block 0 (.loop (.seq (.seq (.region 0 [
    ⟨(some 11), (.mov (.tmp 8)), none⟩,
    ⟨(some 12), (.mov (.tmp 1)), none⟩,
    ⟨(some 13), (.binI .leq .i64 (.tmp 11) (.tmp 12)), none⟩])
  (.cond (.tmp 13) .skip (.exit 0)))
  (.block 1 (.seq (.region 0 [
    ⟨(some 14), (.mov (.tmp 0)), none⟩,
    ⟨(some 15), (.mov (.tmp 7)), none⟩,
    ⟨(some 16), (.mov (.tmp 8)), none⟩,
    ⟨(some 17), (.mov (.tmp 2)), none⟩,
    ⟨(some 18), (.call 77 [(.tmp 14), (.tmp 15), (.tmp 16), (.tmp 17)]), none⟩])
  (.seq (.region 0 [
    ⟨(some 19), (.mov (.tmp 8)), none⟩,
    ⟨(some 7), (.mov (.tmp 19)), none⟩])
  (.region 0 [
    ⟨(some 20), (.mov (.tmp 8)), none⟩,
    ⟨(some 21), (.mov (.tmp 6)), none⟩,
    ⟨(some 22), (.binI .add .i64 (.tmp 20) (.tmp 21)), none⟩,
    ⟨(some 8), (.mov (.tmp 22)), none⟩])))))))
def b64_3 : AC := (.region 0 [
    ⟨(some 23), (.mov (.tmp 0)), none⟩,
    ⟨(some 24), (.mov (.tmp 7)), none⟩,
    ⟨(some 25), (.mov (.tmp 1)), none⟩,
    ⟨(some 26), (.mov (.tmp 2)), none⟩,
    ⟨(some 27), (.call 77 [(.tmp 23), (.tmp 24), (.tmp 25), (.tmp 26)]), none⟩])
def b64_4 : AC := (.block 2 (.loop (.seq (.seq (.region 0 [
    ⟨(some 28), (.mov (.tmp 6)), none⟩,
    ⟨(some 29), (.mov (.tmp 1)), none⟩,
    ⟨(some 30), (.binI .lss .i64 (.tmp 28) (.tmp 29)), none⟩])
  (.cond (.tmp 30) .skip (.exit 2)))
  (.block 3 (.seq (.region 0 [
    ⟨(some 31), (.mov (.tmp 6)), none⟩,
    ⟨(some 32), (.binI .mul .i64 (.const (.int .i64 2)) (.tmp 31)), none⟩,
    ⟨(some 7), (.mov (.const (.int .i64 0))), none⟩,
    ⟨(some 8), (.mov (.tmp 32)), none⟩])
  (.seq (.block 4 (.loop (.seq (.seq (.region 0 [
    ⟨(some 33), (.mov (.tmp 8)), none⟩,
    ⟨(some 34), (.mov (.tmp 1)), none⟩,
    ⟨(some 35), (.binI .leq .i64 (.tmp 33) (.tmp 34)), none⟩])
  (.cond (.tmp 35) .skip (.exit 4)))
  (.block 5 (.seq (.region 0 [
    ⟨(some 36), (.mov (.tmp 0)), none⟩,
    ⟨(some 37), (.mov (.tmp 7)), none⟩,
    ⟨(some 38), (.mov (.tmp 7)), none⟩,
    ⟨(some 39), (.mov (.tmp 6)), none⟩,
    ⟨(some 40), (.binI .add .i64 (.tmp 38) (.tmp 39)), none⟩,
    ⟨(some 41), (.mov (.tmp 8)), none⟩,
    ⟨(some 42), (.mov (.tmp 2)), none⟩,
    ⟨(some 43), (.call 78 [(.tmp 36), (.tmp 37), (.tmp 40), (.tmp 41), (.tmp 42)]), none⟩])
  (.seq (.region 0 [
    ⟨(some 44), (.mov (.tmp 8)), none⟩,
    ⟨(some 7), (.mov (.tmp 44)), none⟩])
  (.region 0 [
    ⟨(some 45), (.mov (.tmp 8)), none⟩,
    ⟨(some 46), (.mov (.tmp 6)), none⟩,
    ⟨(some 47), (.binI .mul .i64 (.const (.int .i64 2)) (.tmp 46)), none⟩,
    ⟨(some 48), (.binI .add .i64 (.tmp 45) (.tmp 47)), none⟩,
    ⟨(some 8), (.mov (.tmp 48)), none⟩])))))))
  (.seq (.seq (.region 0 [
    ⟨(some 49), (.mov (.tmp 7)), none⟩,
    ⟨(some 50), (.mov (.tmp 6)), none⟩,
    ⟨(some 51), (.binI .add .i64 (.tmp 49) (.tmp 50)), none⟩,
    ⟨(some 9), (.mov (.tmp 51)), none⟩])
  (.seq (.region 0 [
    ⟨(some 52), (.mov (.tmp 9)), none⟩,
    ⟨(some 53), (.mov (.tmp 1)), none⟩,
    ⟨(some 54), (.binI .lss .i64 (.tmp 52) (.tmp 53)), none⟩])
  (.cond (.tmp 54) (.region 0 [
    ⟨(some 55), (.mov (.tmp 0)), none⟩,
    ⟨(some 56), (.mov (.tmp 7)), none⟩,
    ⟨(some 57), (.mov (.tmp 9)), none⟩,
    ⟨(some 58), (.mov (.tmp 1)), none⟩,
    ⟨(some 59), (.mov (.tmp 2)), none⟩,
    ⟨(some 60), (.call 78 [(.tmp 55), (.tmp 56), (.tmp 57), (.tmp 58), (.tmp 59)]), none⟩]) .skip)))
  (.region 0 [
    ⟨(some 61), (.mov (.tmp 6)), none⟩,
    ⟨(some 62), (.binI .mul .i64 (.tmp 61) (.const (.int .i64 2))), none⟩,
    ⟨(some 6), (.mov (.tmp 62)), none⟩]))))))))
def b64 : AC := (.seq b64_0 (.seq b64_1 (.seq b64_2 (.seq b64_3 b64_4))))
def ir64 : AF := ⟨63, [], b64⟩
theorem c64 : compF tt Try.f64 = some ir64 := by kernel_rfl
def b65 : AC := (.seq (.region 0 [
    ⟨(some 2), (.mov (.const (.bool false))), none⟩])
  (.seq (.region 0 [
    ⟨(some 3), (.mov (.tmp 0)), none⟩,
    ⟨(some 4), (.mov (.tmp 0)), none⟩,
    ⟨(some 5), (.binI .neq .i64 (.tmp 3) (.tmp 4)), none⟩,
    ⟨(some 2), (.mov (.tmp 5)), none⟩])
  .ret))
def ir65 : AF := ⟨6, [(.tmp 2)], b65⟩
theorem c65 : compF tt Try.f65 = some ir65 := by kernel_rfl
def b76 : AC := (.seq (.region 2 [
    ⟨(some 2), (.box 0 (.tmp 0)), none⟩,
    ⟨(some 3), (.box 1 (.tmp 1)), none⟩,
    ⟨(some 4), (.mov (.const (.int .i64 0))), none⟩])
  (.seq (.seq (.region 0 [
    ⟨(some 5), (.faddr 2 (.tmp 2)), none⟩,
    ⟨(some 6), (.load false 1 (.tmp 5)), none⟩,
    ⟨(some 7), (.faddr 2 (.tmp 3)), none⟩,
    ⟨(some 8), (.load false 1 (.tmp 7)), none⟩,
    ⟨(some 9), (.binI .neq .i64 (.tmp 6) (.tmp 8)), none⟩])
  (.cond (.tmp 9) (.seq (.seq (.region 0 [
    ⟨(some 10), (.faddr 2 (.tmp 2)), none⟩,
    ⟨(some 11), (.load false 1 (.tmp 10)), none⟩,
    ⟨(some 12), (.faddr 2 (.tmp 3)), none⟩,
    ⟨(some 13), (.load false 1 (.tmp 12)), none⟩,
    ⟨(some 14), (.binI .lss .i64 (.tmp 11) (.tmp 13)), none⟩])
  (.cond (.tmp 14) (.seq (.region 0 [
    ⟨(some 4), (.mov (.const (.int .i64 (-1)))), none⟩])
  .ret) .skip))
  (.seq (.region 0 [
    ⟨(some 4), (.mov (.const (.int .i64 1))), none⟩])
  .ret)) .skip))
  (.seq (.seq (.region 0 [
    ⟨(some 15), (.faddr 0 (.tmp 2)), none⟩,
    ⟨(some 16), (.faddr 0 (.tmp 15)), none⟩,
    ⟨(some 17), (.load false 1 (.tmp 16)), none⟩,
    ⟨(some 18), (.faddr 0 (.tmp 3)), none⟩,
    ⟨(some 19), (.faddr 0 (.tmp 18)), none⟩,
    ⟨(some 20), (.load false 1 (.tmp 19)), none⟩,
    ⟨(some 21), (.binS .neq (.tmp 17) (.tmp 20)), none⟩])
  (.cond (.tmp 21) (.seq (.seq (.region 0 [
    ⟨(some 22), (.faddr 0 (.tmp 2)), none⟩,
    ⟨(some 23), (.faddr 0 (.tmp 22)), none⟩,
    ⟨(some 24), (.load false 1 (.tmp 23)), none⟩,
    ⟨(some 25), (.faddr 0 (.tmp 3)), none⟩,
    ⟨(some 26), (.faddr 0 (.tmp 25)), none⟩,
    ⟨(some 27), (.load false 1 (.tmp 26)), none⟩,
    ⟨(some 28), (.binS .lss (.tmp 24) (.tmp 27)), none⟩])
  (.cond (.tmp 28) (.seq (.region 0 [
    ⟨(some 4), (.mov (.const (.int .i64 (-1)))), none⟩])
  .ret) .skip))
  (.seq (.region 0 [
    ⟨(some 4), (.mov (.const (.int .i64 1))), none⟩])
  .ret)) .skip))
  (.seq (.seq (.region 0 [
    ⟨(some 29), (.faddr 0 (.tmp 2)), none⟩,
    ⟨(some 30), (.faddr 1 (.tmp 29)), none⟩,
    ⟨(some 31), (.load false 1 (.tmp 30)), none⟩,
    ⟨(some 32), (.faddr 0 (.tmp 3)), none⟩,
    ⟨(some 33), (.faddr 1 (.tmp 32)), none⟩,
    ⟨(some 34), (.load false 1 (.tmp 33)), none⟩,
    ⟨(some 35), (.binI .lss .i64 (.tmp 31) (.tmp 34)), none⟩])
  (.cond (.tmp 35) (.seq (.region 0 [
    ⟨(some 4), (.mov (.const (.int .i64 (-1)))), none⟩])
  .ret) .skip))
  (.seq (.seq (.region 0 [
    ⟨(some 36), (.faddr 0 (.tmp 2)), none⟩,
    ⟨(some 37), (.faddr 1 (.tmp 36)), none⟩,
    ⟨(some 38), (.load false 1 (.tmp 37)), none⟩,
    ⟨(some 39), (.faddr 0 (.tmp 3)), none⟩,
    ⟨(some 40), (.faddr 1 (.tmp 39)), none⟩,
    ⟨(some 41), (.load false 1 (.tmp 40)), none⟩,
    ⟨(some 42), (.binI .gtr .i64 (.tmp 38) (.tmp 41)), none⟩])
  (.cond (.tmp 42) (.seq (.region 0 [
    ⟨(some 4), (.mov (.const (.int .i64 1))), none⟩])
  .ret) .skip))
  (.seq (.region 0 [
    ⟨(some 4), (.mov (.const (.int .i64 0))), none⟩])
  .ret))))))
def ir76 : AF := ⟨43, [(.tmp 4)], b76⟩
theorem c76 : compF tt Try.f76 = some ir76 := by kernel_rfl
def b77 : AC := (.seq (.region 0 [
    ⟨(some 10), (.mov (.tmp 1)), none⟩,
    ⟨(some 11), (.binI .add .i64 (.tmp 10) (.const (.int .i64 1))), none⟩,
    ⟨(some 8), (.mov (.tmp 11)), none⟩])
  (.block 0 (.loop (.seq (.seq (.region 0 [
    ⟨(some 12), (.mov (.tmp 8)), none⟩,
    ⟨(some 13), (.mov (.tmp 2)), none⟩,
    ⟨(some 14), (.binI .lss .i64 (.tmp 12) (.tmp 13)), none⟩])
  (.cond (.tmp 14) .skip (.exit 0)))
  (.seq (.block 1 (.seq (.region 0 [
    ⟨(some 17), (.mov (.tmp 8)), none⟩,
    ⟨(some 9), (.mov (.tmp 17)), none⟩])
  (.block 2 (.loop (.seq (.seq (.dregion 0 [
    ⟨(some 18), (.mov (.tmp 9)), none⟩,
    ⟨(some 19), (.mov (.tmp 1)), none⟩,
    ⟨(some 20), (.binI .gtr .i64 (.tmp 18) (.tmp 19)), none⟩,
    ⟨(some 21), (.mov (.tmp 20)), none⟩,
    ⟨(some 22), (.mov (.tmp 3)), (some (21, true))⟩,
    ⟨(some 23), (.mov (.tmp 0)), (some (21, true))⟩,
    ⟨(some 24), (.mov (.tmp 9)), (some (21, true))⟩,
    ⟨(some 25), (.iaddr 18 (.tmp 23) (.tmp 24)), (some (21, true))⟩,
    ⟨(some 26), (.load true 18 (.tmp 25)), (some (21, true))⟩,
    ⟨(some 27), (.mov (.tmp 0)), (some (21, true))⟩,
    ⟨(some 28), (.mov (.tmp 9)), (some (21, true))⟩,
    ⟨(some 29), (.binI .sub .i64 (.tmp 28) (.const (.int .i64 1))), (some (21, true))⟩,
    ⟨(some 30), (.iaddr 18 (.tmp 27) (.tmp 29)), (some (21, true))⟩,
    ⟨(some 31), (.load true 18 (.tmp 30)), (some (21, true))⟩,
    ⟨(some 32), (.callv (.tmp 22) [(.tmp 26), (.tmp 31)]), (some (21, true))⟩,
    ⟨(some 33), (.binI .lss .i64 (.tmp 32) (.const (.int .i64 0))), (some (21, true))⟩,
    ⟨(some 34), (.pick (.tmp 21) (.tmp 33) (.const (.bool false))), none⟩] [[], [], [0, 1], [2], [3], [3], [3], [5, 6, 3], [7, 3], [3], [3], [10, 3], [9, 11, 3], [12, 3], [4, 8, 13, 3, 3], [14, 3], [3, 15]])
  (.cond (.tmp 34) .skip (.exit 2)))
  (.seq (.block 3 (.dregion 0 [
    ⟨(some 37), (.mov (.tmp 0)), none⟩,
    ⟨(some 38), (.mov (.tmp 9)), none⟩,
    ⟨(some 39), (.mov (.tmp 0)), none⟩,
    ⟨(some 40), (.mov (.tmp 9)), none⟩,
    ⟨(some 41), (.binI .sub .i64 (.tmp 40) (.const (.int .i64 1))), none⟩,
    ⟨(some 42), (.mov (.tmp 0)), none⟩,
    ⟨(some 43), (.mov (.tmp 9)), none⟩,
    ⟨(some 44), (.binI .sub .i64 (.tmp 43) (.const (.int .i64 1))), none⟩,
    ⟨(some 45), (.iaddr 18 (.tmp 42) (.tmp 44)), none⟩,
    ⟨(some 46), (.load true 18 (.tmp 45)), none⟩,
    ⟨(some 47), (.mov (.tmp 0)), none⟩,
    ⟨(some 48), (.mov (.tmp 9)), none⟩,
    ⟨(some 49), (.iaddr 18 (.tmp 47) (.tmp 48)), none⟩,
    ⟨(some 50), (.load true 18 (.tmp 49)), none⟩,
    ⟨(some 51), (.iaddr 18 (.tmp 37) (.tmp 38)), none⟩,
    ⟨none, (.store 18 (.tmp 51) (.tmp 46)), none⟩,
    ⟨(some 52), (.iaddr 18 (.tmp 39) (.tmp 41)), none⟩,
    ⟨none, (.store 18 (.tmp 52) (.tmp 50)), none⟩] [[], [], [], [], [3], [], [], [6], [5, 7], [8], [], [], [10, 11], [12], [0, 1, 0, 1, 5, 6, 7, 8, 9, 13], [14, 9, 0, 1, 5, 6, 7, 8, 9, 13], [2, 4, 0, 1, 2, 3, 4, 5, 6, 7, 8, 9, 10, 11, 12, 13, 14, 15], [16, 13, 15, 0, 1, 2, 3, 4, 5, 6, 7, 8, 9, 10, 11, 12, 13, 14, 15]]))
  (.region 0 [
    ⟨(some 35), (.mov (.tmp 9)), none⟩,
    ⟨(some 36), (.binI .sub .i64 (.tmp 35) (.const (.int .i64 1))), none⟩,
    ⟨(some 9), (.mov (.tmp 36)), none⟩])))))))
  (.region 0 [
    ⟨(some 15), (.mov (.tmp 8)), none⟩,
    ⟨(some 16), (.binI .add .i64 (.tmp 15) (.const (.int .i64 1))), none⟩,
    ⟨(some 8), (.mov (.tmp 16)), none⟩]))))))
def ir77 : AF := ⟨53, [], b77⟩
theorem c77 : compF tt Try.f77 = some ir77 := by kernel_rfl
def b78_0 : AC := (.seq (.region 0 [
    ⟨(some 25), (.mov (.tmp 2)), none⟩,
    ⟨(some 26), (.mov (.tmp 1)), none⟩,
    ⟨(some 27), (.binI .sub .i64 (.tmp 25) (.tmp 26)), none⟩,
    ⟨(some 28), (.binI .eql .i64 (.tmp 27) (.const (.int .i64 1))), none⟩])
  (.cond (.tmp 28) (.seq (.region 0 [
    ⟨(some 29), (.mov (.tmp 2)), none⟩,
    ⟨(some 10), (.mov (.tmp 29)), none⟩])
  (.seq (.region 0 [
    ⟨(some 30), (.mov (.tmp 3)), none⟩,
    ⟨(some 11), (.mov (.tmp 30)), none⟩])
  (.seq (.block 0 (.loop (.seq (.seq (.region 0 [
    ⟨(some 31), (.mov (.tmp 10)), none⟩,
    ⟨(some 32), (.mov (.tmp 11)), none⟩,
    ⟨(some 33), (.binI .lss .i64 (.tmp 31) (.tmp 32)), none⟩])
  (.cond (.tmp 33) .skip (.exit 0)))
  (.block 1 (.seq (.region 0 [
    ⟨(some 34), (.mov (.tmp 10)), none⟩,
    ⟨(some 35), (.mov (.tmp 11)), none⟩,
    ⟨(some 36), (.binI .add .i64 (.tmp 34) (.tmp 35)), none⟩,
    ⟨(some 37), (.conv .u64 (.tmp 36)), none⟩,
    ⟨(some 38), (.shf .shr .u64 (.tmp 37) (.const (.int .u64 1))), none⟩,
    ⟨(some 39), (.conv .i64 (.tmp 38)), none⟩,
    ⟨(some 12), (.mov (.tmp 39)), none⟩])
  (.seq (.dregion 0 [
    ⟨(some 40), (.mov (.tmp 4)), none⟩,
    ⟨(some 41), (.mov (.tmp 0)), none⟩,
    ⟨(some 42), (.mov (.tmp 12)), none⟩,
    ⟨(some 43), (.iaddr 18 (.tmp 41) (.tmp 42)), none⟩,
    ⟨(some 44), (.load true 18 (.tmp 43)), none⟩,
    ⟨(some 45), (.mov (.tmp 0)), none⟩,
    ⟨(some 46), (.mov (.tmp 1)), none⟩,
    ⟨(some 47), (.iaddr 18 (.tmp 45) (.tmp 46)), none⟩,
    ⟨(some 48), (.load true 18 (.tmp 47)), none⟩,
    ⟨(some 49), (.callv (.tmp 40) [(.tmp 44), (.tmp 48)]), none⟩,
    ⟨(some 50), (.binI .lss .i64 (.tmp 49) (.const (.int .i64 0))), none⟩] [[], [], [], [1, 2], [3], [], [], [5, 6], [7], [0, 4, 8], [9]])
  (.cond (.tmp 50) (.region 0 [
    ⟨(some 51), (.mov (.tmp 12)), none⟩,
    ⟨(some 52), (.binI .add .i64 (.tmp 51) (.const (.int .i64 1))), none⟩,
    ⟨(some 10), (.mov (.tmp 52)), none⟩]) (.region 0 [
    ⟨(some 53), (.mov (.tmp 12)), none⟩,
    ⟨(some 11), (.mov (.tmp 53)), none⟩]))))))))
  (.seq (.seq (.region 0 [
    ⟨(some 54), (.mov (.tmp 1)), none⟩,
    ⟨(some 13), (.mov (.tmp 54)), none⟩])
  (.block 2 (.loop (.seq (.seq (.region 0 [
    ⟨(some 55), (.mov (.tmp 13)), none⟩,
    ⟨(some 56), (.mov (.tmp 10)), none⟩,
    ⟨(some 57), (.binI .sub .i64 (.tmp 56) (.const (.int .i64 1))), none⟩,
    ⟨(some 58), (.binI .lss .i64 (.tmp 55) (.tmp 57)), none⟩])
  (.cond (.tmp 58) .skip (.exit 2)))
  (.seq (.block 3 (.dregion 0 [
    ⟨(some 61), (.mov (.tmp 0)), none⟩,
    ⟨(some 62), (.mov (.tmp 13)), none⟩,
    ⟨(some 63), (.mov (.tmp 0)), none⟩,
    ⟨(some 64), (.mov (.tmp 13)), none⟩,
    ⟨(some 65), (.binI .add .i64 (.tmp 64) (.const (.int .i64 1))), none⟩,
    ⟨(some 66), (.mov (.tmp 0)), none⟩,
    ⟨(some 67), (.mov (.tmp 13)), none⟩,
    ⟨(some 68), (.binI .add .i64 (.tmp 67) (.const (.int .i64 1))), none⟩,
    ⟨(some 69), (.iaddr 18 (.tmp 66) (.tmp 68)), none⟩,
    ⟨(some 70), (.load true 18 (.tmp 69)), none⟩,
    ⟨(some 71), (.mov (.tmp 0)), none⟩,
    ⟨(some 72), (.mov (.tmp 13)), none⟩,
    ⟨(some 73), (.iaddr 18 (.tmp 71) (.tmp 72)), none⟩,
    ⟨(some 74), (.load true 18 (.tmp 73)), none⟩,
    ⟨(some 75), (.iaddr 18 (.tmp 61) (.tmp 62)), none⟩,
    ⟨none, (.store 18 (.tmp 75) (.tmp 70)), none⟩,
    ⟨(some 76), (.iaddr 18 (.tmp 63) (.tmp 65)), none⟩,
    ⟨none, (.store 18 (.tmp 76) (.tmp 74)), none⟩] [[], [], [], [], [3], [], [], [6], [5, 7], [8], [], [], [10, 11], [12], [0, 1, 0, 1, 5, 6, 7, 8, 9, 13], [14, 9, 0, 1, 5, 6, 7, 8, 9, 13], [2, 4, 0, 1, 2, 3, 4, 5, 6, 7, 8, 9, 10, 11, 12, 13, 14, 15], [16, 13, 15, 0, 1, 2, 3, 4, 5, 6, 7, 8, 9, 10, 11, 12, 13, 14, 15]]))
  (.region 0 [
    ⟨(some 59), (.mov (.tmp 13)), none⟩,
    ⟨(some 60), (.binI .add .i64 (.tmp 59) (.const (.int .i64 1))), none⟩,
    ⟨(some 13), (.mov (.tmp 60)), none⟩]))))))
  .ret)))) .skip))
def b78_1 : AC := (.seq (.region 0 [
    ⟨(some 77), (.mov (.tmp 3)), none⟩,
    ⟨(some 78), (.mov (.tmp 2)), none⟩,
    ⟨(some 79), (.binI .sub .i64 (.tmp 77) (.tmp 78)), none⟩,
    ⟨(some 80), (.binI .eql .i64 (.tmp 79) (.const (.int .i64 1))), none⟩])
  (.cond (.tmp 80) (.seq (.region 0 [
    ⟨(some 81), (.mov (.tmp 1)), none⟩,
    ⟨(some 14), (.mov (.tmp 81)), none⟩])
  (.seq (.region 0 [
    ⟨(some 82), (.mov (.tmp 2)), none⟩,
    ⟨(some 15), (.mov (.tmp 82)), none⟩])
  (.seq (.block 4 (.loop (.seq (.seq (.region 0 [
    ⟨(some 83), (.mov (.tmp 14)), none⟩,
    ⟨(some 84), (.mov (.tmp 15)), none⟩,
    ⟨(some 85), (.binI .lss .i64 (.tmp 83) (.tmp 84)), none⟩])
  (.cond (.tmp 85) .skip (.exit 4)))
  (.block 5 (.seq (.region 0 [
    ⟨(some 86), (.mov (.tmp 14)), none⟩,
    ⟨(some 87), (.mov (.tmp 15)), none⟩,
    ⟨(some 88), (.binI .add .i64 (.tmp 86) (.tmp 87)), none⟩,
    ⟨(some 89), (.conv .u64 (.tmp 88)), none⟩,
    ⟨(some 90), (.shf .shr .u64 (.tmp 89) (.const (.int .u64 1))), none⟩,
    ⟨(some 91), (.conv .i64 (.tmp 90)), none⟩,
    ⟨(some 16), (.mov (.tmp 91)), none⟩])
  (.seq (.dregion 0 [
    ⟨(some 92), (.mov (.tmp 4)), none⟩,
    ⟨(some 93), (.mov (.tmp 0)), none⟩,
    ⟨(some 94), (.mov (.tmp 2)), none⟩,
    ⟨(some 95), (.iaddr 18 (.tmp 93) (.tmp 94)), none⟩,
    ⟨(some 96), (.load true 18 (.tmp 95)), none⟩,
    ⟨(some 97), (.mov (.tmp 0)), none⟩,
    ⟨(some 98), (.mov (.tmp 16)), none⟩,
    ⟨(some 99), (.iaddr 18 (.tmp 97) (.tmp 98)), none⟩,
    ⟨(some 100), (.load true 18 (.tmp 99)), none⟩,
    ⟨(some 101), (.callv (.tmp 92) [(.tmp 96), (.tmp 100)]), none⟩,
    ⟨(some 102), (.binI .lss .i64 (.tmp 101) (.const (.int .i64 0))), none⟩,
    ⟨(some 103), (.not (.tmp 102)), none⟩] [[], [], [], [1, 2], [3], [], [], [5, 6], [7], [0, 4, 8], [9], [10]])
  (.cond (.tmp 103) (.region 0 [
    ⟨(some 104), (.mov (.tmp 16)), none⟩,
    ⟨(some 105), (.binI .add .i64 (.tmp 104) (.const (.int .i64 1))), none⟩,
    ⟨(some 14), (.mov (.tmp 105)), none⟩]) (.region 0 [
    ⟨(some 106), (.mov (.tmp 16)), none⟩,
    ⟨(some 15), (.mov (.tmp 106)), none⟩]))))))))
  (.seq (.seq (.region 0 [
    ⟨(some 107), (.mov (.tmp 2)), none⟩,
    ⟨(some 17), (.mov (.tmp 107)), none⟩])
  (.block 6 (.loop (.seq (.seq (.region 0 [
    ⟨(some 108), (.mov (.tmp 17)), none⟩,
    ⟨(some 109), (.mov (.tmp 14)), none⟩,
    ⟨(some 110), (.binI .gtr .i64 (.tmp 108) (.tmp 109)), none⟩])
  (.cond (.tmp 110) .skip (.exit 6)))
  (.seq (.block 7 (.dregion 0 [
    ⟨(some 113), (.mov (.tmp 0)), none⟩,
    ⟨(some 114), (.mov (.tmp 17)), none⟩,
    ⟨(some 115), (.mov (.tmp 0)), none⟩,
    ⟨(some 116), (.mov (.tmp 17)), none⟩,
    ⟨(some 117), (.binI .sub .i64 (.tmp 116) (.const (.int .i64 1))), none⟩,
    ⟨(some 118), (.mov (.tmp 0)), none⟩,
    ⟨(some 119), (.mov (.tmp 17)), none⟩,
    ⟨(some 120), (.binI .sub .i64 (.tmp 119) (.const (.int .i64 1))), none⟩,
    ⟨(some 121), (.iaddr 18 (.tmp 118) (.tmp 120)), none⟩,
    ⟨(some 122), (.load true 18 (.tmp 121)), none⟩,
    ⟨(some 123), (.mov (.tmp 0)), none⟩,
    ⟨(some 124), (.mov (.tmp 17)), none⟩,
    ⟨(some 125), (.iaddr 18 (.tmp 123) (.tmp 124)), none⟩,
    ⟨(some 126), (.load true 18 (.tmp 125)), none⟩,
    ⟨(some 127), (.iaddr 18 (.tmp 113) (.tmp 114)), none⟩,
    ⟨none, (.store 18 (.tmp 127) (.tmp 122)), none⟩,
    ⟨(some 128), (.iaddr 18 (.tmp 115) (.tmp 117)), none⟩,
    ⟨none, (.store 18 (.tmp 128) (.tmp 126)), none⟩] [[], [], [], [], [3], [], [], [6], [5, 7], [8], [], [], [10, 11], [12], [0, 1, 0, 1, 5, 6, 7, 8, 9, 13], [14, 9, 0, 1, 5, 6, 7, 8, 9, 13], [2, 4, 0, 1, 2, 3, 4, 5, 6, 7, 8, 9, 10, 11, 12, 13, 14, 15], [16, 13, 15, 0, 1, 2, 3, 4, 5, 6, 7, 8, 9, 10, 11, 12, 13, 14, 15]]))
  (.region 0 [
    ⟨(some 111), (.mov (.tmp 17)), none⟩,
    ⟨(some 112), (.binI .sub .i64 (.tmp 111) (.const (.int .i64 1))), none⟩,
    ⟨(some 17), (.mov (.tmp 112)), none⟩]))))))
  .ret)))) .skip))
def b78_2 : AC := (.region 0 [
    ⟨(some 129), (.mov (.tmp 1)), none⟩,
    ⟨(some 130), (.mov (.tmp 3)), none⟩,
    ⟨(some 131), (.binI .add .i64 (.tmp 129) (.tmp 130)), none⟩,
    ⟨(some 132), (.conv .u64 (.tmp 131)), none⟩,
    ⟨(some 133), (.shf .shr .u64 (.tmp 132) (.const (.int .u64 1))), none⟩,
    ⟨(some 134), (.conv .i64 (.tmp 133)), none⟩,
    ⟨(some 18), (.mov (.tmp 134)), none⟩])
def b78_3 : AC := (.region 0 [
    ⟨(some 135), (.mov (.tmp 18)), none⟩,
    ⟨(some 136), (.mov (.tmp 2)), none⟩,
    ⟨(some 137), (.binI .add .i64 (.tmp 135) (.tmp 136)), none⟩,
    ⟨(some 19), (.mov (.tmp 137)), none⟩])
def b78_4 : AC := (.region 0 [
    ⟨(some 20), (.mov (.const (.int .i64 0))), none⟩,
    ⟨(some 21), (.mov (.const (.int .i64 0))), none⟩])
def b78_5 : AC := (.seq (.region 0 [
    ⟨(some 138), (.mov (.tmp 2)), none⟩,
    ⟨(some 139), (.mov (.tmp 18)), none⟩,
    ⟨(some 140), (.binI .gtr .i64 (.tmp 138) (.tmp 139)), none⟩])
  (.cond (.tmp 140) (.seq (.region 0 [
    ⟨(some 141), (.mov (.tmp 19)), none⟩,
    ⟨(some 142), (.mov (.tmp 3)), none⟩,
    ⟨(some 143), (.binI .sub .i64 (.tmp 141) (.tmp 142)), none⟩,
    ⟨(some 20), (.mov (.tmp 143)), none⟩])
  (.region 0 [
    ⟨(some 144), (.mov (.tmp 18)), none⟩,
    ⟨(some 21), (.mov (.tmp 144)), none⟩])) (.seq (.region 0 [
    ⟨(some 145), (.mov (.tmp 1)), none⟩,
    ⟨(some 20), (.mov (.tmp 145)), none⟩])
  (.region 0 [
    ⟨(some 146), (.mov (.tmp 2)), none⟩,
    ⟨(some 21), (.mov (.tmp 146)), none⟩]))))
def b78_6 : AC := (.region 0 [
    ⟨(some 147), (.mov (.tmp 19)), none⟩,
    ⟨(some 148), (.binI .sub .i64 (.tmp 147) (.const (.int .i64 1))), none⟩,
    ⟨(some 22), (.mov (.tmp 148)), none⟩])
def b78_7 : AC := (.block 8 (.loop (.seq (.seq (.region 0 [
    ⟨(some 149), (.mov (.tmp 20)), none⟩,
    ⟨(some 150), (.mov (.tmp 21)), none⟩,
    ⟨(some 151), (.binI .lss .i64 (.tmp 149) (.tmp 150)), none⟩])
  (.cond (.tmp 151) .skip (.exit 8)))
  (.block 9 (.seq (.region 0 [
    ⟨(some 152), (.mov (.tmp 20)), none⟩,
    ⟨(some 153), (.mov (.tmp 21)), none⟩,
    ⟨(some 154), (.binI .add .i64 (.tmp 152) (.tmp 153)), none⟩,
    ⟨(some 155), (.conv .u64 (.tmp 154)), none⟩,
    ⟨(some 156), (.shf .shr .u64 (.tmp 155) (.const (.int .u64 1))), none⟩,
    ⟨(some 157), (.conv .i64 (.tmp 156)), none⟩,
    ⟨(some 23), (.mov (.tmp 157)), none⟩])
  (.seq (.dregion 0 [
    ⟨(some 158), (.mov (.tmp 4)), none⟩,
    ⟨(some 159), (.mov (.tmp 0)), none⟩,
    ⟨(some 160), (.mov (.tmp 22)), none⟩,
    ⟨(some 161), (.mov (.tmp 23)), none⟩,
    ⟨(some 162), (.binI .sub .i64 (.tmp 160) (.tmp 161)), none⟩,
    ⟨(some 163), (.iaddr 18 (.tmp 159) (.tmp 162)), none⟩,
    ⟨(some 164), (.load true 18 (.tmp 163)), none⟩,
    ⟨(some 165), (.mov (.tmp 0)), none⟩,
    ⟨(some 166), (.mov (.tmp 23)), none⟩,
    ⟨(some 167), (.iaddr 18 (.tmp 165) (.tmp 166)), none⟩,
    ⟨(some 168), (.load true 18 (.tmp 167)), none⟩,
    ⟨(some 169), (.callv (.tmp 158) [(.tmp 164), (.tmp 168)]), none⟩,
    ⟨(some 170), (.binI .lss .i64 (.tmp 169) (.const (.int .i64 0))), none⟩,
    ⟨(some 171), (.not (.tmp 170)), none⟩] [[], [], [], [], [2, 3], [1, 4], [5], [], [], [7, 8], [9], [0, 6, 10], [11], [12]])
  (.cond (.tmp 171) (.region 0 [
    ⟨(some 172), (.mov (.tmp 23)), none⟩,
    ⟨(some 173), (.binI .add .i64 (.tmp 172) (.const (.int .i64 1))), none⟩,
    ⟨(some 20), (.mov (.tmp 173)), none⟩]) (.region 0 [
    ⟨(some 174), (.mov (.tmp 23)), none⟩,
    ⟨(some 21), (.mov (.tmp 174)), none⟩]))))))))
def b78_8 : AC := (.region 0 [
    ⟨(some 175), (.mov (.tmp 19)), none⟩,
    ⟨(some 176), (.mov (.tmp 20)), none⟩,
    ⟨(some 177), (.binI .sub .i64 (.tmp 175) (.tmp 176)), none⟩,
    ⟨(some 24), (.mov (.tmp 177)), none⟩])
def b78_9 : AC := (.seq (.region 0 [
    ⟨(some 178), (.mov (.tmp 20)), none⟩,
    ⟨(some 179), (.mov (.tmp 2)), none⟩,
    ⟨(some 180), (.binI .lss .i64 (.tmp 178) (.tmp 179)), none⟩,
    ⟨(some 181), (.mov (.tmp 180)), none⟩,
    ⟨(some 182), (.mov (.tmp 2)), (some (181, true))⟩,
    ⟨(some 183), (.mov (.tmp 24)), (some (181, true))⟩,
    ⟨(some 184), (.binI .lss .i64 (.tmp 182) (.tmp 183)), (some (181, true))⟩,
    ⟨(some 185), (.pick (.tmp 181) (.tmp 184) (.const (.bool false))), none⟩])
  (.cond (.tmp 185) (.region 0 [
    ⟨(some 186), (.mov (.tmp 0)), none⟩,
    ⟨(some 187), (.mov (.tmp 20)), none⟩,
    ⟨(some 188), (.mov (.tmp 2)), none⟩,
    ⟨(some 189), (.mov (.tmp 24)), none⟩,
    ⟨(some 190), (.mov (.tmp 4)), none⟩,
    ⟨(some 191), (.call 95 [(.tmp 186), (.tmp 187), (.tmp 188), (.tmp 189), (.tmp 190)]), none⟩]) .skip))
def b78_10 : AC := (.seq (.region 0 [
    ⟨(some 192), (.mov (.tmp 1)), none⟩,
    ⟨(some 193), (.mov (.tmp 20)), none⟩,
    ⟨(some 194), (.binI .lss .i64 (.tmp 192) (.tmp 193)), none⟩,
    ⟨(some 195), (.mov (.tmp 194)), none⟩,
    ⟨(some 196), (.mov (.tmp 20)), (some (195, true))⟩,
    ⟨(some 197), (.mov (.tmp 18)), (some (195, true))⟩,
    ⟨(some 198), (.binI .lss .i64 (.tmp 196) (.tmp 197)), (some (195, true))⟩,
    ⟨(some 199), (.pick (.tmp 195) (.tmp 198) (.const (.bool false))), none⟩])
  (.cond (.tmp 199) (.region 0 [
    ⟨(some 200), (.mov (.tmp 0)), none⟩,
    ⟨(some 201), (.mov (.tmp 1)), none⟩,
    ⟨(some 202), (.mov (.tmp 20)), none⟩,
    ⟨(some 203), (.mov (.tmp 18)), none⟩,
    ⟨(some 204), (.mov (.tmp 4)), none⟩,
    ⟨(some 205), (.call 78 [(.tmp 200), (.tmp 201), (.tmp 202), (.tmp 203), (.tmp 204)]), none⟩]) .skip))
def b78_11 : AC := (.region 0 [
    ⟨(some 206), (.mov (.tmp 18)), none⟩,
    ⟨(some 207), (.mov (.tmp 24)), none⟩,
    ⟨(some 208), (.binI .lss .i64 (.tmp 206) (.tmp 207)), none⟩,
    ⟨(some 209), (.mov (.tmp 208)), none⟩,
    ⟨(some 210), (.mov (.tmp 24)), (some (209, true))⟩,
    ⟨(some 211), (.mov (.tmp 3)), (some (209, true))⟩,
    ⟨(some 212), (.binI .lss .i64 (.tmp 210) (.tmp 211)), (some (209, true))⟩,
    ⟨(some 213), (.pick (.tmp 209) (.tmp 212) (.const (.bool false))), none⟩])
def b78_12 : AC := (.cond (.tmp 213) (.region 0 [
    ⟨(some 214), (.mov (.tmp 0)), none⟩,
    ⟨(some 215), (.mov (.tmp 18)), none⟩,
    ⟨(some 216), (.mov (.tmp 24)), none⟩,
    ⟨(some 217), (.mov (.tmp 3)), none⟩,
    ⟨(some 218), (.mov (.tmp 4)), none⟩,
    ⟨(some 219), (.call 78 [(.tmp 214), (.tmp 215), (.tmp 216), (.tmp 217), (.tmp 218)]), none⟩]) .skip)
def b78 : AC := (.seq b78_0 (.seq b78_1 (.seq b78_2 (.seq b78_3 (.seq b78_4 (.seq b78_5 (.seq b78_6 (.seq b78_7 (.seq b78_8 (.seq b78_9 (.seq b78_10 (.seq b78_11 b78_12))))))))))))
def ir78 : AF := ⟨220, [], b78⟩
theorem c78 : compF tt Try.f78 = some ir78 := by kernel_rfl
def b95 : AC := (.seq (.region 0 [
    ⟨(some 12), (.mov (.tmp 2)), none⟩,
    ⟨(some 13), (.mov (.tmp 1)), none⟩,
    ⟨(some 14), (.binI .sub .i64 (.tmp 12) (.tmp 13)), none⟩,
    ⟨(some 10), (.mov (.tmp 14)), none⟩])
  (.seq (.region 0 [
    ⟨(some 15), (.mov (.tmp 3)), none⟩,
    ⟨(some 16), (.mov (.tmp 2)), none⟩,
    ⟨(some 17), (.binI .sub .i64 (.tmp 15) (.tmp 16)), none⟩,
    ⟨(some 11), (.mov (.tmp 17)), none⟩])
  (.seq (.block 0 (.loop (.seq (.seq (.region 0 [
    ⟨(some 18), (.mov (.tmp 10)), none⟩,
    ⟨(some 19), (.mov (.tmp 11)), none⟩,
    ⟨(some 20), (.binI .neq .i64 (.tmp 18) (.tmp 19)), none⟩])
  (.cond (.tmp 20) .skip (.exit 0)))
  (.block 1 (.seq (.region 0 [
    ⟨(some 21), (.mov (.tmp 10)), none⟩,
    ⟨(some 22), (.mov (.tmp 11)), none⟩,
    ⟨(some 23), (.binI .gtr .i64 (.tmp 21) (.tmp 22)), none⟩])
  (.cond (.tmp 23) (.seq (.region 0 [
    ⟨(some 24), (.mov (.tmp 0)), none⟩,
    ⟨(some 25), (.mov (.tmp 2)), none⟩,
    ⟨(some 26), (.mov (.tmp 10)), none⟩,
    ⟨(some 27), (.binI .sub .i64 (.tmp 25) (.tmp 26)), none⟩,
    ⟨(some 28), (.mov (.tmp 2)), none⟩,
    ⟨(some 29), (.mov (.tmp 11)), none⟩,
    ⟨(some 30), (.mov (.tmp 4)), none⟩,
    ⟨(some 31), (.call 103 [(.tmp 24), (.tmp 27), (.tmp 28), (.tmp 29), (.tmp 30)]), none⟩])
  (.region 0 [
    ⟨(some 32), (.mov (.tmp 10)), none⟩,
    ⟨(some 33), (.mov (.tmp 11)), none⟩,
    ⟨(some 34), (.binI .sub .i64 (.tmp 32) (.tmp 33)), none⟩,
    ⟨(some 10), (.mov (.tmp 34)), none⟩])) (.seq (.region 0 [
    ⟨(some 35), (.mov (.tmp 0)), none⟩,
    ⟨(some 36), (.mov (.tmp 2)), none⟩,
    ⟨(some 37), (.mov (.tmp 10)), none⟩,
    ⟨(some 38), (.binI .sub .i64 (.tmp 36) (.tmp 37)), none⟩,
    ⟨(some 39), (.mov (.tmp 2)), none⟩,
    ⟨(some 40), (.mov (.tmp 11)), none⟩,
    ⟨(some 41), (.binI .add .i64 (.tmp 39) (.tmp 40)), none⟩,
    ⟨(some 42), (.mov (.tmp 10)), none⟩,
    ⟨(some 43), (.binI .sub .i64 (.tmp 41) (.tmp 42)), none⟩,
    ⟨(some 44), (.mov (.tmp 10)), none⟩,
    ⟨(some 45), (.mov (.tmp 4)), none⟩,
    ⟨(some 46), (.call 103 [(.tmp 35), (.tmp 38), (.tmp 43), (.tmp 44), (.tmp 45)]), none⟩])
  (.region 0 [
    ⟨(some 47), (.mov (.tmp 11)), none⟩,
    ⟨(some 48), (.mov (.tmp 10)), none⟩,
    ⟨(some 49), (.binI .sub .i64 (.tmp 47) (.tmp 48)), none⟩,
    ⟨(some 11), (.mov (.tmp 49)), none⟩]))))))))
  (.region 0 [
    ⟨(some 50), (.mov (.tmp 0)), none⟩,
    ⟨(some 51), (.mov (.tmp 2)), none⟩,
    ⟨(some 52), (.mov (.tmp 10)), none⟩,
    ⟨(some 53), (.binI .sub .i64 (.tmp 51) (.tmp 52)), none⟩,
    ⟨(some 54), (.mov (.tmp 2)), none⟩,
    ⟨(some 55), (.mov (.tmp 10)), none⟩,
    ⟨(some 56), (.mov (.tmp 4)), none⟩,
    ⟨(some 57), (.call 103 [(.tmp 50), (.tmp 53), (.tmp 54), (.tmp 55), (.tmp 56)]), none⟩]))))
def ir95 : AF := ⟨58, [], b95⟩
theorem c95 : compF tt Try.f95 = some ir95 := by kernel_rfl
def b103 : AC := (.seq (.region 0 [
    ⟨(some 10), (.mov (.const (.int .i64 0))), none⟩])
  (.block 0 (.loop (.seq (.seq (.region 0 [
    ⟨(some 11), (.mov (.tmp 10)), none⟩,
    ⟨(some 12), (.mov (.tmp 3)), none⟩,
    ⟨(some 13), (.binI .lss .i64 (.tmp 11) (.tmp 12)), none⟩])
  (.cond (.tmp 13) .skip (.exit 0)))
  (.seq (.block 1 (.dregion 0 [
    ⟨(some 16), (.mov (.tmp 0)), none⟩,
    ⟨(some 17), (.mov (.tmp 1)), none⟩,
    ⟨(some 18), (.mov (.tmp 10)), none⟩,
    ⟨(some 19), (.binI .add .i64 (.tmp 17) (.tmp 18)), none⟩,
    ⟨(some 20), (.mov (.tmp 0)), none⟩,
    ⟨(some 21), (.mov (.tmp 2)), none⟩,
    ⟨(some 22), (.mov (.tmp 10)), none⟩,
    ⟨(some 23), (.binI .add .i64 (.tmp 21) (.tmp 22)), none⟩,
    ⟨(some 24), (.mov (.tmp 0)), none⟩,
    ⟨(some 25), (.mov (.tmp 2)), none⟩,
    ⟨(some 26), (.mov (.tmp 10)), none⟩,
    ⟨(some 27), (.binI .add .i64 (.tmp 25) (.tmp 26)), none⟩,
    ⟨(some 28), (.iaddr 18 (.tmp 24) (.tmp 27)), none⟩,
    ⟨(some 29), (.load true 18 (.tmp 28)), none⟩,
    ⟨(some 30), (.mov (.tmp 0)), none⟩,
    ⟨(some 31), (.mov (.tmp 1)), none⟩,
    ⟨(some 32), (.mov (.tmp 10)), none⟩,
    ⟨(some 33), (.binI .add .i64 (.tmp 31) (.tmp 32)), none⟩,
    ⟨(some 34), (.iaddr 18 (.tmp 30) (.tmp 33)), none⟩,
    ⟨(some 35), (.load true 18 (.tmp 34)), none⟩,
    ⟨(some 36), (.iaddr 18 (.tmp 16) (.tmp 19)), none⟩,
    ⟨none, (.store 18 (.tmp 36) (.tmp 29)), none⟩,
    ⟨(some 37), (.iaddr 18 (.tmp 20) (.tmp 23)), none⟩,
    ⟨none, (.store 18 (.tmp 37) (.tmp 35)), none⟩] [[], [], [], [1, 2], [], [], [], [5, 6], [], [], [], [9, 10], [8, 11], [12], [], [], [], [15, 16], [14, 17], [18], [0, 3, 0, 1, 2, 3, 8, 9, 10, 11, 12, 13, 19], [20, 13, 0, 1, 2, 3, 8, 9, 10, 11, 12, 13, 19], [4, 7, 0, 1, 2, 3, 4, 5, 6, 7, 8, 9, 10, 11, 12, 13, 14, 15, 16, 17, 18, 19, 20, 21], [22, 19, 21, 0, 1, 2, 3, 4, 5, 6, 7, 8, 9, 10, 11, 12, 13, 14, 15, 16, 17, 18, 19, 20, 21]]))
  (.region 0 [
    ⟨(some 14), (.mov (.tmp 10)), none⟩,
    ⟨(some 15), (.binI .add .i64 (.tmp 14) (.const (.int .i64 1))), none⟩,
    ⟨(some 10), (.mov (.tmp 15)), none⟩]))))))
def ir103 : AF := ⟨38, [], b103⟩
theorem c103 : compF tt Try.f103 = some ir103 := by kernel_rfl
end Go.Aw.Try

/- Contracts out of the model's own words. -/
namespace Go.Aw
open Go
variable {P : Program} {G : Gl}

theorem acalls_of_calls {f : Nat} {xs : List Value} {r : Value} (hc : Callable P f) (hone : r.oneCell' = true) (h : ∀ w, Calls P f xs.toArray w fun e w' => e = .returned r ∧ w' = w) (H : List O) :
    ACalls P G f (xs.map fun x => .c (.d (.v x))) H fun t H' => t = .val r ∧ H' = H := by
  refine ⟨hc, fun ρ w vs hH hG hv => ?_⟩
  have : vs = xs.toArray := by
    apply Array.ext
    · rw [hv.1]; simp
    · intro i h1 h2
      have hx : (xs.map fun x => V.c (.d (.v x)))[i]? = some (.c (.d (.v (xs[i]'(by simpa using h2))))) := by simp [show i < xs.length by simpa using h2]
      have := hv.2 i _ vs[i] hx (by simp)
      simpa using drel_v this
  subst this
  exact (h w).mono fun e w' ⟨e1, e2⟩ => by
    subst e2
    exact ⟨r, _, ρ, H, e1, ⟨rfl, rfl⟩, hH, DRel.v _ hone, .refl _⟩

theorem callable_of {f : Nat} {fn : Func} (hf : P.funcs[f]? = some fn) (h1 : fn.body.isNone = false) (h2 : (fn.name == "runtime.NumGoroutine") = false) : Callable P f := ⟨fn, hf, h1, h2⟩

theorem fin_here {N0 : Nat} {R : T → List O → Prop} {t : T} {H : List O} (hN : N0 ≤ H.length) (h : R t H) : Fin P N0 R t H :=
  ⟨t, H, ⟨hN, fun ρ w v hH ht => ⟨ρ, hH, ht, fun _ _ => rfl, fun _ h => h⟩⟩, h⟩
end Go.Aw

namespace Go.Proofs
open Go
set_option maxHeartbeats 1000000 in
set_option maxRecDepth 100000 in
theorem Try.calls66 (a b : ByteArray) (w : World) :
    Calls Try.prog 66 #[.string a, .string b] w fun e w' => e = .returned (.int .i64 (Lib.compareBytes a.data.toList b.data.toList)) ∧ w' = w := by
  have mixed := Checked.mixed Try.checked
  go_enter Try.func66, Try.ntmps66
  go_wp2
  rw [run_callFunc_extern Try.func79 (by kernel_rfl) (by kernel_rfl) (by kernel_rfl) (e := Extern.BytealgCompare.compare) (by kernel_rfl), Lib.run_compareString]
  simp only [Result.andThen]
  rw [Oper.upon_value]
  go_wp2
  go_ret
  exact ⟨rfl, rfl⟩
end Go.Proofs

/- Words for running code by rewriting. -/
namespace Go.Aw
open Go
section
variable {P : Program} {G : Gl} {X : XT} {N0 : Nat}
theorem wX_skip {st : St} {Q : Qt} : wcodeX P G X N0 .skip st Q = Q .normal st := rfl
theorem wX_region {n : Nat} {ops : List AOper} {st : St} {Q : Qt} : wcodeX P G X N0 (.region n ops) st Q = wopsX P G X st.hp.length ops (holes n st) (normQ Q) := rfl
theorem wX_dregion {n : Nat} {ops : List AOper} {after : List (List Nat)} {st : St} {Q : Qt} :
    wcodeX P G X N0 (.dregion n ops after) st Q = (drawOk (clos after) ops after = true ∧ wlex G X st.hp.length (clos after) 0 ops [] [] (holes n st) (normQ Q)) := rfl
theorem wX_seq {x y : AC} {st : St} {Q : Qt} : wcodeX P G X N0 (.seq x y) st Q = wcodeX P G X N0 x st (thenQ (wcodeX P G X N0 y) Q) := rfl
def condC (P : Program) (G : Gl) (X : XT) (N0 : Nat) (v : T) (x y : AC) (st : St) (Q : Qt) : Prop := condP v (wcodeX P G X N0 x st Q) (wcodeX P G X N0 y st Q)
theorem wX_cond {c : Operand} {x y : AC} {st : St} {Q : Qt} : wcodeX P G X N0 (.cond c x y) st Q = condC P G X N0 (ev G st.sl c) x y st Q := rfl
@[simp] theorem condC_t {x y : AC} {st : St} {Q : Qt} : condC P G X N0 (.v (.c (.d (.v (.bool true))))) x y st Q = wcodeX P G X N0 x st Q := by simp [condC, condP]
@[simp] theorem condC_f {x y : AC} {st : St} {Q : Qt} : condC P G X N0 (.v (.c (.d (.v (.bool false))))) x y st Q = wcodeX P G X N0 y st Q := by simp [condC, condP]
theorem condC_b {b : Bool} {x y : AC} {st : St} {Q : Qt} : condC P G X N0 (.v (.c (.d (.v (.bool b))))) x y st Q = ((b = true → wcodeX P G X N0 x st Q) ∧ (b = false → wcodeX P G X N0 y st Q)) := by simp [condC, condP]
theorem wX_block {id : Nat} {x : AC} {st : St} {Q : Qt} : wcodeX P G X N0 (.block id x) st Q = wcodeX P G X N0 x st (blockQ id Q) := rfl
theorem wX_exit {id : Nat} {st : St} {Q : Qt} : wcodeX P G X N0 (.exit id) st Q = Q (.exit id) st := rfl
theorem wX_ret {st : St} {Q : Qt} : wcodeX P G X N0 .ret st Q = Q .ret st := rfl
theorem thenQ_n {F : St → Qt → Prop} {Q : Qt} {s : St} : thenQ F Q .normal s = F s Q := rfl
theorem thenQ_x {F : St → Qt → Prop} {Q : Qt} {s : St} {i : Nat} : thenQ F Q (.exit i) s = Q (.exit i) s := rfl
theorem thenQ_r {F : St → Qt → Prop} {Q : Qt} {s : St} : thenQ F Q .ret s = Q .ret s := rfl
theorem blockQ_n {id : Nat} {Q : Qt} {s : St} : blockQ id Q .normal s = Q .normal s := rfl
theorem blockQ_x {id i : Nat} {Q : Qt} {s : St} : blockQ id Q (.exit i) s = if i = id then Q .normal s else Q (.exit i) s := rfl
theorem blockQ_r {id : Nat} {Q : Qt} {s : St} : blockQ id Q .ret s = Q .ret s := rfl
theorem loopN_x {I : Nat → St → Prop} {k i : Nat} {Q : Qt} {s : St} : loopN P G N0 I k Q (.exit i) s = Q (.exit i) s := rfl
theorem loopN_r {I : Nat → St → Prop} {k : Nat} {Q : Qt} {s : St} : loopN P G N0 I k Q .ret s = Q .ret s := rfl
theorem loopN_n {I : Nat → St → Prop} {k : Nat} {Q : Qt} {s : St} : loopN P G N0 I k Q .normal s = wk P G N0 s fun s'' => ∃ k', k' < k ∧ I k' s'' := rfl

/-- Some temporaries and regions kept. -/
theorem wk_pre {H L : List O} {sl : Nat → T} {K : St → Prop} (ids keep : List Nat) (hw : Wf H) (hm : selB ids L.length = true)
    (h : K ⟨ofL (keep.map fun t => (t, (sl t).ren (phiP H.length ids))), H ++ ids.map fun i => (L.getD i .dead).ren (phiP H.length ids)⟩) : wk P G H.length ⟨sl, H ++ L⟩ K :=
  ⟨_, weak_pre ids keep hw hm, h⟩

theorem wk_nil {L : List O} {sl : Nat → T} {K : St → Prop} (ids keep : List Nat) (hm : selB ids L.length = true)
    (h : K ⟨ofL (keep.map fun t => (t, (sl t).ren (phi ids))), ids.map fun i => (L.getD i .dead).ren (phi ids)⟩) : wk P G 0 ⟨sl, L⟩ K :=
  ⟨_, weak_sel (N0 := 0) (st := ⟨sl, L⟩) ids keep hm (keeps_zero _) (Nat.zero_le _), h⟩

theorem wk_weak {s s' : St} {K : St → Prop} (hw : Weak P G N0 s s') (h : wk P G N0 s' K) : wk P G N0 s K := by
  obtain ⟨s2, a, b⟩ := h; exact ⟨s2, hw.trans a, b⟩

theorem app_get0 {H L : List O} : (H ++ L)[H.length]? = L[0]? := by rw [List.getElem?_append_right (Nat.le_refl _), Nat.sub_self]
theorem app_get {H L : List O} (k : Nat) : (H ++ L)[H.length + k]? = L[k]? := by rw [List.getElem?_append_right (by omega), Nat.add_sub_cancel_left]
theorem app_set0 {H L : List O} {o : O} : (H ++ L).set H.length o = H ++ L.set 0 o := by rw [List.set_append_right _ _ (Nat.le_refl _), Nat.sub_self]
theorem app_set {H L : List O} {o : O} (k : Nat) : (H ++ L).set (H.length + k) o = H ++ L.set k o := by rw [List.set_append_right _ _ (by omega), Nat.add_sub_cancel_left]
theorem phiP_0 {N : Nat} {ids : List Nat} : phiP N ids N = match phi ids 0 with | some i => some (N + i) | none => none := by simp only [phiP, Nat.lt_irrefl, if_false, Nat.sub_self]; cases phi ids 0 <;> rfl
theorem phiP_k {N : Nat} {ids : List Nat} (k : Nat) : phiP N ids (N + k) = match phi ids k with | some i => some (N + i) | none => none := by
  unfold phiP; rw [if_neg (by omega), Nat.add_sub_cancel_left]; cases phi ids k <;> rfl
theorem fin_nil {R : T → List O → Prop} {t : T} {H : List O} (h : R (t.ren (phi [])) []) : Fin P 0 R t H :=
  fin_sel (N0 := 0) [] rfl (keeps_zero _) (Nat.zero_le _) h
theorem fin_drop {R : T → List O → Prop} {t : T} {H L : List O} (hw : Wf H) (h : R (t.ren (phiP H.length [])) H) : Fin P H.length R t (H ++ L) :=
  fin_pre [] hw rfl (by simpa using h)
theorem ofL_c {d : Nat} {t : T} {r : List (Nat × T)} {i : Nat} : ofL ((d, t) :: r) i = if i = d then t else ofL r i := rfl
theorem ofL_n {i : Nat} : ofL [] i = .v .any := rfl
theorem nth_map {α β : Type} [Inhabited α] [Inhabited β] (f : α → β) {l : List α} {i : Nat} (h : i < l.length) : nth (l.map f) i = f (nth l i) := by
  simp [nth, List.getD_eq_getElem?_getD, h]
theorem nth_eq {α : Type} [Inhabited α] {l : List α} {i : Nat} (h : i < l.length) : nth l i = l[i] := by simp [nth, List.getD_eq_getElem?_getD, h]
theorem wrap64 {n : Int} (h1 : -9223372036854775808 ≤ n) (h2 : n ≤ 9223372036854775807) : IntKind.i64.wrap n = n := by
  simp [IntKind.wrap, IntKind.bits, IntKind.signed]; omega
end
@[simp] theorem toD_v {H : List O} {x : Value} : toD H (.d (.v x)) = match x with | .slice none 0 _ => some (.sl []) | x => some (.v x) := by
  unfold toD; split <;> first | rfl | simp_all
  · rename_i e; subst e; split <;> simp_all
@[simp] theorem toD_sl {H : List O} {x : List (List D)} : toD H (.d (.sl x)) = some (.sl x) := by simp [toD]
@[simp] theorem toD_ip {H : List O} {x : List D} : toD H (.d (.ip x)) = some (.ip x) := by simp [toD]
@[simp] theorem toD_mp {H : List O} {k : KT} {x : List (Value × PVo D)} : toD H (.d (.mp k x)) = some (.mp k x) := by simp [toD]
@[simp] theorem toD_fn {H : List O} {f : Nat} {x : List D} : toD H (.d (.fn f x)) = some (.fn f x) := by simp [toD]
@[simp] theorem toD_os {H : List O} {r sz off len : Nat} : toD H (.os r sz off len) = match H[r]? with
    | some (.row sz' xs) => if sz' = sz ∧ off + len ≤ xs.length then some (.sl ((xs.drop off).take len)) else none
    | some (.frow sz' xs) => if sz' = sz ∧ off + len ≤ xs.length then some (.sl ((xs.drop off).take len)) else none
    | _ => none := by
  first | rfl | (simp only [toD]; done) | (simp only [toD]; rfl)
@[simp] theorem toB_d {n : Nat} {H : List O} {x : D} : toB n H (.d x) = toD H (.d x) := by cases n <;> simp only [toB]
@[simp] theorem toB_os {n : Nat} {H : List O} {r sz off len : Nat} : toB n H (.os r sz off len) = toD H (.os r sz off len) := by cases n <;> simp only [toB]
@[simp] theorem toB_ptr {n : Nat} {H : List O} {r off : Nat} : toB (n + 1) H (.ptr r off) = match H[r]? with
    | some (.cells cs) => (match mapO (toB n H) (cs.drop off) with | some ds => some (.ip ds) | none => none)
    | _ => none := by
  first | rfl | (simp only [toB]; done) | (simp only [toB]; rfl)
@[simp] theorem toB_eptr {n : Nat} {H : List O} {r sz i off : Nat} : toB (n + 1) H (.eptr r sz i off) = match H[r]? with
      | some (.row sz' xs) => if sz' = sz ∧ i < xs.length then some (.ip ((nth xs i).drop off)) else none
      | some (.frow sz' xs) => if sz' = sz ∧ i < xs.length then some (.ip ((nth xs i).drop off)) else none
      | _ => none := by
  first | rfl | (simp only [toB]; done) | (simp only [toB]; rfl)
@[simp] theorem toB_mp {n : Nat} {H : List O} {r : Nat} : toB (n + 1) H (.mp r) = match H[r]? with
      | some (.map kt es) => some (.mp kt es)
      | _ => none := by
  first | rfl | (simp only [toB]; done) | (simp only [toB]; rfl)
@[simp] theorem toB_fn {n : Nat} {H : List O} {f : Nat} {caps : List (Nat × Nat)} : toB (n + 1) H (.fn f caps) = match mapO (fun p : Nat × Nat => toB n H (.ptr p.1 p.2)) caps with
      | some ds => some (.fn f ds)
      | none => none := by
  first | rfl | (simp only [toB]; done) | (simp only [toB]; rfl)
@[simp] theorem borC_d {n : Nat} {H : List O} {x : D} : borC n H (.d x) = [] := by cases n <;> simp [borC, osR]
@[simp] theorem borC_os {n : Nat} {H : List O} {r sz off len : Nat} : borC n H (.os r sz off len) = [r] := by cases n <;> simp [borC, osR]
@[simp] theorem borC_eptr {n : Nat} {H : List O} {r sz off len : Nat} : borC (n + 1) H (.eptr r sz off len) = [r] := by simp [borC]
@[simp] theorem borC_mp {n : Nat} {H : List O} {r : Nat} : borC (n + 1) H (.mp r) = [r] := by simp [borC]
@[simp] theorem borC_ptr {n : Nat} {H : List O} {r off : Nat} : borC (n + 1) H (.ptr r off) = r :: (match H[r]? with
      | some (.cells cs) => (cs.drop off).flatMap (borC n H)
      | _ => []) := by
  first | rfl | (simp only [borC]; done) | (simp only [borC]; rfl)
@[simp] theorem borC_fn {n : Nat} {H : List O} {f : Nat} {caps : List (Nat × Nat)} : borC (n + 1) H (.fn f caps) = caps.flatMap fun p => borC n H (.ptr p.1 p.2) := by
  first | rfl | (simp only [borC]; done) | (simp only [borC]; rfl)
/-! ### running: each step is taken before what lies in it is looked at -/
section
variable {P : Program} {G : Gl} {X : XT} {N0 B : Nat}

/-- What an operation gave is handed on. -/
def onR (r : Option R) (sl : Nat → T) (κ : Kt) : Prop := match r with
  | some r => r.ob ∧ κ r.val ⟨sl, r.hp⟩
  | none => False
@[simp ↓] theorem onR_some {ob : Prop} {v : T} {H : List O} {sl : Nat → T} {κ : Kt} : onR (some ⟨ob, v, H⟩) sl κ = (ob ∧ κ v ⟨sl, H⟩) := rfl

/-- A slot is a truth value: so it is told in what follows. -/
def fixS (st : St) (t : Nat) (b : Bool) : St := ⟨putS st.sl t (.v (.c (.d (.v (.bool b))))), st.hp⟩
theorem fixS_same {st : St} {t : Nat} {b : Bool} (h : st.sl t = .v (.c (.d (.v (.bool b))))) : fixS st t b = st := by
  cases st with
  | mk sl hp =>
    unfold fixS
    congr 1
    funext i
    unfold putS
    split
    · rename_i e; subst e; exact h.symm
    · rfl
def condG (v : T) (t : Nat) (want : Bool) (Y N : St → Prop) (st : St) : Prop := match v with
  | .v (.c (.d (.v (.bool b)))) => (b = want → Y (fixS st t want)) ∧ (b = !want → N (fixS st t (!want)))
  | .tup [] => N st
  | _ => False
theorem condG_no {v : T} {t : Nat} {want : Bool} {Y N : St → Prop} {st : St} {A B : Prop} (hv : ∀ b, v ≠ .v (.c (.d (.v (.bool b))))) (hu : v ≠ .tup []) : condG v t want Y N st = False ∧ condW v want A B = False := by
  constructor
  · unfold condG; split
    · exact absurd rfl (hv _)
    · exact absurd rfl hu
    · rfl
  · unfold condW; split
    · exact absurd rfl (hv _)
    · exact absurd rfl hu
    · rfl
theorem condG_eq {t : Nat} {want : Bool} {Y N : St → Prop} {st : St} : condG (st.sl t) t want Y N st = condW (st.sl t) want (Y st) (N st) := by
  by_cases h : ∃ b, st.sl t = .v (.c (.d (.v (.bool b))))
  · obtain ⟨b, hb⟩ := h
    have e1 : condG (st.sl t) t want Y N st = ((b = want → Y (fixS st t want)) ∧ (b = !want → N (fixS st t (!want)))) := by rw [hb]; rfl
    have e2 : condW (st.sl t) want (Y st) (N st) = ((b = want → Y st) ∧ (b = !want → N st)) := by rw [hb]; rfl
    rw [e1, e2]
    apply propext
    constructor
    · rintro ⟨h1, h2⟩
      exact ⟨fun e => by have := h1 e; rwa [fixS_same (e ▸ hb)] at this, fun e => by have := h2 e; rwa [fixS_same (e ▸ hb)] at this⟩
    · rintro ⟨h1, h2⟩
      exact ⟨fun e => by rw [fixS_same (e ▸ hb)]; exact h1 e, fun e => by rw [fixS_same (e ▸ hb)]; exact h2 e⟩
  · have hv : ∀ b, st.sl t ≠ .v (.c (.d (.v (.bool b)))) := fun b e => h ⟨b, e⟩
    by_cases hu : st.sl t = .tup []
    · rw [hu]; rfl
    · rw [(condG_no (A := Y st) (B := N st) hv hu).1, (condG_no (t := t) (Y := Y) (N := N) (st := st) hv hu).2]
theorem condG_tt {t : Nat} {Y N : St → Prop} {st : St} : condG (.v (.c (.d (.v (.bool true))))) t true Y N st = Y ⟨putS st.sl t (.v (.c (.d (.v (.bool true))))), st.hp⟩ := by simp [condG, fixS]
theorem condG_ff {t : Nat} {Y N : St → Prop} {st : St} : condG (.v (.c (.d (.v (.bool false))))) t false Y N st = Y ⟨putS st.sl t (.v (.c (.d (.v (.bool false))))), st.hp⟩ := by simp [condG, fixS]
theorem condG_tf {t : Nat} {Y N : St → Prop} {st : St} : condG (.v (.c (.d (.v (.bool true))))) t false Y N st = N ⟨putS st.sl t (.v (.c (.d (.v (.bool true))))), st.hp⟩ := by simp [condG, fixS]
theorem condG_ft {t : Nat} {Y N : St → Prop} {st : St} : condG (.v (.c (.d (.v (.bool false))))) t true Y N st = N ⟨putS st.sl t (.v (.c (.d (.v (.bool false))))), st.hp⟩ := by simp [condG, fixS]
theorem condG_b {t : Nat} {want b : Bool} {Y N : St → Prop} {st : St} : condG (.v (.c (.d (.v (.bool b))))) t want Y N st =
    ((b = want → Y ⟨putS st.sl t (.v (.c (.d (.v (.bool want))))), st.hp⟩) ∧ (b = !want → N ⟨putS st.sl t (.v (.c (.d (.v (.bool (!want)))))), st.hp⟩)) := by simp [condG, fixS]

@[simp] theorem condP_t {Y N : Prop} : condP (.v (.c (.d (.v (.bool true))))) Y N = Y := by simp [condP]
@[simp] theorem condP_f {Y N : Prop} : condP (.v (.c (.d (.v (.bool false))))) Y N = N := by simp [condP]
theorem condP_b {b : Bool} {Y N : Prop} : condP (.v (.c (.d (.v (.bool b))))) Y N = ((b = true → Y) ∧ (b = false → N)) := by simp [condP]

def putO (sl : Nat → T) (d : Option Nat) (t : T) : Nat → T := match d with
  | some d => putS sl d t
  | none => sl
theorem put_eq {st : St} {d : Option Nat} {t : T} : st.put d t = ⟨putO st.sl d t, st.hp⟩ := by cases d <;> rfl
@[simp] theorem putO_some {sl : Nat → T} {d : Nat} {t : T} : putO sl (some d) t = putS sl d t := by unfold putO; rfl
@[simp] theorem putO_none {sl : Nat → T} {t : T} : putO sl none t = sl := by unfold putO; rfl
@[simp ↓] theorem wopsX_nil {st : St} {k : St → Prop} : wopsX P G X B [] st k = k st := rfl
/-- What comes behind an operation. -/
def contX (P : Program) (G : Gl) (X : XT) (B : Nat) (d : Option Nat) (r : List AOper) (k : St → Prop) : Kt := fun t s => wopsX P G X B r ⟨putO s.sl d t, s.hp⟩ k
@[simp ↓] theorem contX_app {d : Option Nat} {r : List AOper} {k : St → Prop} {t : T} {sl : Nat → T} {H : List O} : contX P G X B d r k t ⟨sl, H⟩ = wopsX P G X B r ⟨putO sl d t, H⟩ k := rfl
@[simp ↓] theorem wopsX_cons {d : Option Nat} {a : A} {r : List AOper} {st : St} {k : St → Prop} : wopsX P G X B (⟨d, a, none⟩ :: r) st k = wopX P G X B a st (contX P G X B d r k) := by
  show wopX P G X B a st (fun t s => wopsX P G X B r (s.put d t) k) = _
  simp only [put_eq]; rfl
def gopX (P : Program) (G : Gl) (X : XT) (B : Nat) (v : T) (t : Nat) (want : Bool) (d : Option Nat) (a : A) (r : List AOper) (st : St) (k : St → Prop) : Prop :=
  condG v t want (fun st => wopX P G X B a st (contX P G X B d r k)) (fun st => wopsX P G X B r ⟨putO st.sl d (.tup []), st.hp⟩ k) st
@[simp ↓] theorem wopsX_g {d : Option Nat} {a : A} {t : Nat} {want : Bool} {r : List AOper} {st : St} {k : St → Prop} : wopsX P G X B (⟨d, a, some (t, want)⟩ :: r) st k =
    gopX P G X B (st.sl t) t want d a r st k := by
  unfold gopX
  rw [condG_eq]
  show condW _ _ (wopX P G X B a st (fun t s => wopsX P G X B r (s.put d t) k)) (wopsX P G X B r (st.put d (.tup [])) k) = _
  simp only [put_eq]; rfl
section
variable {d : Option Nat} {a : A} {t : Nat} {r : List AOper} {st : St} {k : St → Prop}
@[simp] theorem gopX_tt : gopX P G X B (.v (.c (.d (.v (.bool true))))) t true d a r st k = wopX P G X B a ⟨putS st.sl t (.v (.c (.d (.v (.bool true))))), st.hp⟩ (contX P G X B d r k) := by simp only [gopX, condG_tt]
@[simp] theorem gopX_ff : gopX P G X B (.v (.c (.d (.v (.bool false))))) t false d a r st k = wopX P G X B a ⟨putS st.sl t (.v (.c (.d (.v (.bool false))))), st.hp⟩ (contX P G X B d r k) := by simp only [gopX, condG_ff]
@[simp] theorem gopX_tf : gopX P G X B (.v (.c (.d (.v (.bool true))))) t false d a r st k = wopsX P G X B r ⟨putO (putS st.sl t (.v (.c (.d (.v (.bool true)))))) d (.tup []), st.hp⟩ k := by simp only [gopX, condG_tf]
@[simp] theorem gopX_u {want : Bool} : gopX P G X B (.tup []) t want d a r st k = wopsX P G X B r ⟨putO st.sl d (.tup []), st.hp⟩ k := rfl
@[simp] theorem gopX_ft : gopX P G X B (.v (.c (.d (.v (.bool false))))) t true d a r st k = wopsX P G X B r ⟨putO (putS st.sl t (.v (.c (.d (.v (.bool false)))))) d (.tup []), st.hp⟩ k := by simp only [gopX, condG_ft]
theorem gopX_b {want b : Bool} : gopX P G X B (.v (.c (.d (.v (.bool b))))) t want d a r st k =
    ((b = want → wopX P G X B a ⟨putS st.sl t (.v (.c (.d (.v (.bool want))))), st.hp⟩ (contX P G X B d r k)) ∧ (b = !want → wopsX P G X B r ⟨putO (putS st.sl t (.v (.c (.d (.v (.bool (!want))))))) d (.tup []), st.hp⟩ k)) := by simp only [gopX, condG_b]
end

/-- Operations that are not calls, not choices. -/
theorem wopX_on {a : A} {st : St} {κ : Kt} (h : a.plain = true) : wopX P G X B a st κ = onR (fop B st.hp (ev G st.sl) a) st.sl κ := by
  rw [wopX_same (by cases a <;> first | rfl | cases h), wop_plain h]; rfl
@[simp ↓] theorem wopX_mov {x : Operand} {st : St} {κ : Kt} : wopX P G X B (.mov x) st κ = onR (fop B st.hp (ev G st.sl) (.mov x)) st.sl κ := wopX_on rfl
@[simp ↓] theorem wopX_box {j : Nat} {x : Operand} {st : St} {κ : Kt} : wopX P G X B (.box j x) st κ = onR (fop B st.hp (ev G st.sl) (.box j x)) st.sl κ := wopX_on rfl
@[simp ↓] theorem wopX_zero {j : Nat} {z : List D} {st : St} {κ : Kt} : wopX P G X B (.zero j z) st κ = onR (fop B st.hp (ev G st.sl) (.zero j z)) st.sl κ := wopX_on rfl
@[simp ↓] theorem wopX_build {z : List D} {parts : List (Nat × Nat × Operand)} {st : St} {κ : Kt} : wopX P G X B (.build z parts) st κ = onR (fop B st.hp (ev G st.sl) (.build z parts)) st.sl κ := wopX_on rfl
@[simp ↓] theorem wopX_bsl {j sz : Nat} {z : List D} {len : Nat} {parts : List (Nat × Operand)} {st : St} {κ : Kt} : wopX P G X B (.bsl j sz z len parts) st κ = onR (fop B st.hp (ev G st.sl) (.bsl j sz z len parts)) st.sl κ := wopX_on rfl
@[simp ↓] theorem wopX_load {agg : Bool} {n : Nat} {x : Operand} {st : St} {κ : Kt} : wopX P G X B (.load agg n x) st κ = onR (fop B st.hp (ev G st.sl) (.load agg n x)) st.sl κ := wopX_on rfl
@[simp ↓] theorem wopX_store {n : Nat} {x v : Operand} {st : St} {κ : Kt} : wopX P G X B (.store n x v) st κ = onR (fop B st.hp (ev G st.sl) (.store n x v)) st.sl κ := wopX_on rfl
@[simp ↓] theorem wopX_chk {x : Operand} {st : St} {κ : Kt} : wopX P G X B (.chk x) st κ = onR (fop B st.hp (ev G st.sl) (.chk x)) st.sl κ := wopX_on rfl
@[simp ↓] theorem wopX_binI {op : BinOp} {k : IntKind} {x y : Operand} {st : St} {κ : Kt} : wopX P G X B (.binI op k x y) st κ = onR (fop B st.hp (ev G st.sl) (.binI op k x y)) st.sl κ := wopX_on rfl
@[simp ↓] theorem wopX_shf {op : BinOp} {k : IntKind} {x y : Operand} {st : St} {κ : Kt} : wopX P G X B (.shf op k x y) st κ = onR (fop B st.hp (ev G st.sl) (.shf op k x y)) st.sl κ := wopX_on rfl
@[simp ↓] theorem wopX_binS {op : BinOp} {x y : Operand} {st : St} {κ : Kt} : wopX P G X B (.binS op x y) st κ = onR (fop B st.hp (ev G st.sl) (.binS op x y)) st.sl κ := wopX_on rfl
@[simp ↓] theorem wopX_eqB {neg : Bool} {x y : Operand} {st : St} {κ : Kt} : wopX P G X B (.eqB neg x y) st κ = onR (fop B st.hp (ev G st.sl) (.eqB neg x y)) st.sl κ := wopX_on rfl
@[simp ↓] theorem wopX_eqA {neg : Bool} {ks : List SK} {x y : Operand} {st : St} {κ : Kt} : wopX P G X B (.eqA neg ks x y) st κ = onR (fop B st.hp (ev G st.sl) (.eqA neg ks x y)) st.sl κ := wopX_on rfl
@[simp ↓] theorem wopX_not {x : Operand} {st : St} {κ : Kt} : wopX P G X B (.not x) st κ = onR (fop B st.hp (ev G st.sl) (.not x)) st.sl κ := wopX_on rfl
@[simp ↓] theorem wopX_neg {k : IntKind} {x : Operand} {st : St} {κ : Kt} : wopX P G X B (.neg k x) st κ = onR (fop B st.hp (ev G st.sl) (.neg k x)) st.sl κ := wopX_on rfl
@[simp ↓] theorem wopX_conv {k : IntKind} {x : Operand} {st : St} {κ : Kt} : wopX P G X B (.conv k x) st κ = onR (fop B st.hp (ev G st.sl) (.conv k x)) st.sl κ := wopX_on rfl
@[simp ↓] theorem wopX_mkfn {f : Nat} {caps : List Operand} {st : St} {κ : Kt} : wopX P G X B (.mkfn f caps) st κ = onR (fop B st.hp (ev G st.sl) (.mkfn f caps)) st.sl κ := wopX_on rfl
@[simp ↓] theorem wopX_mkmap {j : Nat} {kt : KT} {st : St} {κ : Kt} : wopX P G X B (.mkmap j kt) st κ = onR (fop B st.hp (ev G st.sl) (.mkmap j kt)) st.sl κ := wopX_on rfl
@[simp ↓] theorem wopX_mksl {j sz bytes : Nat} {z : List D} {l c : Operand} {st : St} {κ : Kt} : wopX P G X B (.mksl j sz bytes z l c) st κ = onR (fop B st.hp (ev G st.sl) (.mksl j sz bytes z l c)) st.sl κ := wopX_on rfl
@[simp ↓] theorem wopX_sliceS {x : Operand} {lo hi : Option Operand} {st : St} {κ : Kt} : wopX P G X B (.sliceS x lo hi) st κ = onR (fop B st.hp (ev G st.sl) (.sliceS x lo hi)) st.sl κ := wopX_on rfl
@[simp ↓] theorem wopX_slice {sz : Nat} {x : Operand} {lo hi : Option Operand} {st : St} {κ : Kt} : wopX P G X B (.slice sz x lo hi) st κ = onR (fop B st.hp (ev G st.sl) (.slice sz x lo hi)) st.sl κ := wopX_on rfl
@[simp ↓] theorem wopX_faddr {off : Nat} {x : Operand} {st : St} {κ : Kt} : wopX P G X B (.faddr off x) st κ = onR (fop B st.hp (ev G st.sl) (.faddr off x)) st.sl κ := wopX_on rfl
@[simp ↓] theorem wopX_field {agg : Bool} {n off : Nat} {x : Operand} {st : St} {κ : Kt} : wopX P G X B (.field agg n off x) st κ = onR (fop B st.hp (ev G st.sl) (.field agg n off x)) st.sl κ := wopX_on rfl
@[simp ↓] theorem wopX_iaddr {sz : Nat} {x i : Operand} {st : St} {κ : Kt} : wopX P G X B (.iaddr sz x i) st κ = onR (fop B st.hp (ev G st.sl) (.iaddr sz x i)) st.sl κ := wopX_on rfl
@[simp ↓] theorem wopX_index {x i : Operand} {st : St} {κ : Kt} : wopX P G X B (.index x i) st κ = onR (fop B st.hp (ev G st.sl) (.index x i)) st.sl κ := wopX_on rfl
@[simp ↓] theorem wopX_look {kt : KT} {z : PV} {x k : Operand} {ok : Bool} {st : St} {κ : Kt} : wopX P G X B (.look kt z x k ok) st κ = onR (fop B st.hp (ev G st.sl) (.look kt z x k ok)) st.sl κ := wopX_on rfl
@[simp ↓] theorem wopX_mapup {kt : KT} {m k v : Operand} {st : St} {κ : Kt} : wopX P G X B (.mapup kt m k v) st κ = onR (fop B st.hp (ev G st.sl) (.mapup kt m k v)) st.sl κ := wopX_on rfl
@[simp ↓] theorem wopX_mapdel {kt : KT} {m k : Operand} {st : St} {κ : Kt} : wopX P G X B (.mapdel kt m k) st κ = onR (fop B st.hp (ev G st.sl) (.mapdel kt m k)) st.sl κ := wopX_on rfl
@[simp ↓] theorem wopX_ext {x : Operand} {i : Nat} {st : St} {κ : Kt} : wopX P G X B (.ext x i) st κ = onR (fop B st.hp (ev G st.sl) (.ext x i)) st.sl κ := wopX_on rfl
@[simp ↓] theorem wopX_lenS {x : Operand} {st : St} {κ : Kt} : wopX P G X B (.lenS x) st κ = onR (fop B st.hp (ev G st.sl) (.lenS x)) st.sl κ := wopX_on rfl
@[simp ↓] theorem wopX_lenL {x : Operand} {st : St} {κ : Kt} : wopX P G X B (.lenL x) st κ = onR (fop B st.hp (ev G st.sl) (.lenL x)) st.sl κ := wopX_on rfl
@[simp ↓] theorem wopX_lenM {x : Operand} {st : St} {κ : Kt} : wopX P G X B (.lenM x) st κ = onR (fop B st.hp (ev G st.sl) (.lenM x)) st.sl κ := wopX_on rfl
@[simp ↓] theorem wopX_app {j sz bytes : Nat} {s x : Operand} {st : St} {κ : Kt} : wopX P G X B (.app j sz bytes s x) st κ = onR (fop B st.hp (ev G st.sl) (.app j sz bytes s x)) st.sl κ := wopX_on rfl
@[simp ↓] theorem wopX_maxmin {mx : Bool} {k : IntKind} {x y : Operand} {st : St} {κ : Kt} : wopX P G X B (.maxmin mx k x y) st κ = onR (fop B st.hp (ev G st.sl) (.maxmin mx k x y)) st.sl κ := wopX_on rfl
@[simp ↓] theorem wopX_clr {sz : Nat} {z : List D} {x : Operand} {st : St} {κ : Kt} : wopX P G X B (.clr sz z x) st κ = onR (fop B st.hp (ev G st.sl) (.clr sz z x)) st.sl κ := wopX_on rfl
def pickK (c a b : T) (st : St) (κ : Kt) : Prop := condP c (κ a st) (κ b st)
@[simp ↓] theorem wopX_pick {c a b : Operand} {st : St} {κ : Kt} : wopX P G X B (.pick c a b) st κ = pickK (ev G st.sl c) (ev G st.sl a) (ev G st.sl b) st κ := rfl
@[simp] theorem pickK_t {a b : T} {st : St} {κ : Kt} : pickK (.v (.c (.d (.v (.bool true))))) a b st κ = κ a st := by simp [pickK, condP]
@[simp] theorem pickK_f {a b : T} {st : St} {κ : Kt} : pickK (.v (.c (.d (.v (.bool false))))) a b st κ = κ b st := by simp [pickK, condP]
theorem pickK_b {x : Bool} {a b : T} {st : St} {κ : Kt} : pickK (.v (.c (.d (.v (.bool x))))) a b st κ = ((x = true → κ a st) ∧ (x = false → κ b st)) := by simp [pickK, condP]

/-- Is a slice nil? An empty one may be. -/
def onNil (ng : Bool) (k : NK) (v : T) (r : Option R) (st : St) (κ : Kt) : Prop := match k, v with
    | .sl, .v (.c (.d (.sl xs))) => ∀ b, (xs ≠ [] → b = false) → κ (.bool (if ng then !b else b)) st
    | .sl, .v (.c (.os _ _ _ len)) => ∀ b, (len ≠ 0 → b = false) → κ (.bool (if ng then !b else b)) st
    | _, _ => onR r st.sl κ
@[simp ↓] theorem wopX_eqN {ng : Bool} {k : NK} {x : Operand} {st : St} {κ : Kt} : wopX P G X B (.eqN ng k x) st κ = onNil ng k (ev G st.sl x) (fop B st.hp (ev G st.sl) (.eqN ng k x)) st κ := by
  simp only [wopX]; unfold onNil onR
  generalize ev G st.sl x = v
  cases k <;> first | rfl | skip
  cases v with
  | tup vs => rfl
  | v u =>
    cases u with
    | any => rfl
    | agg _ => rfl
    | c x => cases x <;> first | rfl | (rename_i y; cases y <;> rfl)
@[simp ↓] theorem onNil_sl {ng : Bool} {xs : List (List D)} {r : Option R} {st : St} {κ : Kt} : onNil ng .sl (.v (.c (.d (.sl xs)))) r st κ = ∀ b, (xs ≠ [] → b = false) → κ (.bool (if ng then !b else b)) st := rfl
@[simp ↓] theorem onNil_os {ng : Bool} {q sz off len : Nat} {r : Option R} {st : St} {κ : Kt} : onNil ng .sl (.v (.c (.os q sz off len))) r st κ = ∀ b, (len ≠ 0 → b = false) → κ (.bool (if ng then !b else b)) st := rfl
@[simp ↓] theorem onNil_v {ng : Bool} {k : NK} {x : Value} {r : Option R} {st : St} {κ : Kt} : onNil ng k (.v (.c (.d (.v x)))) r st κ = onR r st.sl κ := by cases k <;> rfl
@[simp ↓] theorem onNil_ifc {ng : Bool} {k : NK} {r : Option R} {st : St} {κ : Kt} : onNil ng k (.v (.c .ifc)) r st κ = onR r st.sl κ := by cases k <;> rfl
@[simp ↓] theorem onNil_mp {ng : Bool} {k : NK} {q : Nat} {r : Option R} {st : St} {κ : Kt} : onNil ng k (.v (.c (.mp q))) r st κ = onR r st.sl κ := by cases k <;> rfl
@[simp ↓] theorem onNil_ptr {ng : Bool} {k : NK} {q off : Nat} {r : Option R} {st : St} {κ : Kt} : onNil ng k (.v (.c (.ptr q off))) r st κ = onR r st.sl κ := by cases k <;> rfl

/-- A call: its callee and arguments first. -/
def onCall (P : Program) (G : Gl) (X : XT) (c : Option (Nat × List V)) (st : St) (κ : Kt) : Prop := match c with
  | some (f, vs) => callX P G X f vs st κ
  | none => False
@[simp ↓] theorem wopX_call {f : Nat} {args : List Operand} {st : St} {κ : Kt} : wopX P G X B (.call f args) st κ = onCall P G X (calleeOf G st.sl (.call f args)) st κ := by
  simp only [wopX, calleeOf]; unfold onCall; cases argsOf (args.map (ev G st.sl)) <;> rfl
@[simp ↓] theorem wopX_callv {f : Operand} {args : List Operand} {st : St} {κ : Kt} : wopX P G X B (.callv f args) st κ = onCall P G X (calleeOf G st.sl (.callv f args)) st κ := by
  simp only [wopX, calleeOf]; unfold onCall
  split
  · rfl
  · rfl
  · rfl
def onSR (P : Program) (G : Gl) (f : Nat) (vs : List V) (r : Option SR) (st : St) (κ : Kt) : Prop := match r with
  | some r => r.ob ∧ κ r.val ⟨st.sl, r.hp⟩
  | none => ACalls P G f vs st.hp (callK st.sl κ)
@[simp ↓] theorem onSR_some {f : Nat} {vs : List V} {rd wr : List Nat} {ob : Prop} {v : T} {H : List O} {st : St} {κ : Kt} : onSR P G f vs (some ⟨rd, wr, ob, v, H⟩) st κ = (ob ∧ κ v ⟨st.sl, H⟩) := rfl
@[simp ↓] theorem onSR_none {f : Nat} {vs : List V} {st : St} {κ : Kt} : onSR P G f vs none st κ = ACalls P G f vs st.hp (callK st.sl κ) := rfl
@[simp ↓] theorem onCall_some {f : Nat} {vs : List V} {st : St} {κ : Kt} : onCall P G X (some (f, vs)) st κ = onSR P G f vs (callF X st.hp f vs) st κ := by
  show callX P G X f vs st κ = _
  unfold callX onSR; cases callF X st.hp f vs <;> rfl

@[simp ↓] theorem wlex_nil {cl : List (List Nat)} {i : Nat} {Ws Rs : List (Nat × List Nat)} {st : St} {k : St → Prop} : wlex G X B cl i [] Ws Rs st k = k st := rfl
/-- The rest, what was looked at and written told first. -/
def nxL (G : Gl) (X : XT) (B : Nat) (cl : List (List Nat)) (i : Nat) (r : List AOper) (Ws Rs : List (Nat × List Nat)) (st : St) (k : St → Prop) : Prop := wlex G X B cl i r Ws Rs st k
@[simp] theorem nxL_go {cl : List (List Nat)} {i : Nat} {r : List AOper} {Ws Rs : List (Nat × List Nat)} {st : St} {k : St → Prop} : nxL G X B cl i r Ws Rs st k = wlex G X B cl i r Ws Rs st k := rfl
def onLex (G : Gl) (X : XT) (B : Nat) (cl : List (List Nat)) (i : Nat) (d : Option Nat) (s : Option SR) (r : List AOper) (Ws Rs : List (Nat × List Nat)) (st : St) (k : St → Prop) : Prop := match s with
  | some s => s.ob ∧ apW cl i (s.rd ++ s.wr) Ws ∧ apW cl i s.wr Rs ∧ wlex G X B cl (i + 1) r (addH i s.wr Ws) (addH i s.rd Rs) ((St.mk st.sl s.hp).put d s.val) k
  | none => False
@[simp ↓] theorem onLex_some {cl : List (List Nat)} {i : Nat} {d : Option Nat} {rd wr : List Nat} {ob : Prop} {v : T} {H : List O} {r : List AOper} {Ws Rs : List (Nat × List Nat)} {st : St} {k : St → Prop} :
    onLex G X B cl i d (some ⟨rd, wr, ob, v, H⟩) r Ws Rs st k = (ob ∧ apW cl i (rd ++ wr) Ws ∧ apW cl i wr Rs ∧ nxL G X B cl (i + 1) r (addH i wr Ws) (addH i rd Rs) ⟨putO st.sl d v, H⟩ k) := by
  have : (St.mk st.sl H).put d v = ⟨putO st.sl d v, H⟩ := put_eq
  rw [← this]; rfl
@[simp ↓] theorem wlex_cons {cl : List (List Nat)} {i : Nat} {d : Option Nat} {a : A} {r : List AOper} {Ws Rs : List (Nat × List Nat)} {st : St} {k : St → Prop} :
    wlex G X B cl i (⟨d, a, none⟩ :: r) Ws Rs st k = onLex G X B cl i d (stepX G X B st a) r Ws Rs st k := by
  simp only [wlex]; unfold onLex; cases stepX G X B st a <;> rfl
def glexX (G : Gl) (X : XT) (B : Nat) (cl : List (List Nat)) (i : Nat) (v : T) (t : Nat) (want : Bool) (d : Option Nat) (a : A) (r : List AOper) (Ws Rs : List (Nat × List Nat)) (st : St) (k : St → Prop) : Prop :=
  condG v t want (fun st => onLex G X B cl i d (stepX G X B st a) r Ws Rs st k) (fun st => wlex G X B cl (i + 1) r Ws Rs ⟨putO st.sl d (.tup []), st.hp⟩ k) st
section
variable {cl : List (List Nat)} {i : Nat} {d : Option Nat} {a : A} {t : Nat} {r : List AOper} {Ws Rs : List (Nat × List Nat)} {st : St} {k : St → Prop}
@[simp ↓] theorem wlex_g {want : Bool} : wlex G X B cl i (⟨d, a, some (t, want)⟩ :: r) Ws Rs st k = glexX G X B cl i (st.sl t) t want d a r Ws Rs st k := by
  unfold glexX
  rw [condG_eq]; simp only [← put_eq]; simp only [wlex]; unfold onLex; cases stepX G X B st a <;> rfl
@[simp] theorem glexX_tt : glexX G X B cl i (.v (.c (.d (.v (.bool true))))) t true d a r Ws Rs st k = onLex G X B cl i d (stepX G X B ⟨putS st.sl t (.v (.c (.d (.v (.bool true))))), st.hp⟩ a) r Ws Rs ⟨putS st.sl t (.v (.c (.d (.v (.bool true))))), st.hp⟩ k := by simp only [glexX, condG_tt]
@[simp] theorem glexX_ff : glexX G X B cl i (.v (.c (.d (.v (.bool false))))) t false d a r Ws Rs st k = onLex G X B cl i d (stepX G X B ⟨putS st.sl t (.v (.c (.d (.v (.bool false))))), st.hp⟩ a) r Ws Rs ⟨putS st.sl t (.v (.c (.d (.v (.bool false))))), st.hp⟩ k := by simp only [glexX, condG_ff]
@[simp] theorem glexX_tf : glexX G X B cl i (.v (.c (.d (.v (.bool true))))) t false d a r Ws Rs st k = wlex G X B cl (i + 1) r Ws Rs ⟨putO (putS st.sl t (.v (.c (.d (.v (.bool true)))))) d (.tup []), st.hp⟩ k := by simp only [glexX, condG_tf]
@[simp] theorem glexX_u {want : Bool} : glexX G X B cl i (.tup []) t want d a r Ws Rs st k = wlex G X B cl (i + 1) r Ws Rs ⟨putO st.sl d (.tup []), st.hp⟩ k := rfl
@[simp] theorem glexX_ft : glexX G X B cl i (.v (.c (.d (.v (.bool false))))) t true d a r Ws Rs st k = wlex G X B cl (i + 1) r Ws Rs ⟨putO (putS st.sl t (.v (.c (.d (.v (.bool false)))))) d (.tup []), st.hp⟩ k := by simp only [glexX, condG_ft]
theorem glexX_b {want b : Bool} : glexX G X B cl i (.v (.c (.d (.v (.bool b))))) t want d a r Ws Rs st k =
    ((b = want → onLex G X B cl i d (stepX G X B ⟨putS st.sl t (.v (.c (.d (.v (.bool want))))), st.hp⟩ a) r Ws Rs ⟨putS st.sl t (.v (.c (.d (.v (.bool want))))), st.hp⟩ k) ∧ (b = !want → wlex G X B cl (i + 1) r Ws Rs ⟨putO (putS st.sl t (.v (.c (.d (.v (.bool (!want))))))) d (.tup []), st.hp⟩ k)) := by simp only [glexX, condG_b]
end
end
attribute [simp ↓] wX_skip wX_region wX_dregion wX_seq wX_cond wX_block wX_exit wX_ret thenQ_n thenQ_x thenQ_r blockQ_n blockQ_x blockQ_r loopN_x loopN_r loopN_n normQ
@[simp] theorem ev_tmp {G : Gl} {s : Nat → T} {t : Nat} : ev G s (.tmp t) = s t := rfl
@[simp] theorem ev_const {G : Gl} {s : Nat → T} {v : Value} : ev G s (.const v) = cv v := rfl
@[simp] theorem ev_func {G : Gl} {s : Nat → T} {f : Nat} : ev G s (.func f) = .v (.c (.fn f [])) := rfl
@[simp] theorem ev_global {G : Gl} {s : Nat → T} {g : Nat} : ev G s (.global g) = (match G g with | some cs => .v (.c (.d (.ip cs))) | none => .v .any) := rfl
attribute [simp] stepX calleeOf fop foot cv argSl holes St.put putS_eq ofL_c ofL_n binIF retQ resL resV resT argsOf nrm nrmC callF xget toBVs mapO toBV V.known V.cells ptrTo valOf fillR toDs frz frz1 apW addH osT osR borVs borV T.ren V.ren C.ren app_get0 app_get app_set0 app_set phiP_0 phiP_k
attribute [simp low] condP_b condC_b gopX_b glexX_b pickK_b
end Go.Aw

/- An element moved down a list. -/
namespace Go.Aw
section
variable {E : Type} [Inhabited E]
def mv (es : List E) (i j : Nat) : List E := es.take j ++ (nth es i :: ((es.drop j).take (i - j) ++ es.drop (i + 1)))
theorem mv_get (es : List E) {i j : Nat} (hj : j ≤ i) (hi : i < es.length) (k : Nat) :
    (mv es i j)[k]? = if k < j then es[k]? else if k = j then some (nth es i) else if k ≤ i then es[k - 1]? else es[k]? := by
  unfold mv
  rw [List.getElem?_append]
  have hl : (es.take j).length = j := by simp; omega
  rw [hl]
  by_cases h1 : k < j
  · rw [if_pos h1, if_pos h1, List.getElem?_take, if_pos h1]
  · rw [if_neg h1, if_neg h1]
    by_cases h2 : k = j
    · rw [if_pos h2, h2]; simp
    · rw [if_neg h2, show k - j = (k - j - 1) + 1 by omega, List.getElem?_cons_succ, List.getElem?_append]
      have hl2 : ((es.drop j).take (i - j)).length = i - j := by simp; omega
      rw [hl2]
      by_cases h3 : k ≤ i
      · rw [if_pos h3, if_pos (by omega), List.getElem?_take, if_pos (by omega), List.getElem?_drop]; congr 1; omega
      · rw [if_neg h3, if_neg (by omega), List.getElem?_drop]; congr 1; omega
theorem mv_len (es : List E) {i j : Nat} (hj : j ≤ i) (hi : i < es.length) : (mv es i j).length = es.length := by
  unfold mv; simp; omega
theorem mv_self (es : List E) {i : Nat} (hi : i < es.length) : mv es i i = es := by
  apply List.ext_getElem?
  intro k
  rw [mv_get es (Nat.le_refl _) hi]
  by_cases h1 : k < i
  · rw [if_pos h1]
  · rw [if_neg h1]
    by_cases h2 : k = i
    · rw [if_pos h2, h2]; simp [nth, List.getD_eq_getElem?_getD, hi]
    · rw [if_neg h2, if_neg (by omega)]
theorem nth_of_get {l : List E} {k : Nat} {x : E} (h : l[k]? = some x) : nth l k = x := by simp [nth, List.getD_eq_getElem?_getD, h]
theorem get_nth {l : List E} {k : Nat} (h : k < l.length) : l[k]? = some (nth l k) := by simp [nth, List.getD_eq_getElem?_getD, h]
theorem mv_at (es : List E) {i j : Nat} (hj : j ≤ i) (hi : i < es.length) : nth (mv es i j) j = nth es i :=
  nth_of_get (by rw [mv_get es hj hi, if_neg (by omega), if_pos rfl])
theorem mv_pred (es : List E) {i j : Nat} (hj : j ≤ i) (hi : i < es.length) (h0 : 0 < j) : nth (mv es i j) (j - 1) = nth es (j - 1) :=
  nth_of_get (by rw [mv_get es hj hi, if_pos (by omega), get_nth (by omega)])
theorem mv_swap (es : List E) {i j : Nat} (hj : j ≤ i) (hi : i < es.length) (h0 : 0 < j) : ((mv es i j).set j (nth es (j - 1))).set (j - 1) (nth es i) = mv es i (j - 1) := by
  apply List.ext_getElem?
  intro k
  have hl := mv_len es hj hi
  rw [mv_get es (by omega) hi, List.getElem?_set, List.getElem?_set, List.length_set, hl, mv_get es hj hi]
  by_cases h1 : j - 1 = k
  · rw [if_pos h1, if_pos (by omega), if_neg (by omega), if_pos h1.symm]
  · rw [if_neg h1]
    by_cases h2 : j = k
    · rw [if_pos h2, if_pos (by omega), if_neg (by omega), if_neg (by omega), if_pos (by omega), ← h2, get_nth (by omega)]
    · rw [if_neg h2]
      by_cases h3 : k < j
      · rw [if_pos h3, if_pos (by omega)]
      · rw [if_neg h3, if_neg (show ¬ k = j by omega)]
        by_cases h4 : k ≤ i
        · rw [if_pos h4, if_neg (show ¬ k < j - 1 by omega), if_neg (show ¬ k = j - 1 by omega)]
        · rw [if_neg h4, if_neg (show ¬ k < j - 1 by omega), if_neg (show ¬ k = j - 1 by omega)]
end
end Go.Aw

/- Stable sorting, in plain lists: sorted, and of each class the elements in their order; such a list is unique. -/
namespace Go.Aw
section
variable {E : Type}

/-- A comparison that orders, its equals in classes. -/
structure Pre (cmp : E → E → Int) : Prop where
  sgn : ∀ a b, cmp a b < 0 ↔ 0 < cmp b a
  tr : ∀ a b c, cmp a b ≤ 0 → cmp b c ≤ 0 → cmp a c ≤ 0

variable {cmp : E → E → Int}
theorem Pre.rf (h : Pre cmp) (a : E) : cmp a a = 0 := by have := h.sgn a a; omega
theorem Pre.le_of_not (h : Pre cmp) {a b : E} (k : ¬ cmp a b < 0) : cmp b a ≤ 0 := by have := h.sgn a b; have := h.sgn b a; omega
theorem Pre.not_lt (h : Pre cmp) {a b : E} (k : cmp b a ≤ 0) : ¬ cmp a b < 0 := by have := h.sgn a b; omega
theorem Pre.lt_le (h : Pre cmp) {a b c : E} (k : cmp a b < 0) (l : cmp b c ≤ 0) : cmp a c < 0 := by
  have h1 := h.tr a b c (by omega) l
  have : ¬ cmp c a ≤ 0 := fun q => by
    have := h.tr b c a l q
    have := h.sgn a b
    omega
  have := h.sgn a c; omega
theorem Pre.le_lt (h : Pre cmp) {a b c : E} (k : cmp a b ≤ 0) (l : cmp b c < 0) : cmp a c < 0 := by
  have h1 := h.tr a b c k (by omega)
  have : ¬ cmp c a ≤ 0 := fun q => by
    have := h.tr c a b q k
    have := h.sgn b c
    omega
  have := h.sgn a c; omega
theorem Pre.eq_symm (h : Pre cmp) {a b : E} (k : cmp a b = 0) : cmp b a = 0 := by have := h.sgn a b; have := h.sgn b a; omega
theorem Pre.eq_tr (h : Pre cmp) {a b c : E} (k : cmp a b = 0) (l : cmp b c = 0) : cmp a c = 0 := by
  have := h.tr a b c (by omega) (by omega)
  have := h.tr c b a (by have := h.eq_symm l; omega) (by have := h.eq_symm k; omega)
  have := h.sgn a c
  omega
theorem Pre.le_iff (h : Pre cmp) {a b : E} : cmp a b ≤ 0 ↔ ¬ cmp b a < 0 := by have := h.sgn b a; omega

def Srt (cmp : E → E → Int) (l : List E) : Prop := l.Pairwise fun a b => cmp a b ≤ 0
/-- The elements of x's class. -/
def cls (cmp : E → E → Int) (x : E) (l : List E) : List E := l.filter fun y => decide (cmp x y = 0)
def Flt (cmp : E → E → Int) (l l' : List E) : Prop := ∀ x, cls cmp x l = cls cmp x l'

theorem cls_app (x : E) (l l' : List E) : cls cmp x (l ++ l') = cls cmp x l ++ cls cmp x l' := List.filter_append ..
theorem cls_cons (x y : E) (l : List E) : cls cmp x (y :: l) = if cmp x y = 0 then y :: cls cmp x l else cls cmp x l := by
  simp only [cls, List.filter_cons, decide_eq_true_eq]
theorem cls_nil (x : E) : cls cmp x [] = [] := rfl
theorem mem_cls {x y : E} {l : List E} : y ∈ cls cmp x l ↔ y ∈ l ∧ cmp x y = 0 := by simp [cls]
theorem cls_none {x : E} {l : List E} (h : ∀ y ∈ l, cmp x y ≠ 0) : cls cmp x l = [] := by
  simp only [cls, List.filter_eq_nil_iff, decide_eq_true_eq]; exact h

theorem Flt.refl (l : List E) : Flt cmp l l := fun _ => rfl
theorem Flt.symm {l l' : List E} (h : Flt cmp l l') : Flt cmp l' l := fun x => (h x).symm
theorem Flt.trans {l l' l'' : List E} (h : Flt cmp l l') (k : Flt cmp l' l'') : Flt cmp l l'' := fun x => (h x).trans (k x)
theorem Flt.app {a b c d : List E} (h : Flt cmp a b) (k : Flt cmp c d) : Flt cmp (a ++ c) (b ++ d) := fun x => by rw [cls_app, cls_app, h x, k x]
theorem Flt.mem (hp : Pre cmp) {l l' : List E} (h : Flt cmp l l') {x : E} : x ∈ l ↔ x ∈ l' := by
  have := h x
  constructor
  · intro hx
    have : x ∈ cls cmp x l' := by rw [← this]; exact mem_cls.2 ⟨hx, hp.rf x⟩
    exact (mem_cls.1 this).1
  · intro hx
    have : x ∈ cls cmp x l := by rw [this]; exact mem_cls.2 ⟨hx, hp.rf x⟩
    exact (mem_cls.1 this).1
/-- Two pieces change places where the second's elements all lie before the first's. -/
theorem Flt.swap (hp : Pre cmp) {u v : List E} (h : ∀ y ∈ v, ∀ x ∈ u, cmp y x < 0) : Flt cmp (v ++ u) (u ++ v) := fun z => by
  rw [cls_app, cls_app]
  by_cases hu : cls cmp z u = []
  · rw [hu]; simp
  · have hv : cls cmp z v = [] := cls_none fun y hy h0 => by
      apply hu
      exact cls_none fun x hx h1 => by
        have h2 := h y hy x hx
        have := hp.eq_tr (hp.eq_symm h0) h1
        omega
    rw [hv]; simp

theorem srt_flt_unique (hp : Pre cmp) : ∀ {l l' : List E}, Srt cmp l → Srt cmp l' → Flt cmp l l' → l = l'
  | [], [], _, _, _ => rfl
  | [], b :: t, _, _, h => by have := (h.mem hp (x := b)).2 List.mem_cons_self; simp at this
  | a :: t, [], _, _, h => by have := (h.mem hp (x := a)).1 List.mem_cons_self; simp at this
  | a :: t, b :: t', h1, h2, h => by
    have ha : cmp b a ≤ 0 := by
      have := (h.mem hp (x := a)).1 List.mem_cons_self
      rcases List.mem_cons.1 this with e | e
      · subst e; have := hp.rf a; omega
      · exact (List.pairwise_cons.1 h2).1 a e
    have hb : cmp a b ≤ 0 := by
      have := (h.mem hp (x := b)).2 List.mem_cons_self
      rcases List.mem_cons.1 this with e | e
      · subst e; have := hp.rf b; omega
      · exact (List.pairwise_cons.1 h1).1 b e
    have hab : cmp a b = 0 := by have := hp.sgn a b; have := hp.sgn b a; omega
    have e := h a
    rw [cls_cons, cls_cons, if_pos (hp.rf a), if_pos hab] at e
    injection e with e1 e2
    subst e1
    have ht : Flt cmp t t' := fun x => by
      have := h x
      rw [cls_cons, cls_cons] at this
      split at this
      · injection this
      · exact this
    rw [srt_flt_unique hp (List.pairwise_cons.1 h1).2 (List.pairwise_cons.1 h2).2 ht]

/-- x comes in ahead of the first element that does not lie before it. -/
def insF (cmp : E → E → Int) (x : E) : List E → List E
  | [] => [x]
  | y :: l => if cmp x y ≤ 0 then x :: y :: l else y :: insF cmp x l
def ssort (cmp : E → E → Int) : List E → List E
  | [] => []
  | x :: l => insF cmp x (ssort cmp l)
theorem insF_mem {x y : E} : ∀ {l : List E}, y ∈ insF cmp x l ↔ y = x ∨ y ∈ l
  | [] => by simp [insF]
  | z :: l => by
    simp only [insF]
    split
    · simp
    · simp only [List.mem_cons, insF_mem (l := l)]
      constructor
      · rintro (h | h | h)
        · exact .inr (.inl h)
        · exact .inl h
        · exact .inr (.inr h)
      · rintro (h | h | h)
        · exact .inr (.inl h)
        · exact .inl h
        · exact .inr (.inr h)
theorem insF_srt (hp : Pre cmp) {x : E} : ∀ {l : List E}, Srt cmp l → Srt cmp (insF cmp x l)
  | [], _ => by simp [insF, Srt]
  | y :: l, h => by
    have ⟨h1, h2⟩ := List.pairwise_cons.1 h
    simp only [insF]
    split
    · rename_i hxy
      exact List.pairwise_cons.2 ⟨fun z hz => by
        rcases List.mem_cons.1 hz with e | e
        · subst e; exact hxy
        · exact hp.tr _ _ _ hxy (h1 z e), h⟩
    · rename_i hxy
      refine List.pairwise_cons.2 ⟨fun z hz => ?_, insF_srt hp h2⟩
      rcases insF_mem.1 hz with e | e
      · subst e; have := hp.sgn y z; omega
      · exact h1 z e
theorem insF_flt (hp : Pre cmp) {x : E} : ∀ {l : List E}, Flt cmp (insF cmp x l) (x :: l)
  | [] => Flt.refl _
  | y :: l => by
    simp only [insF]
    split
    · exact Flt.refl _
    · rename_i hxy
      intro z
      have := insF_flt hp (x := x) (l := l) z
      rw [cls_cons] at this ⊢
      rw [this, cls_cons, cls_cons]
      by_cases h1 : cmp z y = 0
      · by_cases h2 : cmp z x = 0
        · have := hp.eq_tr (hp.eq_symm h2) h1; omega
        · simp [h1, h2]
      · simp [h1]
theorem ssort_srt (hp : Pre cmp) : ∀ l : List E, Srt cmp (ssort cmp l)
  | [] => List.Pairwise.nil
  | x :: l => insF_srt hp (ssort_srt hp l)
theorem ssort_flt (hp : Pre cmp) : ∀ l : List E, Flt cmp (ssort cmp l) l
  | [] => Flt.refl _
  | x :: l => fun z => by
    have h1 := insF_flt hp (x := x) (l := ssort cmp l) z
    have h2 := ssort_flt hp l z
    simp only [ssort]
    rw [h1, cls_cons, cls_cons, h2]
theorem insF_len {x : E} : ∀ {l : List E}, (insF cmp x l).length = l.length + 1
  | [] => rfl
  | y :: l => by simp only [insF]; split <;> simp [insF_len (l := l)]
theorem ssort_len : ∀ l : List E, (ssort cmp l).length = l.length
  | [] => rfl
  | x :: l => by simp [ssort, insF_len, ssort_len l]
theorem ssort_of (hp : Pre cmp) {l w : List E} (h1 : Srt cmp w) (h2 : Flt cmp w l) : w = ssort cmp l :=
  srt_flt_unique hp h1 (ssort_srt hp l) (h2.trans (ssort_flt hp l).symm)

theorem Srt.app {a b : List E} (ha : Srt cmp a) (hb : Srt cmp b) (h : ∀ x ∈ a, ∀ y ∈ b, cmp x y ≤ 0) : Srt cmp (a ++ b) := List.pairwise_append.2 ⟨ha, hb, h⟩
theorem Srt.left {a b : List E} (h : Srt cmp (a ++ b)) : Srt cmp a := (List.pairwise_append.1 h).1
theorem Srt.right {a b : List E} (h : Srt cmp (a ++ b)) : Srt cmp b := (List.pairwise_append.1 h).2.1
theorem Srt.cross {a b : List E} (h : Srt cmp (a ++ b)) {x y : E} (hx : x ∈ a) (hy : y ∈ b) : cmp x y ≤ 0 := (List.pairwise_append.1 h).2.2 x hx y hy
theorem Srt.nth_le (hp : Pre cmp) [Inhabited E] {l : List E} (h : Srt cmp l) {i j : Nat} (hij : i ≤ j) (hj : j < l.length) : cmp (nth l i) (nth l j) ≤ 0 := by
  have e : ∀ k (hk : k < l.length), nth l k = l[k] := fun k hk => by simp [nth, List.getD_eq_getElem?_getD, hk]
  rw [e i (by omega), e j hj]
  by_cases hh : i = j
  · subst hh; have := hp.rf l[i]; omega
  · exact List.pairwise_iff_getElem.1 h i j (by omega) hj (by omega)
theorem mem_nth [Inhabited E] {l : List E} {x : E} (h : x ∈ l) : ∃ k, k < l.length ∧ nth l k = x := by
  obtain ⟨k, hk, e⟩ := List.getElem_of_mem h
  exact ⟨k, hk, by simp [nth, List.getD_eq_getElem?_getD, hk, e]⟩
end

section
variable {E : Type} [Inhabited E]
theorem nth_app_l {a b : List E} {i : Nat} (h : i < a.length) : nth (a ++ b) i = nth a i := by simp [nth, List.getD_eq_getElem?_getD, List.getElem?_append, h]
theorem nth_app_r {a b : List E} {i : Nat} (h : a.length ≤ i) : nth (a ++ b) i = nth b (i - a.length) := by simp [nth, List.getD_eq_getElem?_getD, List.getElem?_append, Nat.not_lt.2 h]
theorem nth_take {l : List E} {n i : Nat} (h : i < n) : nth (l.take n) i = nth l i := by simp [nth, List.getD_eq_getElem?_getD, List.getElem?_take, h]
theorem nth_drop {l : List E} {n i : Nat} : nth (l.drop n) i = nth l (n + i) := by simp [nth, List.getD_eq_getElem?_getD]
theorem nth_cons_z {x : E} {l : List E} : nth (x :: l) 0 = x := rfl
theorem nth_cons_s {x : E} {l : List E} {n : Nat} : nth (x :: l) (n + 1) = nth l n := rfl
end
end Go.Aw

/- Strings' order. -/
namespace Go.Aw
open Go
theorem cb_sgn : ∀ a b : List UInt8, Lib.compareBytes a b = - Lib.compareBytes b a
  | [], [] => rfl
  | [], _ :: _ => by simp [Lib.compareBytes]
  | _ :: _, [] => by simp [Lib.compareBytes]
  | x :: a, y :: b => by
    simp only [Lib.compareBytes]
    have h1 : ∀ p q : UInt8, p < q ↔ p.toNat < q.toNat := fun p q => UInt8.lt_iff_toNat_lt
    by_cases c1 : x < y
    · have : ¬ y < x := by rw [h1] at *; omega
      simp [c1, this]
    · by_cases c2 : y < x
      · simp [c1, c2]
      · simp [c1, c2, cb_sgn a b]
theorem cb_le (a b : List UInt8) : Lib.compareBytes a b = -1 ∨ Lib.compareBytes a b = 0 ∨ Lib.compareBytes a b = 1 := by
  induction a generalizing b with
  | nil => cases b <;> simp [Lib.compareBytes]
  | cons x a ih =>
    cases b with
    | nil => simp [Lib.compareBytes]
    | cons y b =>
      simp only [Lib.compareBytes]
      split
      · exact .inl rfl
      · split
        · exact .inr (.inr rfl)
        · exact ih b
theorem cb_eq : ∀ a b : List UInt8, Lib.compareBytes a b = 0 ↔ a = b
  | [], [] => by simp [Lib.compareBytes]
  | [], _ :: _ => by simp [Lib.compareBytes]
  | _ :: _, [] => by simp [Lib.compareBytes]
  | x :: a, y :: b => by
    simp only [Lib.compareBytes]
    have h1 : ∀ p q : UInt8, p < q ↔ p.toNat < q.toNat := fun p q => UInt8.lt_iff_toNat_lt
    by_cases c1 : x < y
    · rw [if_pos c1]
      constructor
      · intro h; omega
      · intro h; injection h with e _; subst e; rw [h1] at c1; omega
    · rw [if_neg c1]
      by_cases c2 : y < x
      · rw [if_pos c2]
        constructor
        · intro h; omega
        · intro h; injection h with e _; subst e; rw [h1] at c2; omega
      · rw [if_neg c2, cb_eq a b]
        have : x = y := by
          apply UInt8.toNat.inj
          rw [h1] at c1 c2; omega
        subst this
        simp
theorem cb_tr : ∀ a b c : List UInt8, Lib.compareBytes a b ≤ 0 → Lib.compareBytes b c ≤ 0 → Lib.compareBytes a c ≤ 0
  | [], b, c, _, _ => by cases c <;> simp [Lib.compareBytes]
  | x :: a, [], c, h, _ => by simp [Lib.compareBytes] at h
  | x :: a, y :: b, [], _, h => by simp [Lib.compareBytes] at h
  | x :: a, y :: b, z :: c, h, k => by
    have h1 : ∀ p q : UInt8, p < q ↔ p.toNat < q.toNat := fun p q => UInt8.lt_iff_toNat_lt
    simp only [Lib.compareBytes, h1] at h k ⊢
    split at h
    · split at k
      · rw [if_pos (by omega)]; omega
      · split at k
        · omega
        · rw [if_pos (by omega)]; omega
    · split at h
      · omega
      · split at k
        · rw [if_pos (by omega)]; omega
        · split at k
          · omega
          · rw [if_neg (by omega), if_neg (by omega)]; exact cb_tr a b c h k

def cmpS (a b : ByteArray) : Int := Lib.compareBytes a.data.toList b.data.toList
theorem cmpS_eq (a b : ByteArray) : cmpS a b = 0 ↔ a = b := by
  unfold cmpS
  rw [cb_eq]
  constructor
  · intro h; cases a; cases b; congr 1; exact Array.toList_inj.1 h
  · intro h; rw [h]
theorem cmpS_sgn (a b : ByteArray) : cmpS a b = - cmpS b a := cb_sgn _ _
theorem cmpS_pre : Pre cmpS := ⟨fun a b => by have := cmpS_sgn a b; omega, fun a b c => cb_tr _ _ _⟩
theorem cmpS_one (a b : ByteArray) : cmpS a b = -1 ∨ cmpS a b = 0 ∨ cmpS a b = 1 := cb_le _ _
theorem bl_cb : ∀ a b : List UInt8, Op.bytesLess a b = decide (Lib.compareBytes a b < 0)
  | [], [] => rfl
  | [], _ :: _ => rfl
  | _ :: _, [] => rfl
  | x :: a, y :: b => by
    simp only [Op.bytesLess, Lib.compareBytes]
    have h1 : ∀ p q : UInt8, p < q ↔ p.toNat < q.toNat := fun p q => UInt8.lt_iff_toNat_lt
    by_cases c1 : x < y
    · simp [c1]
    · by_cases c2 : y < x
      · have : ¬ x = y := fun e => by subst e; rw [h1] at c2; omega
        simp [c1, c2, this]
      · have : x = y := by apply UInt8.toNat.inj; rw [h1] at c1 c2; omega
        subst this
        simp [c1, bl_cb a b]
theorem strLt_eq (a b : ByteArray) : strLt a b = decide (cmpS a b < 0) := by
  unfold strLt cmpS
  have e : ∀ x : ByteArray, x.toList = x.data.toList := fun x => ByteArray.toList_eq x
  rw [e, e]; exact bl_cb _ _
end Go.Aw

namespace Go.Aw.Try
open Go Go.Proofs Go.Aw
set_option maxRecDepth 100000
set_option maxHeartbeats 4000000
def G0 : Gl := fun _ => none
theorem hmix : Try.prog.follows .mixedOrders = true := Checked.mixed Try.checked
abbrev I (n : Int) : V := .c (.d (.v (.int .i64 n)))
abbrev Sx (n : ByteArray) : V := .c (.d (.v (.string n)))
structure Id where
  a : ByteArray
  n : Int
def Id.row (x : Id) : List D := [.v (.string x.a), .v (.int .i64 x.n)]
structure Edit where
  id : Id
  clock : Int
  floor : Int
  deps : List Id
  kind : Int
  node : Id
  parent : Id
  neg : Bool
  num : ByteArray
  den : ByteArray
  field : ByteArray
  value : ByteArray
  target : Id
  who : ByteArray
def Edit.row (e : Edit) : List D := [.v (.string e.id.a), .v (.int .i64 e.id.n), .v (.int .i64 e.clock), .v (.int .i64 e.floor), .sl (e.deps.map Id.row), .v (.int .i64 e.kind), .v (.string e.node.a), .v (.int .i64 e.node.n), .v (.string e.parent.a), .v (.int .i64 e.parent.n), .v (.bool e.neg), .v (.string e.num), .v (.string e.den), .v (.string e.field), .v (.string e.value), .v (.string e.target.a), .v (.int .i64 e.target.n), .v (.string e.who)]
def cmpI (a b : Int) : Int := if a < b then -1 else if b < a then 1 else 0
def x48 : XE := ⟨true, fun ps => match ps with | [.c (.v (.int .i64 a)), .c (.v (.int .i64 b))] => some (True, .int .i64 (cmpI a b)) | _ => none⟩
def x49 : XE := ⟨true, fun ps => match ps with | [.c (.v (.string a)), .c (.v (.string b))] => some (True, .int .i64 (cmpS a b)) | _ => none⟩
def intsOf : List (List D) → Option (List Int)
  | [] => some []
  | [.v (.int .i64 a)] :: r => match intsOf r with | some l => some (a :: l) | none => none
  | _ => none
def orI : List Int → Int
  | [] => 0
  | a :: r => if a ≠ 0 then a else orI r
def x47 : XE := ⟨true, fun ps => match ps with | [.c (.sl xs)] => (match intsOf xs with | some l => some (True, .int .i64 (orI l)) | none => none) | _ => none⟩
theorem k21 (kx : GoodX Try.prog G0 [(47, x47), (48, x48), (49, x49)]) (a b : Edit) : ACalls Try.prog G0 21 [.agg (a.row.map .d), .agg (b.row.map .d)] [] fun t H => t = .int .i64 (orI [cmpI a.clock b.clock, cmpS a.id.a b.id.a, cmpI a.id.n b.id.n]) ∧ H = [] := by
  refine acallsX (X := [(47, x47), (48, x48), (49, x49)]) kx tab hmix Try.func21 c21 (by rfl) fun hw => ?_
  simp [ir21, b21, wcodeX, wopsX, wopX, wlex, stepX, calleeOf, fop, foot, ev, cv, argSl, holes, thenQ, normQ, blockQ, St.put, putS_eq, binIF, retQ, resL, resV, resT, argsOf, nrm, nrmC, callX, callF, xget, x47, x48, x49, toBVs, mapO, toBV, toB, toD, condP, Edit.row, V.known, V.cells, ptrTo, valOf, fillR, toDs, frz, frz1, apW, addH, osT, osR, borVs, borV, borC, intsOf]
  refine ⟨by kernel_rfl, by kernel_rfl, ?_⟩
  exact fin_nil ⟨rfl, rfl⟩

theorem intsOf_get : ∀ {xs : List (List D)} {l : List Int}, intsOf xs = some l → xs = l.map fun n => [.v (.int .i64 n)]
  | [], l, h => by simp only [intsOf, Option.some.injEq] at h; subst h; rfl
  | [.v (.int .i64 a)] :: r, l, h => by
    simp only [intsOf] at h
    split at h
    · rename_i l' h'; injection h with h; subst h; rw [intsOf_get h']; rfl
    · cases h

theorem k47 (l : List Int) (hl : l.length < 4611686018427387904) : ACalls Try.prog G0 47 [.c (.d (.sl (l.map fun n => [.v (.int .i64 n)])))] [] fun t H => t = .int .i64 (orI l) ∧ H = [] := by
  refine acallsX (X := []) trivial tab hmix Try.func47 c47 (by rfl) fun hw => ?_
  simp [ir47, b47]
  refine loopX (fun k s => ∃ i, i ≤ l.length ∧ k = l.length - i ∧ orI l = orI (l.drop i) ∧ s = ⟨ofL [(3, .int .i64 0), (6, .v (.c (.d (.sl (l.map fun n => [.v (.int .i64 n)]))))), (7, .int .i64 l.length), (8, .int .i64 i)], []⟩) ?_ ?_
  · refine wk_nil [] [3, 6, 7, 8] rfl ⟨_, 0, Nat.zero_le _, rfl, rfl, ?_⟩
    simp
  · rintro k s ⟨i, hi, rfl, ho, rfl⟩
    by_cases hlt : i < l.length
    · have hd : l.drop i = l[i] :: l.drop (i + 1) := List.drop_eq_getElem_cons hlt
      simp (disch := omega) [hlt, nth_map, nth_eq, wrap64]
      refine ⟨fun h0 => fin_nil ⟨by rw [ho, hd]; simp [orI, h0], rfl⟩, fun h0 => wk_nil [] [3, 6, 7, 8] rfl ⟨l.length - (i + 1), by omega, i + 1, hlt, rfl, ?_, ?_⟩⟩
      · rw [ho, hd]; simp [orI, h0]
      · simp
    · have hd : l.drop i = [] := List.drop_eq_nil_of_le (by omega)
      simp [hlt, ho, hd, orI]
      exact fin_nil ⟨rfl, rfl⟩
end Go.Aw.Try

/- Rows of data: words for elements of own rows. -/
namespace Go.Aw
open Go

/-- A row that is told as data as it is. -/
structure RowOk (sz : Nat) (y : List D) : Prop where
  len : y.length = sz
  nn : ∀ d ∈ y, ∀ c, d ≠ .v (.slice none 0 c)

theorem osR_map (y : List D) : osR (y.map .d) = [] := by
  induction y with
  | nil => rfl
  | cons d y ih => simpa [osR] using ih
theorem frz_map (H : List O) (y : List D) : frz H (y.map .d) = H := by
  induction y with
  | nil => rfl
  | cons d y ih => simpa [frz, frz1] using ih

theorem toDs_of (y : List D) (h : ∀ d ∈ y, ∀ c, d ≠ .v (.slice none 0 c)) (H : List O) : toDs H (y.map .d) = some y := by
  induction y with
  | nil => rfl
  | cons d y ih =>
    have hd : toD H (.d d) = some d := by
      unfold toD
      split
      · rename_i c e; exact absurd (by injection e) (h d List.mem_cons_self c)
      · rename_i e; injection e with e; subst e; rfl
      · rename_i e; cases e
      · rename_i q _; exact absurd rfl (q d)
    simp only [List.map_cons, toDs, hd, ih fun d hd => h d (List.mem_cons_of_mem _ hd)]

theorem lend_d (H : List O) (n : Nat) (d : D) (h : ∀ c, d ≠ .v (.slice none 0 c)) : toB n H (.d d) = some d := by
  have hd : toD H (.d d) = some d := by
    unfold toD
    split
    · rename_i c e; exact absurd (by injection e) (h c)
    · rename_i e; injection e with e; subst e; rfl
    · rename_i e; cases e
    · rename_i q _; exact absurd rfl (q d)
  cases n with
  | zero => exact hd
  | succ n => simpa only [toB] using hd

theorem RowOk.cl {sz : Nat} {y : List D} (h : RowOk sz y) (H : List O) : toDs H (y.map .d) = some y := toDs_of y h.nn H
theorem RowOk.tk {sz : Nat} {y : List D} (h : RowOk sz y) {β : Type} (g : D → β) : (y.map g).take sz = y.map g := List.take_of_length_le (by rw [List.length_map, h.len]; exact Nat.le_refl _)
theorem RowOk.tk' {sz : Nat} {y : List D} (h : RowOk sz y) : y.take sz = y := List.take_of_length_le (by rw [h.len]; exact Nat.le_refl _)
theorem RowOk.nrm {sz : Nat} {y : List D} (h : RowOk sz y) : y.map (nrmC ∘ C.d) = y.map C.d := by
  refine List.map_congr_left fun d hd => ?_
  simp only [Function.comp]
  unfold nrmC
  split
  · rename_i c e; exact absurd (by injection e) (h.nn d hd c)
  · rfl
theorem RowOk.mapO {sz : Nat} {y : List D} (h : RowOk sz y) (n : Nat) (H : List O) : Go.Aw.mapO (Go.Aw.toB n H) (y.map .d) = some y := by
  have h0 := h.cl H
  have key : ∀ (l : List D) m, toDs H (l.map .d) = some m → Go.Aw.mapO (Go.Aw.toB n H) (l.map .d) = some m := by
    intro l
    induction l with
    | nil => intro m hm; simpa [toDs, Go.Aw.mapO] using hm
    | cons d l ih =>
      intro m hm
      simp only [List.map_cons, toDs] at hm
      split at hm
      · rename_i d' ds h1 h2
        injection hm with hm; subst hm
        have hb : Go.Aw.toB n H (.d d) = some d' := by
          cases n with
          | zero => exact h1
          | succ n => simpa only [toB] using h1
        simp only [List.map_cons, Go.Aw.mapO, hb, ih _ h2]
      · cases hm
  exact key y y h0

theorem wk_keep {P : Program} {G : Gl} {N0 : Nat} {sl : Nat → T} {hp : List O} {K : St → Prop} (keep : List Nat) (h : K ⟨ofL (keep.map fun t => (t, sl t)), hp⟩) : wk P G N0 ⟨sl, hp⟩ K := by
  refine ⟨⟨ofL (keep.map fun t => (t, sl t)), hp⟩, fun n b ρ a w hb1 hb2 hs => ⟨ρ, hs.heap, hs.size, hs.defers, fun t => ?_, hs.glob, hs.le⟩, h⟩
  show TRel P _ (ofL _ t) _
  rcases ofL_map sl keep t with h | h
  · rw [h]; exact hs.slots t
  · rw [h]; trivial

theorem borV_map (H : List O) (y : List D) : borV H (.agg (y.map .d)) = [] := by
  simp only [borV, V.cells]
  induction y with
  | nil => rfl
  | cons d y ih => simp [borC, osR]
theorem borRow (n : Nat) (H : List O) (y : List D) : (y.map C.d).flatMap (borC n H) = [] := by
  induction y with
  | nil => rfl
  | cons d y ih => simp only [List.map_cons, List.flatMap_cons, borC_d, ih, List.nil_append]
theorem nth_set_ne {α : Type} [Inhabited α] {l : List α} {i k : Nat} {x : α} (h : i ≠ k) : nth (l.set i x) k = nth l k := by
  simp [nth, List.getD_eq_getElem?_getD, h]
theorem RowOk.spl {sz : Nat} {y z : List D} (h : RowOk sz y) (k : RowOk sz z) : splice y 0 z = z := by
  simp [splice, h.len, k.len]
theorem take_of_len {α : Type} {n : Nat} {l : List α} (h : l.length = n) : l.take n = l := by subst h; simp
theorem splice_all {α : Type} {l xs : List α} (h : xs.length = l.length) : splice l 0 xs = xs := by simp [splice, h]


/-- Between two pieces of code: what is known there. -/
def cutQ (J : St → Prop) (Q : Qt) : Qt
  | .normal, s => J s
  | e, s => Q e s
@[simp ↓] theorem cutQ_n {J : St → Prop} {Q : Qt} {s : St} : cutQ J Q .normal s = J s := rfl
@[simp ↓] theorem cutQ_x {J : St → Prop} {Q : Qt} {s : St} {i : Nat} : cutQ J Q (.exit i) s = Q (.exit i) s := rfl
@[simp ↓] theorem cutQ_r {J : St → Prop} {Q : Qt} {s : St} : cutQ J Q .ret s = Q .ret s := rfl
theorem seqX {P : Program} {G : Gl} {X : XT} {N0 : Nat} {x y : AC} {st : St} {Q : Qt} (J : St → Prop) (h1 : wcodeX P G X N0 x st (cutQ J Q)) (h2 : ∀ s, J s → wcodeX P G X N0 y s Q) :
    wcodeX P G X N0 (.seq x y) st Q := by
  show wcodeX P G X N0 x st (thenQ (wcodeX P G X N0 y) Q)
  refine wcodeX_mono (fun e s q => ?_) h1
  cases e with
  | normal => exact h2 s q
  | exit i => exact q
  | ret => exact q
/-- A loop, its invariant kept out of sight while the body is run. -/
theorem loopG {P : Program} {G : Gl} {X : XT} {N0 : Nat} {x : AC} {st : St} {Q : Qt} (I : Nat → St → Prop) (h0 : wk P G N0 st fun s => ∃ k, I k s)
    (h : ∀ J : Nat → St → Prop, J = I → ∀ k s, I k s → wcodeX P G X N0 x s (loopN P G N0 J k Q)) : wcodeX P G X N0 (.loop x) st Q := loopX I h0 (h I rfl)
/-- The same, with what holds where the loop is left. -/
def exitQ (id : Nat) (J : St → Prop) (Q : Qt) : Qt
  | .exit i, s => if i = id then J s else Q (.exit i) s
  | .normal, s => Q .normal s
  | .ret, s => Q .ret s
@[simp ↓] theorem exitQ_x {id i : Nat} {J : St → Prop} {Q : Qt} {s : St} : exitQ id J Q (.exit i) s = if i = id then J s else Q (.exit i) s := rfl
@[simp ↓] theorem exitQ_n {id : Nat} {J : St → Prop} {Q : Qt} {s : St} : exitQ id J Q .normal s = Q .normal s := rfl
@[simp ↓] theorem exitQ_r {id : Nat} {J : St → Prop} {Q : Qt} {s : St} : exitQ id J Q .ret s = Q .ret s := rfl
theorem loopE {P : Program} {G : Gl} {X : XT} {N0 id : Nat} {x : AC} {st : St} {Q : Qt} (I : Nat → St → Prop) (E : St → Prop) (h0 : wk P G N0 st fun s => ∃ k, I k s)
    (h : ∀ (J : Nat → St → Prop) (L : St → Prop), J = I → L = E → ∀ k s, I k s → wcodeX P G X N0 x s (loopN P G N0 J k (exitQ id L (blockQ id Q)))) (hE : ∀ s, E s → Q .normal s) :
    wcodeX P G X N0 (.loop x) st (blockQ id Q) := by
  refine loopX I h0 fun k s hs => ?_
  refine wcodeX_mono (fun e s' q => ?_) (h I E rfl rfl k s hs)
  cases e with
  | normal => exact q
  | ret => exact q
  | exit i =>
    show if i = id then Q .normal s' else Q (.exit i) s'
    have q : if i = id then E s' else blockQ id Q (.exit i) s' := q
    by_cases hi : i = id
    · rw [if_pos hi] at q ⊢; exact hE _ q
    · rw [if_neg hi] at q ⊢
      have q : if i = id then Q .normal s' else Q (.exit i) s' := q
      rw [if_neg hi] at q; exact q
theorem seqG {P : Program} {G : Gl} {X : XT} {N0 : Nat} {x y : AC} {st : St} {Q : Qt} (J : St → Prop) (h1 : ∀ J', J' = J → wcodeX P G X N0 x st (cutQ J' Q)) (h2 : ∀ s, J s → wcodeX P G X N0 y s Q) :
    wcodeX P G X N0 (.seq x y) st Q := seqX J (h1 J rfl) h2
/-- Slots: some are known, the others are what they are. -/
def ofLr : List (Nat × T) → (Nat → T) → Nat → T
  | [], f => f
  | (d, t) :: r, f => fun i => if i = d then t else ofLr r f i
@[simp] theorem ofLr_c {d : Nat} {t : T} {r : List (Nat × T)} {f : Nat → T} {i : Nat} : ofLr ((d, t) :: r) f i = if i = d then t else ofLr r f i := rfl
theorem ofLr_fix {f : Nat → T} : ∀ {l : List (Nat × T)}, (∀ p ∈ l, f p.1 = p.2) → f = ofLr l f
  | [], _ => rfl
  | (d, t) :: r, h => by
    funext i
    simp only [ofLr]
    split
    · rename_i e; subst e; exact h _ List.mem_cons_self
    · exact congrFun (ofLr_fix fun p hp => h p (List.mem_cons_of_mem _ hp)) i
/-- These slots are known; the regions are these. -/
def AtS (l : List (Nat × T)) (H : List O) (s : St) : Prop := ∃ f, s = ⟨ofLr l f, H⟩
theorem at_mk {l : List (Nat × T)} {sl : Nat → T} {H H' : List O} (h : ∀ p ∈ l, sl p.1 = p.2) (hH : H' = H) : AtS l H ⟨sl, H'⟩ := ⟨sl, by rw [← ofLr_fix h, hH]⟩
attribute [simp] elems optI maxLen47 fop.capsOf keyOf keyOf.scals
def AC.hd : AC → AC
  | .seq x _ => x
  | c => c
def AC.tl : AC → AC
  | .seq _ y => y
  | c => c

end Go.Aw
