/- An abstract machine over the model, and contracts of functions of this program on it (part 3): words and lemmas for the proof in the last text. -/
import Derived.Test.YthgnlejjbhijfaaGreatDoorHB
set_option linter.unusedVariables false
set_option linter.unusedSimpArgs false

/- The weakest precondition with a table of contracts: calls that are listed are stepped over; drawn regions are run in the text's order. -/
namespace Go.Aw
open Go

/-- A contract: 'sc': it was told without any region, and gives scalars; 'g': for these arguments the obligation and the result. -/
structure XE where
  sc : Bool
  g : List PV → Option (Prop × T)
abbrev XT := List (Nat × XE)
def xget : XT → Nat → Option XE
  | [], _ => none
  | (f, e) :: r, n => if f = n then some e else xget r n

def Contract (P : Program) (G : Gl) (f : Nat) (e : XE) : Prop := ∀ ps ob t, e.g ps = some (ob, t) → ob →
  if e.sc = true then scT t = true ∧ ACalls P G f (ps.map PV.toV) [] (fun t' H' => t' = t ∧ H' = []) else ∀ H, ACalls P G f (ps.map PV.toV) H fun t' H' => t' = t ∧ H' = H
def GoodX (P : Program) (G : Gl) : XT → Prop
  | [] => True
  | (f, e) :: r => Contract P G f e ∧ GoodX P G r

theorem goodX_get {P : Program} {G : Gl} : ∀ {X : XT} {f : Nat} {e : XE}, GoodX P G X → xget X f = some e → Contract P G f e
  | [], _, _, _, h => by cases h
  | (f', e') :: r, f, e, hg, h => by
    simp only [xget] at h
    split at h
    · rename_i hf; injection h with h; subst h; subst hf; exact hg.1
    · exact goodX_get hg.2 h

def capL (f : C → List Nat) : Cap → List Nat
  | .r r o => f (.ptr r o)
  | .d _ => []
/-- Regions that are looked at when a cell is lent. -/
def borC : Nat → List O → C → List Nat
  | 0, H, c => osR [c]
  | n + 1, H, c => match c with
    | .ptr r off => r :: (match H[r]? with
      | some (.cells cs) => (cs.drop off).flatMap (borC n H)
      | _ => [])
    | .eptr r _ _ _ => [r]
    | .mp r => [r]
    | .fn _ caps => caps.flatMap fun p => borC n H (.ptr p.1 p.2)
    | .fx _ caps => caps.flatMap (capL (borC n H))
    | c => osR [c]
def borV (H : List O) (u : V) : List Nat := u.cells.flatMap (borC 8 H)
def borVs (H : List O) (vs : List V) : List Nat := vs.flatMap (borV H)
def osVs (vs : List V) : List Nat := vs.flatMap fun u => osR u.cells

structure SR where
  rd : List Nat
  wr : List Nat
  ob : Prop
  val : T
  hp : List O

def callF (X : XT) (H : List O) (f : Nat) (vs : List V) : Option SR :=
  match xget X f with
  | some e => match e.sc with
    | true => match toBVs H vs with
      | some ps => match e.g ps with
        | some (ob, t) => some ⟨borVs H vs, [], ob, t, H⟩
        | none => none
      | none => none
    | false => match toPVs H vs with
      | some ps => match e.g ps with
        | some (ob, t) => some ⟨[], osVs vs, ob, t, frzVs H vs⟩
        | none => none
      | none => none
  | none => none

def ordB (cl : List (List Nat)) (j i : Nat) : Bool := (cl.getD i []).contains j
def tmpsOf (o : AOper) : List Nat := (o.op.opers.filterMap fun x => match x with | .tmp t => some t | _ => none) ++ (match o.guard with | some (t, _) => [t] | none => [])
def slotsOk (cl : List (List Nat)) (ops : List AOper) : Bool := (List.range ops.length).all fun i => (List.range i).all fun j => ordB cl j i || (match ops[i]?, ops[j]? with
  | some a, some b => (match b.dst with | some d => !(tmpsOf a).contains d && a.dst != some d | none => true) && (match a.dst with | some d => !(tmpsOf b).contains d | none => true)
  | _, _ => true)
def drawOk (cl : List (List Nat)) (ops : List AOper) (after : List (List Nat)) : Bool := after.length == ops.length && acyc after && slotsOk cl ops

def apW (cl : List (List Nat)) (i : Nat) : List Nat → List (Nat × List Nat) → Prop
  | [], _ => True
  | _ :: _, [] => True
  | q :: rw, (j, wr) :: h => (ordB cl j i = true ∨ ∀ x ∈ wr, x ∉ q :: rw) ∧ apW cl i (q :: rw) h
def addH (i : Nat) : List Nat → List (Nat × List Nat) → List (Nat × List Nat)
  | [], h => h
  | q :: l, h => (i, q :: l) :: h

section
variable (P : Program) (G : Gl) (X : XT)

def calleeOf (s : Nat → T) : A → Option (Nat × List V)
  | .call f args => match argsOf (args.map (ev G s)) with
    | some vs => some (f, vs)
    | none => none
  | .callv f args => match ev G s f, argsOf (args.map (ev G s)) with
    | .v (.c (.fn f caps)), some vs => some (f, vs ++ caps.map fun c => .c (.ptr c.1 c.2))
    | .v (.c (.d (.fn f caps))), some vs => some (f, vs ++ caps.map fun c => .c (.d c))
    | _, _ => none
  | _ => none

def stepX (B : Nat) (st : St) (a : A) : Option SR :=
  match a with
  | .call f args => match calleeOf G st.sl (.call f args) with
    | some (f, vs) => callF X st.hp f vs
    | none => none
  | .callv f args => match calleeOf G st.sl (.callv f args) with
    | some (f, vs) => callF X st.hp f vs
    | none => none
  | a => match fop B st.hp (ev G st.sl) a with
    | some r => some ⟨(foot B (ev G st.sl) a).1, (foot B (ev G st.sl) a).2, r.ob, r.val, r.hp⟩
    | none => none

def callX (f : Nat) (vs : List V) (st : St) (κ : Kt) : Prop :=
  match callF X st.hp f vs with
  | some r => r.ob ∧ κ r.val ⟨st.sl, r.hp⟩
  | none => ACalls P G f vs st.hp (callK st.sl κ)

def wopX (B : Nat) (a : A) (st : St) (κ : Kt) : Prop :=
  match a with
  | .call f args => match argsOf (args.map (ev G st.sl)) with
    | some vs => callX P G X f vs st κ
    | none => False
  | .callv f args => match ev G st.sl f, argsOf (args.map (ev G st.sl)) with
    | .v (.c (.fn f caps)), some vs => callX P G X f (vs ++ caps.map fun c => .c (.ptr c.1 c.2)) st κ
    | .v (.c (.d (.fn f caps))), some vs => callX P G X f (vs ++ caps.map fun c => .c (.d c)) st κ
    | _, _ => False
  | .pick c a b => condP (ev G st.sl c) (κ (ev G st.sl a) st) (κ (ev G st.sl b) st)
  | .eqN ng k x => match k, ev G st.sl x with
    | .sl, .v (.c (.d (.sl xs))) => ∀ b, (xs ≠ [] → b = false) → κ (.bool (if ng then !b else b)) st
    | .sl, .v (.c (.os _ _ _ len)) => ∀ b, (len ≠ 0 → b = false) → κ (.bool (if ng then !b else b)) st
    | k, _ => match fop B st.hp (ev G st.sl) (.eqN ng k x) with
      | some r => r.ob ∧ κ r.val ⟨st.sl, r.hp⟩
      | none => False
  | a => match fop B st.hp (ev G st.sl) a with
    | some r => r.ob ∧ κ r.val ⟨st.sl, r.hp⟩
    | none => False

def wopsX (B : Nat) : List AOper → St → (St → Prop) → Prop
  | [], st, k => k st
  | o :: r, st, k => match o.guard with
    | none => wopX P G X B o.op st fun t s => wopsX B r (s.put o.dst t) k
    | some (t, want) => condW (st.sl t) want (wopX P G X B o.op st fun t s => wopsX B r (s.put o.dst t) k) (wopsX B r (st.put o.dst (.tup [])) k)

def wlex (B : Nat) (cl : List (List Nat)) : Nat → List AOper → List (Nat × List Nat) → List (Nat × List Nat) → St → (St → Prop) → Prop
  | i, [], _, _, st, k => k st
  | i, o :: r, Ws, Rs, st, k =>
    match o.guard with
    | none => match stepX G X B st o.op with
      | some s => s.ob ∧ apW cl i (s.rd ++ s.wr) Ws ∧ apW cl i s.wr Rs ∧ wlex B cl (i + 1) r (addH i s.wr Ws) (addH i s.rd Rs) ((St.mk st.sl s.hp).put o.dst s.val) k
      | none => False
    | some (t, want) => condW (st.sl t) want
      (match stepX G X B st o.op with
      | some s => s.ob ∧ apW cl i (s.rd ++ s.wr) Ws ∧ apW cl i s.wr Rs ∧ wlex B cl (i + 1) r (addH i s.wr Ws) (addH i s.rd Rs) ((St.mk st.sl s.hp).put o.dst s.val) k
      | none => False)
      (wlex B cl (i + 1) r Ws Rs (st.put o.dst (.tup [])) k)

def wcodeX (N0 : Nat) : AC → St → Qt → Prop
  | .skip, st, Q => Q .normal st
  | .region n ops, st, Q => wopsX P G X st.hp.length ops (holes n st) (normQ Q)
  | .dregion n ops after, st, Q => drawOk (clos after) ops after = true ∧ wlex G X st.hp.length (clos after) 0 ops [] [] (holes n st) (normQ Q)
  | .seq x y, st, Q => wcodeX N0 x st (thenQ (wcodeX N0 y) Q)
  | .cond c x y, st, Q => condP (ev G st.sl c) (wcodeX N0 x st Q) (wcodeX N0 y st Q)
  | .block id x, st, Q => wcodeX N0 x st (blockQ id Q)
  | .loop x, st, Q => loopW P G N0 (wcodeX N0 x) st Q
  | .exit id, st, Q => Q (.exit id) st
  | .ret, st, Q => Q .ret st
end

section
variable {P : Program} {G : Gl} {X : XT}

/-- A call whose arguments are told as data for good. -/
theorem acalls_frz {f : Nat} {vs : List V} {ps : List PV} {H : List O} {t : T} (hp : toPVs H vs = some ps)
    (h : ACalls P G f (ps.map PV.toV) (frzVs H vs) fun t' H' => t' = t ∧ H' = frzVs H vs) : ACalls P G f vs H fun t' H' => t' = t ∧ H' = frzVs H vs := by
  refine ⟨h.1, fun ρ w args hH hG hv => ?_⟩
  obtain ⟨h1, l1, _⟩ := frzVs_rel vs hH
  obtain ⟨g1, g2⟩ := toPVs_rel vs (vs := args.toList) hH hp (by simpa using hv.1) (fun i c v hc hv' => hv.2 i c v hc (by simpa using hv'))
  refine (h.2 ρ w args h1 (hG.mono l1.step) ⟨by rw [List.length_map, g1]; exact hv.1, fun i c v hi hvi => ?_⟩).mono fun e w' ⟨v, t', ρ', H', e1, e2, e3, e4, e5⟩ => ⟨v, t', ρ', H', e1, e2, e3, e4, l1.trans e5⟩
  rw [List.getElem?_map] at hi
  cases hq : ps[i]? with
  | none => rw [hq] at hi; cases hi
  | some p =>
    rw [hq] at hi
    simp at hi
    subst hi
    exact prel_vrel (k := ctx ρ (frzVs H vs) w) (g2 i p v hq (by simpa using hvi))

theorem callF_sound (hX : GoodX P G X) {H : List O} {f : Nat} {vs : List V} {r : SR} (h : callF X H f vs = some r) (hob : r.ob) :
    ACalls P G f vs H fun t' H' => t' = r.val ∧ H' = r.hp := by
  unfold callF at h
  split at h
  · rename_i e he
    have hc := goodX_get hX he
    split at h
    · rename_i hsc
      split at h
      · rename_i ps hps
        split at h
        · rename_i ob t hg
          injection h with h; subst h
          have := hc ps ob t hg hob
          rw [if_pos hsc] at this
          exact acalls_lend hps this.1 this.2
        · cases h
      · cases h
    · rename_i hsc
      split at h
      · rename_i ps hps
        split at h
        · rename_i ob t hg
          injection h with h; subst h
          have := hc ps ob t hg hob
          rw [if_neg (by rw [hsc]; simp)] at this
          exact acalls_frz hps (this _)
        · cases h
      · cases h
  · cases h

theorem callX_sound (hX : GoodX P G X) {f : Nat} {vs : List V} {st : St} {κ : Kt} (h : callX P G X f vs st κ) : ACalls P G f vs st.hp (callK st.sl κ) := by
  unfold callX at h
  split at h
  · rename_i r hr
    refine (callF_sound hX hr h.1).mono fun t H ⟨h1, h2⟩ => ?_
    subst h1; subst h2
    exact h.2
  · exact h

theorem wopX_same {B : Nat} {a : A} {st : St} {κ : Kt} (h : a.isCall = false) : wopX P G X B a st κ = wop P G B a st κ := by
  cases a <;> first | rfl | cases h

theorem wopX_sound (hX : GoodX P G X) {B : Nat} {a : A} {st : St} {κ : Kt} (h : wopX P G X B a st κ) : wop P G B a st κ := by
  cases a
  case call f args =>
    simp only [wopX] at h
    simp only [wop]
    split at h
    · rename_i vs e1
      rw [e1]
      exact callX_sound hX h
    · exact h.elim
  case callv f args =>
    simp only [wopX] at h
    simp only [wop]
    split at h
    · rename_i f' caps vs e1 e2
      rw [e1, e2]
      exact callX_sound hX h
    · rename_i f' caps vs e1 e2
      rw [e1, e2]
      exact callX_sound hX h
    · exact h.elim
  all_goals exact h

theorem wopX_mono {B : Nat} {a : A} {st : St} {κ κ' : Kt} (hk : ∀ t s, κ t s → κ' t s) (h : wopX P G X B a st κ) : wopX P G X B a st κ' := by
  have cx : ∀ f vs, callX P G X f vs st κ → callX P G X f vs st κ' := by
    intro f vs h
    unfold callX at h ⊢
    split at h
    · exact ⟨h.1, hk _ _ h.2⟩
    · exact ACalls.mono h fun t H q => hk _ _ q
  by_cases hc : a.isCall = false
  · rw [wopX_same hc] at h ⊢
    exact wop_mono hk h
  cases a <;> first | (exfalso; exact hc rfl) | skip
  case call f args =>
    simp only [wopX] at h ⊢
    split at h
    · exact cx _ _ h
    · exact h
  case callv f args =>
    simp only [wopX] at h ⊢
    split at h
    · exact cx _ _ h
    · exact cx _ _ h
    · exact h

theorem wopsX_sound (hX : GoodX P G X) {B : Nat} : ∀ {l : List AOper} {st : St} {k : St → Prop}, wopsX P G X B l st k → wops P G B l st k
  | [], st, k, h => h
  | o :: r, st, k, h => by
    simp only [wopsX] at h
    simp only [wops]
    split at h
    · rename_i e
      rw [e]
      exact wop_mono (fun t s q => wopsX_sound hX q) (wopX_sound hX h)
    · rename_i t want e
      rw [e]
      exact condW_mono h (fun h => wop_mono (fun t s q => wopsX_sound hX q) (wopX_sound hX h)) (wopsX_sound hX)

end
end Go.Aw

/- A drawn region, run in the text's order. -/
namespace Go.Aw
open Go

/-- What one operation did in the text's order. -/
structure Rec where
  rd : List Nat
  wr : List Nat
  val : T
  pre : St
  post : St

structure Step1 (P : Program) (G : Gl) (B : Nat) (o : AOper) (c : Rec) : Prop where
  slot : ∀ t, c.post.sl t = if o.dst = some t then c.val else c.pre.sl t
  len : c.post.hp.length = c.pre.hp.length
  out : ∀ q, q ∉ c.wr → c.post.hp[q]? = c.pre.hp[q]?
  loc : ∀ st : St, (∀ t ∈ tmpsOf o, st.sl t = c.pre.sl t) → st.hp.length = c.pre.hp.length → (∀ q, q ∈ c.rd ∨ q ∈ c.wr → st.hp[q]? = c.pre.hp[q]?) → ∀ κ : St → Prop,
    (∀ st' : St, (∀ t, o.dst = some t → st'.sl t = c.val) → (∀ t, o.dst ≠ some t → st'.sl t = st.sl t) → st'.hp.length = c.pre.hp.length →
      (∀ q ∈ c.wr, st'.hp[q]? = c.post.hp[q]?) → (∀ q, q ∉ c.wr → st'.hp[q]? = st.hp[q]?) → κ st') → wone P G B o st κ

section
variable {P : Program} {G : Gl} {X : XT} {B : Nat}

theorem put_slot (st : St) (d : Option Nat) (v : T) (t : Nat) : (st.put d v).sl t = if d = some t then v else st.sl t := by
  cases d with
  | none => simp [St.put]
  | some d =>
    simp only [St.put, putS, Option.some.injEq]
    by_cases e : t = d
    · rw [if_pos e, if_pos e.symm]
    · rw [if_neg e, if_neg fun x => e x.symm]
theorem put_hp (st : St) (d : Option Nat) (v : T) : (st.put d v).hp = st.hp := by cases d <;> rfl

/-! lent arguments look at their regions alone -/
theorem mapO_congr {α β : Type} {f g : α → Option β} : ∀ {l : List α}, (∀ a ∈ l, f a = g a) → mapO f l = mapO g l
  | [], _ => rfl
  | a :: r, h => by simp only [mapO, h a List.mem_cons_self, mapO_congr fun x hx => h x (List.mem_cons_of_mem _ hx)]

theorem toB_local {H H' : List O} : ∀ (n : Nat) {c : C}, (∀ q ∈ borC n H c, H'[q]? = H[q]?) → toB n H' c = toB n H c
  | 0, c, h => toD_local h
  | n + 1, c, h => by
    have ptr : ∀ r off, (∀ q ∈ borC (n + 1) H (.ptr r off), H'[q]? = H[q]?) → toB (n + 1) H' (.ptr r off) = toB (n + 1) H (.ptr r off) := by
      intro r off h
      simp only [toB]
      simp only [borC] at h
      rw [h r List.mem_cons_self]
      cases hq : H[r]? with
      | none => rfl
      | some o =>
        cases o with
        | cells cs =>
          rw [hq] at h
          dsimp only
          rw [mapO_congr (f := toB n H') (g := toB n H) fun c hc => toB_local n fun q hq' => h q (List.mem_cons_of_mem _ (List.mem_flatMap.2 ⟨c, hc, hq'⟩))]
        | _ => rfl
    cases c with
    | ptr r off => exact ptr r off h
    | eptr r sz i off =>
      simp only [toB]
      rw [h r (by simp [borC])]
    | mp r =>
      simp only [toB]
      rw [h r (by simp [borC])]
    | fn f caps =>
      simp only [toB]
      rw [mapO_congr (f := fun p : Nat × Nat => toB n H' (.ptr p.1 p.2)) (g := fun p => toB n H (.ptr p.1 p.2)) fun p hp => toB_local n fun q hq => h q (by simp only [borC]; exact List.mem_flatMap.2 ⟨p, hp, hq⟩)]
    | fx f caps =>
      simp only [toB]
      rw [mapO_congr (f := capD (toB n H')) (g := capD (toB n H)) fun p hp => by
        cases p with
        | r r o => exact toB_local n fun q hq => h q (by simp only [borC]; exact List.mem_flatMap.2 ⟨_, hp, hq⟩)
        | d x => rfl]
    | d x => simp only [toB]; exact toD_local (by simpa only [borC] using h)
    | os r sz off len => simp only [toB]; exact toD_local (by simpa only [borC] using h)
    | ifc => simp only [toB]; exact toD_local (by simpa only [borC] using h)
    | top => simp only [toB]; exact toD_local (by simpa only [borC] using h)

theorem toBV_local {H H' : List O} {u : V} (h : ∀ q ∈ borV H u, H'[q]? = H[q]?) : toBV H' u = toBV H u := by
  cases u with
  | any => rfl
  | c x =>
    have : toB 8 H' x = toB 8 H x := toB_local 8 fun q hq => h q (by simp only [borV, V.cells, List.flatMap_cons, List.flatMap_nil, List.append_nil]; exact hq)
    simp only [toBV, this]
  | agg cs =>
    have : mapO (toB 8 H') cs = mapO (toB 8 H) cs := mapO_congr fun c hc => toB_local 8 fun q hq => h q (by simp only [borV, V.cells]; exact List.mem_flatMap.2 ⟨c, hc, hq⟩)
    simp only [toBV, this]

theorem toPV_local {H H' : List O} {u : V} (hd : ∀ q ∈ osR u.cells, H'[q]? = H[q]?) : toPV H' u = toPV H u := by
  cases u with
  | any => rfl
  | c x => simp only [toPV, toD_local (c := x) hd]
  | agg cs => simp only [toPV, toDs_local (cs := cs) hd]

theorem toPVs_local : ∀ {vs : List V} {H H' : List O}, H'.length = H.length → (∀ q ∈ osVs vs, H'[q]? = H[q]?) → toPVs H' vs = toPVs H vs ∧
    (frzVs H' vs).length = H.length ∧ (∀ q ∈ osVs vs, (frzVs H' vs)[q]? = (frzVs H vs)[q]?) ∧ ∀ q, q ∉ osVs vs → (frzVs H' vs)[q]? = H'[q]? ∧ (frzVs H vs)[q]? = H[q]?
  | [], H, H', hl, h => ⟨rfl, hl, fun q hq => (by cases hq), fun q hq => ⟨rfl, rfl⟩⟩
  | u :: r, H, H', hl, h => by
    have hu : ∀ q ∈ osR u.cells, H'[q]? = H[q]? := fun q hq => h q (by simp only [osVs, List.flatMap_cons]; exact List.mem_append_left _ hq)
    obtain ⟨a1, a2, a3⟩ := frz_local hl hu
    have hl1 : (frz H u.cells).length = H.length := (frz_local (H := H) rfl fun q _ => rfl).1
    have hag : ∀ q ∈ osVs r, (frz H' u.cells)[q]? = (frz H u.cells)[q]? := by
      intro q hq
      by_cases hx : q ∈ osR u.cells
      · exact a2 q hx
      · rw [(a3 q hx).1, (a3 q hx).2]; exact h q (by simp only [osVs, List.flatMap_cons]; exact List.mem_append_right _ hq)
    obtain ⟨b0, b1, b2, b3⟩ := toPVs_local (vs := r) (H := frz H u.cells) (H' := frz H' u.cells) (by rw [a1, hl1]) hag
    refine ⟨by simp only [toPVs, toPV_local hu, b0], by simp only [frzVs]; rw [b1, hl1], fun q hq => ?_, fun q hq => ?_⟩
    · simp only [frzVs]
      have hq' : q ∈ osR u.cells ++ osVs r := by simpa only [osVs, List.flatMap_cons] using hq
      by_cases hx : q ∈ osVs r
      · exact b2 q hx
      · rw [(b3 q hx).1, (b3 q hx).2]
        exact a2 q ((List.mem_append.1 hq').resolve_right hx)
    · have hq' : q ∉ osR u.cells ++ osVs r := by simpa only [osVs, List.flatMap_cons] using hq
      have h1 : q ∉ osR u.cells := fun x => hq' (List.mem_append_left _ x)
      have h2 : q ∉ osVs r := fun x => hq' (List.mem_append_right _ x)
      simp only [frzVs]
      rw [(b3 q h2).1, (b3 q h2).2, (a3 q h1).1, (a3 q h1).2]
      exact ⟨rfl, rfl⟩

theorem callF_local {H H' : List O} {f : Nat} {vs : List V} {r : SR} (h : callF X H f vs = some r) (hl : H'.length = H.length) (hag : ∀ q, q ∈ r.rd ∨ q ∈ r.wr → H'[q]? = H[q]?) :
    r.hp.length = H.length ∧ (∀ q, q ∉ r.wr → r.hp[q]? = H[q]?) ∧
    ∃ r', callF X H' f vs = some r' ∧ (r.ob → r'.ob) ∧ r'.val = r.val ∧ r'.hp.length = H.length ∧ (∀ q ∈ r.wr, r'.hp[q]? = r.hp[q]?) ∧ ∀ q, q ∉ r.wr → r'.hp[q]? = H'[q]? := by
  unfold callF at h ⊢
  split at h
  · rename_i e he
    split at h
    · rename_i hsc
      split at h
      · rename_i ps hps
        split at h
        · rename_i ob t hg
          injection h with h; subst h
          have hb : toBVs H' vs = some ps := by
            rw [← hps]
            exact mapO_congr fun u hu => toBV_local fun q hq => hag q (.inl (List.mem_flatMap.2 ⟨u, hu, hq⟩))
          refine ⟨rfl, fun q _ => rfl, ?_⟩
          simp only [hb, hg]
          exact ⟨_, rfl, id, rfl, hl, fun q hq => (by cases hq), fun q _ => rfl⟩
        · cases h
      · cases h
    · rename_i hsc
      split at h
      · rename_i ps hps
        split at h
        · rename_i ob t hg
          injection h with h; subst h
          obtain ⟨b0, b1, b2, b3⟩ := toPVs_local (vs := vs) hl fun q hq => hag q (.inr hq)
          obtain ⟨_, c1, _, c3⟩ := toPVs_local (vs := vs) (H := H) (H' := H) rfl fun q _ => rfl
          refine ⟨c1, fun q hq => (c3 q hq).1, ?_⟩
          rw [b0, hps]
          simp only [hg]
          exact ⟨_, rfl, id, rfl, b1, b2, fun q hq => (b3 q hq).1⟩
        · cases h
      · cases h
  · cases h

theorem calleeOf_local {s s' : Nat → T} {a : A} (h : ∀ x ∈ a.opers, ev G s' x = ev G s x) : calleeOf G s' a = calleeOf G s a := by
  cases a
  case call f args =>
    have h' : ∀ x ∈ args, ev G s' x = ev G s x := h
    simp only [calleeOf, map_congr' h']
  case callv f args =>
    have h1 : ev G s' f = ev G s f := h f List.mem_cons_self
    have h' : ∀ x ∈ args, ev G s' x = ev G s x := fun x hx => h x (List.mem_cons_of_mem _ hx)
    simp only [calleeOf, h1, map_congr' h']
  all_goals rfl

theorem wop_of_fop {a : A} {st : St} {κ : Kt} {r : R} (h : fop B st.hp (ev G st.sl) a = some r) (hob : r.ob) (hk : κ r.val ⟨st.sl, r.hp⟩) : wop P G B a st κ := by
  by_cases hp : a.plain = true
  · rw [wop_plain hp, h]; exact ⟨hob, hk⟩
  cases a <;> first | (exfalso; exact hp rfl) | skip
  case call => cases h
  case callv => cases h
  case pick c x y =>
    simp only [fop] at h
    split at h
    · rename_i t e1
      injection h with h; subst h
      simp only [wop, e1, condP]
      cases t
      · exact ⟨fun e => by simp at e, fun _ => hk⟩
      · exact ⟨fun _ => hk, fun e => by simp at e⟩
    · cases h
  case eqN ng k x =>
    have h2 := h
    simp only [wop]
    split
    · rename_i xs e1; simp only [fop, e1] at h; cases h
    · rename_i r0 sz off len e1; simp only [fop, e1] at h; cases h
    · rw [h2]; exact ⟨hob, hk⟩

theorem wop_of_call {a : A} {st : St} {κ : Kt} {f : Nat} {vs : List V} (h : calleeOf G st.sl a = some (f, vs)) (hk : ACalls P G f vs st.hp (callK st.sl κ)) : wop P G B a st κ := by
  cases a
  case call f' args =>
    simp only [calleeOf] at h
    split at h
    · rename_i vs' e
      injection h with h; injection h with h1 h2; subst h1; subst h2
      simp only [wop, e]; exact hk
    · cases h
  case callv f' args =>
    simp only [calleeOf] at h
    split at h
    · rename_i f2 caps vs' e1 e2
      injection h with h; injection h with h1 h2; subst h1; subst h2
      simp only [wop, e1, e2]; exact hk
    · rename_i f2 caps vs' e1 e2
      injection h with h; injection h with h1 h2; subst h1; subst h2
      simp only [wop, e1, e2]; exact hk
    · cases h
  all_goals cases h

theorem ev_same {s s' : Nat → T} {l : List Operand} (h : ∀ t ∈ (l.filterMap fun x => match x with | .tmp t => some t | _ => none), s' t = s t) : ∀ x ∈ l, ev G s' x = ev G s x := by
  intro x hx
  cases x with
  | tmp t => exact h t (List.mem_filterMap.2 ⟨_, hx, rfl⟩)
  | const v => rfl
  | global g => rfl
  | func f => rfl

theorem stepX_other {st : St} {a : A} (h : a.isCall = false) : stepX G X B st a = match fop B st.hp (ev G st.sl) a with
    | some r => some ⟨(foot B (ev G st.sl) a).1, (foot B (ev G st.sl) a).2, r.ob, r.val, r.hp⟩
    | none => none := by
  cases a <;> first | rfl | cases h
theorem stepX_call {st : St} {a : A} (h : a.isCall = true) : stepX G X B st a = match calleeOf G st.sl a with
    | some (f, vs) => callF X st.hp f vs
    | none => none := by
  cases a <;> first | rfl | cases h

theorem foot_local {e e' : Operand → T} {a : A} (h : ∀ x ∈ a.opers, e' x = e x) : foot B e' a = foot B e a := by
  cases a
  case bsl j sz z len ps =>
    simp only [foot]
    congr 2
    rw [List.flatMap_def, List.flatMap_def, map_congr' (f := fun p : Nat × Operand => osT (e' p.2)) (g := fun p => osT (e p.2)) fun p hp => by rw [h _ (List.mem_map.2 ⟨p, hp, rfl⟩)]]
  all_goals first | rfl | (simp only [A.opers, List.mem_cons, List.not_mem_nil, or_false, forall_eq_or_imp, forall_eq, false_imp_iff, implies_true] at h; simp only [foot, h])

/-- One operation, alone and among others. -/
theorem stepX_step1 (hX : GoodX P G X) {o : AOper} {st : St} {s : SR} (h : stepX G X B st o.op = some s) (hob : s.ob)
    (hg : ∀ t want, o.guard = some (t, want) → st.sl t = .v (.c (.d (.v (.bool want))))) :
    Step1 P G B o ⟨s.rd, s.wr, s.val, st, (St.mk st.sl s.hp).put o.dst s.val⟩ := by
  have core : s.hp.length = st.hp.length ∧ (∀ q, q ∉ s.wr → s.hp[q]? = st.hp[q]?) ∧ ∀ st2 : St, (∀ x ∈ o.op.opers, ev G st2.sl x = ev G st.sl x) → st2.hp.length = st.hp.length → (∀ q, q ∈ s.rd ∨ q ∈ s.wr → st2.hp[q]? = st.hp[q]?) →
      ∀ κ : Kt, (∀ H2 : List O, H2.length = st.hp.length → (∀ q ∈ s.wr, H2[q]? = s.hp[q]?) → (∀ q, q ∉ s.wr → H2[q]? = st2.hp[q]?) → κ s.val ⟨st2.sl, H2⟩) → wop P G B o.op st2 κ := by
    by_cases hc : o.op.isCall = true
    · rw [stepX_call hc] at h
      split at h
      · rename_i f vs hcal
        obtain ⟨l1, l2, _⟩ := callF_local h rfl fun q _ => rfl
        refine ⟨l1, l2, fun st2 he hl hag κ hk => ?_⟩
        obtain ⟨_, _, r', g1, g2, g3, g4, g5, g6⟩ := callF_local h hl hag
        refine wop_of_call ((calleeOf_local he).trans hcal) ((callF_sound hX g1 (g2 hob)).mono fun t H2 ⟨e1, e2⟩ => ?_)
        subst e1; subst e2
        rw [g3]
        exact hk _ g4 g5 g6
      · cases h
    · rw [stepX_other (by simpa using hc)] at h
      split at h
      · rename_i r hr
        injection h with h; subst h
        obtain ⟨r0, q1, q2, q3, q4, q5, q6⟩ := fop_local hr rfl fun q _ => rfl
        rw [hr] at q1; injection q1 with q1; subst q1
        refine ⟨q4, q6, fun st2 he hl hag κ hk => ?_⟩
        obtain ⟨r', g1, g2, g3, g4, g5, g6⟩ := fop_local hr hl hag
        rw [← fop_opers he] at g1
        exact wop_of_fop g1 (g2 hob) (by rw [g3]; exact hk _ g4 g5 g6)
      · cases h
  obtain ⟨l1, l2, loc⟩ := core
  refine ⟨fun t => by rw [put_slot], by rw [put_hp]; exact l1, fun q hq => by rw [put_hp]; exact l2 q hq, fun st2 ht hl hag κ hk => ?_⟩
  have he : ∀ x ∈ o.op.opers, ev G st2.sl x = ev G st.sl x := ev_same fun t h' => ht t (List.mem_append_left _ h')
  have run : wop P G B o.op st2 fun t s' => κ (s'.put o.dst t) := loc st2 he hl hag _ fun H2 a1 a2 a3 => hk _ (fun t hd => by rw [put_slot, if_pos hd]) (fun t hd => by rw [put_slot, if_neg hd]) (by rw [put_hp]; exact a1)
    (fun q hq => by rw [put_hp, put_hp]; exact a2 q hq) (fun q hq => by rw [put_hp]; exact a3 q hq)
  unfold wone
  split
  · exact run
  · rename_i t want hgd
    have : st2.sl t = .v (.c (.d (.v (.bool want)))) := by
      rw [ht t (by unfold tmpsOf; rw [hgd]; simp)]; exact hg t want hgd
    unfold condW
    rw [this]
    exact ⟨fun _ => run, fun e => by cases want <;> simp at e⟩

/-- An operation whose guard is not met. -/
theorem skip_step1 {o : AOper} {st : St} {t : Nat} {want b : Bool} (hgd : o.guard = some (t, want)) (ht : st.sl t = .v (.c (.d (.v (.bool b))))) (hb : b ≠ want) :
    Step1 P G B o ⟨[], [], .tup [], st, st.put o.dst (.tup [])⟩ := by
  refine ⟨fun t => by rw [put_slot], by rw [put_hp], fun q hq => by rw [put_hp], fun st2 hs hl hag κ hk => ?_⟩
  have h2 : st2.sl t = .v (.c (.d (.v (.bool b)))) := by
    rw [hs t (by unfold tmpsOf; rw [hgd]; simp)]; exact ht
  unfold wone
  rw [hgd]
  show condW _ _ _ _
  unfold condW
  rw [h2]
  refine ⟨fun e => absurd e hb, fun e => hk _ (fun t hd => by rw [put_slot, if_pos hd]) (fun t hd => by rw [put_slot, if_neg hd]) (by rw [put_hp]; exact hl) (fun q hq => by cases hq) (fun q hq => by rw [put_hp])⟩

/-- An operation whose guard was itself skipped. -/
theorem skip_stepU {o : AOper} {st : St} {t : Nat} {want : Bool} (hgd : o.guard = some (t, want)) (ht : st.sl t = .tup []) :
    Step1 P G B o ⟨[], [], .tup [], st, st.put o.dst (.tup [])⟩ := by
  refine ⟨fun t => by rw [put_slot], by rw [put_hp], fun q hq => by rw [put_hp], fun st2 hs hl hag κ hk => ?_⟩
  have h2 : st2.sl t = .tup [] := by
    rw [hs t (by unfold tmpsOf; rw [hgd]; simp)]; exact ht
  unfold wone
  rw [hgd]
  show condW _ _ _ _
  unfold condW
  rw [h2]
  exact hk _ (fun t hd => by rw [put_slot, if_pos hd]) (fun t hd => by rw [put_slot, if_neg hd]) (by rw [put_hp]; exact hl) (fun q hq => by cases hq) (fun q hq => by rw [put_hp])

/-- The whole run. -/
def Runs (P : Program) (G : Gl) (B : Nat) (cl : List (List Nat)) : Nat → List AOper → List (Nat × List Nat) → List (Nat × List Nat) → St → List Rec → St → Prop
  | _, [], _, _, st, L, sE => L = [] ∧ sE = st
  | i, o :: r, Ws, Rs, st, L, sE => ∃ c L', L = c :: L' ∧ c.pre = st ∧ Step1 P G B o c ∧ apW cl i (c.rd ++ c.wr) Ws ∧ apW cl i c.wr Rs ∧ Runs P G B cl (i + 1) r (addH i c.wr Ws) (addH i c.rd Rs) c.post L' sE

theorem apW_nil (cl : List (List Nat)) (i : Nat) (h : List (Nat × List Nat)) : apW cl i [] h := by cases h <;> trivial

theorem wlex_runs (hX : GoodX P G X) {cl : List (List Nat)} : ∀ {ops : List AOper} {i : Nat} {Ws Rs : List (Nat × List Nat)} {st : St} {k : St → Prop}, wlex G X B cl i ops Ws Rs st k → ∃ L sE, k sE ∧ Runs P G B cl i ops Ws Rs st L sE
  | [], i, Ws, Rs, st, k, h => ⟨[], st, h, rfl, rfl⟩
  | o :: r, i, Ws, Rs, st, k, h => by
    have go : ∀ (hg : ∀ t want, o.guard = some (t, want) → st.sl t = .v (.c (.d (.v (.bool want))))), (match stepX G X B st o.op with
      | some s => s.ob ∧ apW cl i (s.rd ++ s.wr) Ws ∧ apW cl i s.wr Rs ∧ wlex G X B cl (i + 1) r (addH i s.wr Ws) (addH i s.rd Rs) ((St.mk st.sl s.hp).put o.dst s.val) k
      | none => False) → ∃ L sE, k sE ∧ Runs P G B cl i (o :: r) Ws Rs st L sE := by
      intro hg h
      split at h
      · rename_i s hs
        obtain ⟨hob, h1, h2, h3⟩ := h
        obtain ⟨L, sE, hk, hr⟩ := wlex_runs hX h3
        exact ⟨_, sE, hk, _, L, rfl, rfl, stepX_step1 hX hs hob hg, h1, h2, hr⟩
      · exact h.elim
    simp only [wlex] at h
    split at h
    · rename_i hgd
      exact go (fun t want e => by rw [hgd] at e; cases e) h
    · rename_i t want hgd
      unfold condW at h
      split at h
      · rename_i b hb
        by_cases e : b = want
        · subst e
          exact go (fun t' want' e' => by rw [hgd] at e'; injection e' with e'; injection e' with e1 e2; subst e1; subst e2; exact hb) (h.1 rfl)
        · have h' := h.2 (by cases b <;> cases want <;> simp_all)
          obtain ⟨L, sE, hk, hr⟩ := wlex_runs hX h'
          exact ⟨_, sE, hk, _, L, rfl, rfl, skip_step1 hgd hb e, apW_nil _ _ _, apW_nil _ _ _, hr⟩
      · rename_i hb
        obtain ⟨L, sE, hk, hr⟩ := wlex_runs hX h
        exact ⟨_, sE, hk, _, L, rfl, rfl, skip_stepU hgd hb, apW_nil _ _ _, apW_nil _ _ _, hr⟩
      · exact h.elim

theorem apW_mem {cl : List (List Nat)} {i : Nat} : ∀ {rw : List Nat} {h : List (Nat × List Nat)}, apW cl i rw h → ∀ {j : Nat} {wr : List Nat}, (j, wr) ∈ h → ordB cl j i = true ∨ ∀ x ∈ wr, x ∉ rw
  | [], h, _, j, wr, hm => .inr fun x _ hx => (by cases hx)
  | q :: rw, (j', wr') :: h, ⟨h1, h2⟩, j, wr, hm => by
    rcases List.mem_cons.1 hm with e | hm
    · injection e with e1 e2; subst e1; subst e2; exact h1
    · exact apW_mem h2 hm

theorem mem_addH {i j : Nat} {l wr : List Nat} {h : List (Nat × List Nat)} : (j, wr) ∈ h → (j, wr) ∈ addH i l h := by
  intro hm; cases l with
  | nil => exact hm
  | cons q l => exact List.mem_cons_of_mem _ hm
theorem self_addH {i : Nat} {l : List Nat} {h : List (Nat × List Nat)} : l = [] ∨ (i, l) ∈ addH i l h := by
  cases l with
  | nil => exact .inl rfl
  | cons q l => exact .inr List.mem_cons_self

/-- What a run says of its operations. -/
theorem runs_spec {cl : List (List Nat)} : ∀ {ops : List AOper} {i : Nat} {Ws Rs : List (Nat × List Nat)} {st : St} {L : List Rec} {sE : St}, Runs P G B cl i ops Ws Rs st L sE →
    L.length = ops.length ∧ (∀ (m : Nat) o c, ops[m]? = some o → L[m]? = some c → Step1 P G B o c) ∧
    (∀ (m : Nat) c, L[m]? = some c → (∀ j wr, (j, wr) ∈ Ws → ordB cl j (i + m) = true ∨ ∀ x ∈ wr, x ∉ c.rd ++ c.wr) ∧ (∀ j wr, (j, wr) ∈ Rs → ordB cl j (i + m) = true ∨ ∀ x ∈ wr, x ∉ c.wr)) ∧
    (∀ (m m' : Nat) c c', m' < m → L[m]? = some c → L[m']? = some c' → ordB cl (i + m') (i + m) = true ∨ ((∀ x ∈ c'.wr, x ∉ c.rd ++ c.wr) ∧ ∀ x ∈ c'.rd, x ∉ c.wr)) ∧
    (∀ c, L[0]? = some c → c.pre = st) ∧ (∀ (m : Nat) c c', L[m]? = some c → L[m + 1]? = some c' → c'.pre = c.post) ∧ (∀ c, L.getLast? = some c → sE = c.post) ∧ (L = [] → sE = st)
  | [], i, Ws, Rs, st, L, sE, ⟨h1, h2⟩ => by
    subst h1; subst h2
    exact ⟨rfl, fun m o c h => by simp at h, fun m c h => by simp at h, fun m m' c c' _ h => by simp at h, fun c h => by simp at h, fun m c c' h => by simp at h, fun c h => by simp at h, fun _ => rfl⟩
  | o :: r, i, Ws, Rs, st, L, sE, ⟨c, L', hL, hpre, hs, ha, hb, hr⟩ => by
    subst hL
    obtain ⟨g1, g2, g3, g4, g5, g6, g7, g8⟩ := runs_spec hr
    refine ⟨by simp [g1], fun m o' c' ho hc => ?_, fun m c' hc => ?_, fun m m' c1 c2 hlt h1 h2 => ?_, fun c' hc => ?_, fun m c1 c2 h1 h2 => ?_, fun c' hc => ?_, fun e => by cases e⟩
    · cases m with
      | zero => simp at ho hc; subst ho; subst hc; exact hs
      | succ m => exact g2 m o' c' (by simpa using ho) (by simpa using hc)
    · cases m with
      | zero =>
        simp at hc; subst hc
        exact ⟨fun j wr hm => apW_mem ha hm, fun j wr hm => apW_mem hb hm⟩
      | succ m =>
        obtain ⟨q1, q2⟩ := g3 m c' (by simpa using hc)
        rw [show i + (m + 1) = i + 1 + m by omega]
        exact ⟨fun j wr hm => q1 j wr (mem_addH hm), fun j wr hm => q2 j wr (mem_addH hm)⟩
    · cases m with
      | zero => omega
      | succ m =>
        have h1' : L'[m]? = some c1 := by simpa using h1
        cases m' with
        | zero =>
          simp at h2; subst h2
          obtain ⟨q1, q2⟩ := g3 m c1 h1'
          rw [show i + (m + 1) = i + 1 + m by omega, Nat.add_zero]
          have e1 : ordB cl i (i + 1 + m) = true ∨ ∀ x ∈ c.wr, x ∉ c1.rd ++ c1.wr := by
            rcases self_addH (i := i) (l := c.wr) (h := Ws) with e | e
            · exact .inr fun x hx => by rw [e] at hx; cases hx
            · exact q1 _ _ e
          have e2 : ordB cl i (i + 1 + m) = true ∨ ∀ x ∈ c.rd, x ∉ c1.wr := by
            rcases self_addH (i := i) (l := c.rd) (h := Rs) with e | e
            · exact .inr fun x hx => by rw [e] at hx; cases hx
            · exact q2 _ _ e
          rcases e1 with e1 | e1
          · exact .inl e1
          · rcases e2 with e2 | e2
            · exact .inl e2
            · exact .inr ⟨e1, e2⟩
        | succ m' =>
          have := g4 m m' c1 c2 (by omega) h1' (by simpa using h2)
          rw [show i + (m + 1) = i + 1 + m by omega, show i + (m' + 1) = i + 1 + m' by omega]
          exact this
    · simp at hc; subst hc; exact hpre
    · cases m with
      | zero =>
        simp at h1; subst h1
        exact g5 c2 (by simpa using h2)
      | succ m => exact g6 m c1 c2 (by simpa using h1) (by simpa using h2)
    · cases L' with
      | nil => simp at hc; subst hc; exact g8 rfl
      | cons x l =>
        rw [List.getLast?_cons_cons] at hc
        exact g7 c' hc

theorem wlex_sound (hX : GoodX P G X) {ops : List AOper} {after : List (List Nat)} {s0 : St} {k : St → Prop} (hok : drawOk (clos after) ops after = true)
    (h : wlex G X B (clos after) 0 ops [] [] s0 k) : wAny P G B ops after after.length [] s0 k := by
  obtain ⟨L, sE, hk, hr⟩ := wlex_runs hX h
  obtain ⟨g1, g2, _, g4, g5, g6, g7, g8⟩ := runs_spec hr
  unfold drawOk at hok
  simp only [Bool.and_eq_true, beq_iff_eq] at hok
  obtain ⟨⟨hl, hac⟩, hsl⟩ := hok
  let E : Eff := ⟨fun i => (ops[i]?).bind (·.dst), fun i => match L[i]? with | some c => c.val | none => .v .any, fun i q => ∃ c, L[i]? = some c ∧ q ∈ c.wr, fun i q => match L[i]? with | some c => c.post.hp[q]? | none => none⟩
  have hat : ∀ i, i ≤ ops.length → (∀ c, L[i]? = some c → (∀ t, slAt E s0 (fun _ => True) i t = c.pre.sl t) ∧ (∀ q, hpAt E s0 (fun _ => True) i q = c.pre.hp[q]?) ∧ c.pre.hp.length = s0.hp.length) ∧
      (i = ops.length → (∀ t, slAt E s0 (fun _ => True) i t = sE.sl t) ∧ (∀ q, hpAt E s0 (fun _ => True) i q = sE.hp[q]?) ∧ sE.hp.length = s0.hp.length) := by
    intro i
    induction i with
    | zero =>
      intro _
      refine ⟨fun c hc => ?_, fun e => ?_⟩
      · rw [g5 c hc]; exact ⟨fun t => rfl, fun q => rfl, rfl⟩
      · have : L = [] := List.eq_nil_of_length_eq_zero (by rw [g1]; exact e.symm)
        rw [g8 this]; exact ⟨fun t => rfl, fun q => rfl, rfl⟩
    | succ i ih =>
      intro hi
      have hil : i < ops.length := by omega
      have hLi : L[i]? = some (L[i]'(by omega)) := by simp
      have hoi : ops[i]? = some ops[i] := by simp
      obtain ⟨p1, p2, p3⟩ := (ih (by omega)).1 _ hLi
      have hs := g2 i _ _ hoi hLi
      have post : (∀ t, slAt E s0 (fun _ => True) (i + 1) t = (L[i]'(by omega)).post.sl t) ∧ (∀ q, hpAt E s0 (fun _ => True) (i + 1) q = (L[i]'(by omega)).post.hp[q]?) ∧ (L[i]'(by omega)).post.hp.length = s0.hp.length := by
        refine ⟨fun t => ?_, fun q => ?_, by rw [hs.len]; exact p3⟩
        · unfold slAt
          rw [hs.slot t, p1 t]
          have e : E.dst i = ops[i].dst := by simp [E, hoi]
          have e2 : E.val i = (L[i]'(by omega)).val := by simp [E, hLi]
          rw [e, e2]
          by_cases q : ops[i].dst = some t
          · rw [if_pos ⟨trivial, q⟩, if_pos q]
          · rw [if_neg (fun x => q x.2), if_neg q]
        · unfold hpAt
          have e : E.wr i q ↔ q ∈ (L[i]'(by omega)).wr := by simp only [E, hLi]; exact ⟨fun ⟨c, h1, h2⟩ => by injection h1 with h1; rw [h1]; exact h2, fun h => ⟨_, rfl, h⟩⟩
          have e2 : E.obj i q = (L[i]'(by omega)).post.hp[q]? := by simp [E, hLi]
          by_cases hq : q ∈ (L[i]'(by omega)).wr
          · rw [if_pos ⟨trivial, e.2 hq⟩, e2]
          · rw [if_neg (fun x => hq (e.1 x.2)), p2 q, hs.out q hq]
      refine ⟨fun c hc => ?_, fun e => ?_⟩
      · rw [g6 i _ c hLi hc]; exact post
      · have : L.getLast? = some (L[i]'(by omega)) := by
          have e9 : L.length - 1 = i := by omega
          rw [List.getLast?_eq_getElem?, e9]; exact hLi
        rw [g7 _ this]; exact post
  let rs : Nat → Nat → Prop := fun i t => ∃ o, ops[i]? = some o ∧ t ∈ tmpsOf o
  let rd : Nat → Nat → Prop := fun i q => ∃ c, L[i]? = some c ∧ q ∈ c.rd
  have hbo : ∀ j i, before after j i = ordB (clos after) j i := fun j i => rfl
  have calm : Calm P G B ops after s0 E rs rd := by
    refine ⟨fun i j hji hi hb => ?_, fun i o ho st hst hlen hhp κ hκ => ?_⟩
    · have hoi : ops[i]? = some ops[i] := by simp
      have hoj : ops[j]? = some (ops[j]'(by omega)) := by simp
      have hLi : L[i]? = some (L[i]'(by omega)) := by simp
      have hLj : L[j]? = some (L[j]'(by omega)) := by simp
      have h1 := List.all_eq_true.1 hsl i (by simpa using hi)
      have h2 := List.all_eq_true.1 h1 j (by simpa using hji)
      rw [← hbo, hb, hoi, hoj] at h2
      simp only [Bool.false_or, Bool.and_eq_true] at h2
      have h3 := g4 i j _ _ hji hLi hLj
      rw [Nat.zero_add, Nat.zero_add, ← hbo, hb] at h3
      have h3 := h3.resolve_left (by simp)
      have ed : ∀ m (hm : m < ops.length), E.dst m = ops[m].dst := fun m hm => by simp [E, hm]
      refine ⟨fun t ht => ?_, fun t ht => ?_, fun q hq => ?_, fun q hq => ?_⟩
      · rw [ed j (by omega)] at ht
        have q := h2.1
        rw [ht] at q
        simp only [Bool.and_eq_true, Bool.not_eq_true', bne_iff_ne, ne_eq] at q
        refine ⟨fun ⟨o, ho, hm⟩ => ?_, by rw [ed i hi]; exact q.2⟩
        rw [hoi] at ho; injection ho with ho; subst ho
        have := q.1
        rw [List.contains_eq_mem, decide_eq_false_iff_not] at this
        exact this hm
      · rw [ed i hi] at ht
        have q := h2.2
        rw [ht] at q
        simp only [Bool.not_eq_true'] at q
        rintro ⟨o, ho, hm⟩
        rw [hoj] at ho; injection ho with ho; subst ho
        rw [List.contains_eq_mem, decide_eq_false_iff_not] at q
        exact q hm
      · obtain ⟨c, hc, hm⟩ := hq
        rw [hLj] at hc; injection hc with hc; subst hc
        have := h3.1 q hm
        refine ⟨fun ⟨c, hc, hm'⟩ => ?_, fun ⟨c, hc, hm'⟩ => ?_⟩
        · rw [hLi] at hc; injection hc with hc; subst hc
          exact this (List.mem_append_left _ hm')
        · rw [hLi] at hc; injection hc with hc; subst hc
          exact this (List.mem_append_right _ hm')
      · obtain ⟨c, hc, hm⟩ := hq
        rw [hLi] at hc; injection hc with hc; subst hc
        rintro ⟨c, hc, hm'⟩
        rw [hLj] at hc; injection hc with hc; subst hc
        exact h3.2 q hm' hm
    · have hi : i < ops.length := lt_of_get ho
      have hLi : L[i]? = some (L[i]'(by omega)) := by simp
      obtain ⟨p1, p2, p3⟩ := (hat i (by omega)).1 _ hLi
      have hs := g2 i o _ ho hLi
      have ed : E.dst i = o.dst := by simp [E, ho]
      have ev' : E.val i = (L[i]'(by omega)).val := by simp [E, hLi]
      refine hs.loc st (fun t ht => by rw [hst t ⟨o, ho, ht⟩, p1 t]) (by rw [hlen, p3]) (fun q hq => ?_) κ fun st' a1 a2 a3 a4 a5 => ?_
      · rw [hhp q ?_, p2 q]
        rcases hq with hq | hq
        · exact .inl ⟨_, hLi, hq⟩
        · exact .inr ⟨_, hLi, hq⟩
      · refine hκ st' (fun t ht => ?_) (fun t ht => ?_) (by rw [a3, p3]) (fun q hq => ?_) (fun q hq => ?_)
        · rw [ev']; exact a1 t (by rw [← ed]; exact ht)
        · exact a2 t (by rw [← ed]; exact ht)
        · obtain ⟨c, hc, hm⟩ := hq
          rw [hLi] at hc; injection hc with hc; subst hc
          rw [a4 q hm]; simp [E, hLi]
        · exact a5 q fun hm => hq ⟨_, hLi, hm⟩
  have hfin : ∀ st, At E s0 ops.length (fun _ => True) st → k st := by
    intro st hA
    obtain ⟨p1, p2, p3⟩ := (hat ops.length (Nat.le_refl _)).2 rfl
    have : st = sE := by
      have e1 : st.sl = sE.sl := funext fun t => by rw [hA.sl t, p1 t]
      have e2 : st.hp = sE.hp := List.ext_getElem? fun q => by rw [hA.hp q, p2 q]
      cases st; cases sE; simp only at e1 e2; rw [e1, e2]
    rw [this]; exact hk
  refine calm_any calm hl hac hfin after.length [] s0 ⟨fun t => ?_, rfl, fun r => ?_⟩ (fun x hx => by cases hx) List.nodup_nil (fun x hx => by cases hx) (by simpa using hl)
  · have : ∀ n, slAt E s0 (fun i => i ∈ ([] : List Nat)) n t = s0.sl t := fun n => by
      rw [slAt_top (i := 0) n (by omega) (fun j _ _ hj => by cases hj)]; rfl
    rw [this]
  · have : ∀ n, hpAt E s0 (fun i => i ∈ ([] : List Nat)) n r = s0.hp[r]? := fun n => by
      rw [hpAt_top (i := 0) n (by omega) (fun j _ _ hj => by cases hj)]; rfl
    rw [this]

theorem wcodeX_sound (hX : GoodX P G X) {N0 : Nat} : ∀ {c : AC} {st : St} {Q : Qt}, wcodeX P G X N0 c st Q → wcode P G N0 c st Q
  | .skip, st, Q, h => h
  | .region n ops, st, Q, h => wopsX_sound hX h
  | .dregion n ops after, st, Q, h => wlex_sound hX h.1 h.2
  | .seq x y, st, Q, h => wcode_mono (c := x) (Q := thenQ (wcodeX P G X N0 y) Q) (fun e s q => by
      cases e with
      | normal => exact wcodeX_sound hX (c := y) q
      | exit i => exact q
      | ret => exact q) (wcodeX_sound hX (c := x) h)
  | .cond c x y, st, Q, h => condP_mono h (wcodeX_sound hX) (wcodeX_sound hX)
  | .block id x, st, Q, h => wcodeX_sound hX (c := x) h
  | .loop x, st, Q, h => by
      obtain ⟨I, μ, h1, h2⟩ := h
      exact ⟨I, μ, h1, fun s hs => wcodeX_sound hX (c := x) (h2 s hs)⟩
  | .exit id, st, Q, h => h
  | .ret, st, Q, h => h

end
end Go.Aw

/- How a function's contract is proved: its code run with a table of contracts, its loops by counted invariants. -/
namespace Go.Aw
open Go

section
variable {P : Program} {G : Gl} {X : XT}

theorem wopsX_mono {B : Nat} : ∀ {l : List AOper} {st : St} {k k' : St → Prop}, (∀ s, k s → k' s) → wopsX P G X B l st k → wopsX P G X B l st k'
  | [], st, k, k', hk, h => hk _ h
  | o :: r, st, k, k', hk, h => by
    simp only [wopsX] at h ⊢
    cases hg : o.guard with
    | none => rw [hg] at h; exact wopX_mono (fun t s q => wopsX_mono hk q) h
    | some p => rw [hg] at h; exact condW_mono h (wopX_mono fun t s q => wopsX_mono hk q) (wopsX_mono hk)

theorem wlex_mono {B : Nat} {cl : List (List Nat)} : ∀ {l : List AOper} {i : Nat} {Ws Rs : List (Nat × List Nat)} {st : St} {k k' : St → Prop}, (∀ s, k s → k' s) → wlex G X B cl i l Ws Rs st k → wlex G X B cl i l Ws Rs st k'
  | [], i, Ws, Rs, st, k, k', hk, h => hk _ h
  | o :: r, i, Ws, Rs, st, k, k', hk, h => by
    have go : (match stepX G X B st o.op with
      | some s => s.ob ∧ apW cl i (s.rd ++ s.wr) Ws ∧ apW cl i s.wr Rs ∧ wlex G X B cl (i + 1) r (addH i s.wr Ws) (addH i s.rd Rs) ((St.mk st.sl s.hp).put o.dst s.val) k
      | none => False) → (match stepX G X B st o.op with
      | some s => s.ob ∧ apW cl i (s.rd ++ s.wr) Ws ∧ apW cl i s.wr Rs ∧ wlex G X B cl (i + 1) r (addH i s.wr Ws) (addH i s.rd Rs) ((St.mk st.sl s.hp).put o.dst s.val) k'
      | none => False) := by
      intro h
      cases hs : stepX G X B st o.op with
      | none => rw [hs] at h; exact h.elim
      | some s => rw [hs] at h; exact ⟨h.1, h.2.1, h.2.2.1, wlex_mono hk h.2.2.2⟩
    simp only [wlex] at h ⊢
    cases hg : o.guard with
    | none => rw [hg] at h; exact go h
    | some p => rw [hg] at h; exact condW_mono h go (wlex_mono hk)

theorem wcodeX_mono {N0 : Nat} : ∀ {c : AC} {st : St} {Q Q' : Qt}, (∀ e s, Q e s → Q' e s) → wcodeX P G X N0 c st Q → wcodeX P G X N0 c st Q'
  | .skip, st, Q, Q', hq, h => hq _ _ h
  | .region n ops, st, Q, Q', hq, h => wopsX_mono (fun s q => hq _ _ q) h
  | .dregion n ops after, st, Q, Q', hq, h => ⟨h.1, wlex_mono (fun s q => hq _ _ q) h.2⟩
  | .seq x y, st, Q, Q', hq, h => by
      show wcodeX P G X N0 x st (thenQ (wcodeX P G X N0 y) Q')
      refine wcodeX_mono (c := x) (Q := thenQ (wcodeX P G X N0 y) Q) (fun e s q => ?_) h
      cases e with
      | normal => exact wcodeX_mono (c := y) hq q
      | exit i => exact hq _ _ q
      | ret => exact hq _ _ q
  | .cond c x y, st, Q, Q', hq, h => condP_mono h (wcodeX_mono hq) (wcodeX_mono hq)
  | .block id x, st, Q, Q', hq, h => by
      show wcodeX P G X N0 x st (blockQ id Q')
      refine wcodeX_mono (c := x) (Q := blockQ id Q) (fun e s q => ?_) h
      cases e with
      | normal => exact hq _ _ q
      | exit i =>
        show if i = id then Q' .normal s else Q' (.exit i) s
        have q : if i = id then Q .normal s else Q (.exit i) s := q
        split
        · rename_i e; rw [if_pos e] at q; exact hq _ _ q
        · rename_i e; rw [if_neg e] at q; exact hq _ _ q
      | ret => exact hq _ _ q
  | .loop x, st, Q, Q', hq, h => by
      obtain ⟨I, μ, h1, h2⟩ := h
      refine ⟨I, μ, h1, fun s hs => wcodeX_mono (fun e s' q => ?_) (h2 s hs)⟩
      cases e with
      | normal => exact q
      | exit i => exact hq _ _ q
      | ret => exact hq _ _ q
  | .exit id, st, Q, Q', hq, h => hq _ _ h
  | .ret, st, Q, Q', hq, h => hq _ _ h

open Classical in
theorem loopX {N0 : Nat} {x : AC} {st : St} {Q : Qt} (I : Nat → St → Prop) (h0 : wk P G N0 st fun s => ∃ k, I k s)
    (h : ∀ k s, I k s → wcodeX P G X N0 x s (loopN P G N0 I k Q)) : wcodeX P G X N0 (.loop x) st Q := by
  let J : St → Prop := fun s => ∃ k, I k s
  have hleast : ∀ s, J s → ∃ k, I k s ∧ ∀ k', I k' s → k ≤ k' := by
    rintro s ⟨k, hk⟩
    induction k using Nat.strongRecOn with
    | _ k ih =>
      by_cases hx : ∃ k', k' < k ∧ I k' s
      · obtain ⟨k', h1, h2⟩ := hx; exact ih k' h1 h2
      · refine ⟨k, hk, fun k' hk' => Nat.le_of_not_lt fun hl => hx ⟨k', hl, hk'⟩⟩
  let μ : St → Nat := fun s => if hs : J s then Classical.choose (hleast s hs) else 0
  have hμ : ∀ s, J s → I (μ s) s ∧ ∀ k', I k' s → μ s ≤ k' := fun s hs => by
    have := Classical.choose_spec (hleast s hs)
    simp only [μ, dif_pos hs]; exact this
  show loopW P G N0 (wcodeX P G X N0 x) st Q
  refine ⟨J, μ, h0, fun s hs => ?_⟩
  refine wcodeX_mono (fun e s' q => ?_) (h (μ s) s (hμ s hs).1)
  cases e with
  | normal => exact wk_mono (fun s'' ⟨k', h1, h2⟩ => ⟨⟨k', h2⟩, Nat.lt_of_le_of_lt ((hμ s'' ⟨k', h2⟩).2 k' h2) h1⟩) q
  | exit i => exact q
  | ret => exact q

theorem acallsX {tt : TT} (hX : GoodX P G X) (htab : tabB P tt = true) (hmix : P.follows .mixedOrders = true) {f : Nat} {fn : Func} {af : AF} (hf : P.funcs[f]? = some fn) (hc : compF tt fn = some af) {args : List V} {H : List O} {R : T → List O → Prop} (hn : Nat.ble args.length af.n = true)
    (h : Wf H → wcodeX P G X H.length af.body ⟨argSl args, H⟩ (retQ P H.length af.res R)) : ACalls P G f args H R :=
  acalls_pre htab hmix hf hc hn fun hw => wcodeX_sound hX (h hw)

end
end Go.Aw
