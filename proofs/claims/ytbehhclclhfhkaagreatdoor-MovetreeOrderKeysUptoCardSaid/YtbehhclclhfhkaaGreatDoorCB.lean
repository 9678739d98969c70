/- An abstract machine over the model, and contracts of functions of this program on it (part 2): words and lemmas for the proof in the last text. -/
import Derived.Test.YtbehhclclhfhkaaGreatDoorCA
set_option linter.unusedVariables false
set_option linter.unusedSimpArgs false
noncomputable section

namespace Go.Aw
open Go
section
variable {P:Program} {G:Gl} {n:Nat} {b:Base} {ρ:Nat→Option Nat} {st:St} {a:Act} {w:World} {B:Nat} {r:R} {o:Oper} {tt:TT}
theorem size1 {ti:TI} (h:(ti.agg || ti.size == 1)=true):ti.agg=false→ti.size=1:=fun hg=>by
 rw [hg] at h; simpa using h
theorem toArray_of {α:Type} {x:Array α} {l:List α} (h:x.toList=l):x=l.toArray:=by rw [← h]
theorem s_pick (hs:Sim P G n b ρ st a w) (c x y:Operand) (ho:o.op = .pick c x y)
  (hf:fop B st.hp (ev G st.sl) (.pick c x y)=some r):Sound P G n b ρ st a w o r:=by
 simp only [fop] at hf
 split at hf
 ·rename_i t e1
  injection hf with hf; subst hf
  refine Sound.same hs (v:=if t then a.eval x else a.eval y) ?_ ?_
  ·simp [execOp,ho,ev_val hs e1,asBool]
  ·cases t
   ·exact ev_sound hs y
   ·exact ev_sound hs x
 ·cases hf
theorem call_sound (htab:tabB P tt=true) (hs:Sim P G n b ρ st a w) {j:Nat} {c:Call} {A':A} (ho:o.op = .call c) (hc:compCall tt j c=some A')
  (hf:fop B st.hp (ev G st.sl) A'=some r) (hob:r.ob):Sound P G n b ρ st a w o r:=by
 obtain ⟨cal,args,tys⟩:=c
 unfold compCall at hc
 dsimp only at hc
 split at hc
 ·injection hc with hc; subst hc; cases hf
 ·injection hc with hc; subst hc; cases hf
 ·split at hc
  ·rename_i t x h1 h2
   have ha:=toArray_of h2
   subst ha
   split at hc
   ·rename_i ti hti
    split at hc
    ·rename_i hk
     injection hc with hc; subst hc
     exact s_lenS htab hs hti x tys h1 hk ho hf
    ·rename_i e hk
     injection hc with hc; subst hc
     exact s_lenL htab hs hti x tys h1 hk ho hf
    ·rename_i k e hk
     injection hc with hc; subst hc
     exact s_lenM htab hs hti x tys h1 hk ho hf
    ·cases hc
   ·cases hc
  ·cases hc
 ·split at hc
  ·rename_i t u s x h1 h2 h3
   have ha:=toArray_of h3
   subst ha
   split at hc
   ·rename_i ti ui hti hui
    split at hc
    ·rename_i e e' hk hk'
     split at hc
     ·rename_i ei hei
      split at hc
      ·rename_i hcc
       injection hc with hc; subst hc
       obtain ⟨_,c1,c2,c3⟩:=hcc
       exact s_app htab hs hti hk hui hk' hei c1 c2 c3 tys h1 h2 _ j s x ho hf hob
      ·cases hc
     ·cases hc
    ·cases hc
   ·cases hc
  ·cases hc
 ·split at hc
  ·rename_i t x y h1 h2
   have ha:=toArray_of h2
   subst ha
   split at hc
   ·rename_i ti hti
    split at hc
    ·rename_i k hk
     injection hc with hc; subst hc
     exact s_maxmin hs true k x y tys trivial ho hf
    ·cases hc
   ·cases hc
  ·cases hc
 ·split at hc
  ·rename_i t x y h1 h2
   have ha:=toArray_of h2
   subst ha
   split at hc
   ·rename_i ti hti
    split at hc
    ·rename_i k hk
     injection hc with hc; subst hc
     exact s_maxmin hs false k x y tys trivial ho hf
    ·cases hc
   ·cases hc
  ·cases hc
 ·split at hc
  ·rename_i t x h1 h2
   have ha:=toArray_of h2
   subst ha
   split at hc
   ·rename_i ti hti
    split at hc
    ·rename_i e hk
     split at hc
     ·rename_i ei hei
      split at hc
      ·rename_i hcc
       injection hc with hc; subst hc
       exact s_clr htab hs hti hk hei hcc.1 hcc.2 x tys h1 ho hf hob
      ·cases hc
     ·cases hc
    ·cases hc
   ·cases hc
  ·cases hc
 ·split at hc
  ·rename_i t m k h1 h2
   have ha:=toArray_of h2
   subst ha
   split at hc
   ·rename_i ti hti
    split at hc
    ·rename_i kt e hk
     split at hc
     ·rename_i kt' hkt
      injection hc with hc; subst hc
      exact s_mapdel htab hs hti hk hkt m k tys h1 ho hf
     ·cases hc
    ·cases hc
   ·cases hc
  ·cases hc
 ·cases hc
theorem under_int (htab:tabB P tt=true) {t:Nat} {ti:TI} {k:IntKind} (ht:tget tt t=some ti) (hk:ti.kind = .int k):P.underlying t=some (.int k):=by
 obtain ⟨d,hu,hd⟩:=run_under htab ht
 rw [hk] at hd
 rw [hu,kindB_int hd]
theorem under_bool (htab:tabB P tt=true) {t:Nat} {ti:TI} (ht:tget tt t=some ti) (hk:ti.kind = .bool):P.underlying t=some .bool:=by
 obtain ⟨d,hu,hd⟩:=run_under htab ht
 rw [hk] at hd
 rw [hu,kindB_bool hd]
theorem bin_sound (htab:tabB P tt=true) (hs:Sim P G n b ρ st a w) {j:Nat} {op:BinOp} {t t':Nat} {x y:Operand} {A':A} (ho:o.op = .binOp op t x y t') (hc:compOp tt j (.binOp op t x y t')=some A')
  (hf:fop B st.hp (ev G st.sl) A'=some r) (hob:r.ob):Sound P G n b ρ st a w o r:=by
 simp only [compOp] at hc
 split at hc
 ·rename_i ti hti
  split at hc
  ·rename_i k hk
   injection hc with hc; subst hc
   exact s_shf hs .shl k t t' x y ho hf hob
  ·rename_i k hk
   injection hc with hc; subst hc
   exact s_shf hs .shr k t t' x y ho hf hob
  ·rename_i k hk _ _
   injection hc with hc; subst hc
   exact s_binI hs _ k t t' x y ho hf hob
  ·rename_i hk
   injection hc with hc; subst hc
   exact s_binS hs _ t t' x y ho hf hob
  ·rename_i hk
   injection hc with hc; subst hc
   exact s_eqB (under_bool htab hti hk) hs false x y t' ho hf
  ·rename_i hk
   injection hc with hc; subst hc
   exact s_eqB (under_bool htab hti hk) hs true x y t' ho hf
  ·rename_i fs hk
   split at hc
   ·rename_i ks hks
    injection hc with hc; subst hc
    exact s_eqA htab hs hti hk hks false x y ho hf
   ·cases hc
  ·rename_i fs hk
   split at hc
   ·rename_i ks hks
    injection hc with hc; subst hc
    exact s_eqA htab hs hti hk hks true x y ho hf
   ·cases hc
  ·rename_i kd hk _ _ _ _
   split at hc
   ·rename_i k hnk
    split at hc
    ·rename_i hy
     injection hc with hc; subst hc
     exact s_eqN htab hs hti hnk false x y hy ho hf
    ·cases hc
   ·cases hc
  ·rename_i kd hk _ _ _ _
   split at hc
   ·rename_i k hnk
    split at hc
    ·rename_i hy
     injection hc with hc; subst hc
     exact s_eqN htab hs hti hnk true x y hy ho hf
    ·cases hc
   ·cases hc
  ·cases hc
 ·cases hc
theorem bytR_get:∀ {ys:List (List D)} {l:List UInt8},bytR ys=some l→ys.length=l.length∧∀ (i:Nat) (b:UInt8),l[i]? = some b→∃ n:Int,ys[i]? = some [.v (.int .u8 n)]∧b=UInt8.ofNat n.toNat:=by
 intro ys
 induction ys with
 | nil=>intro l h; simp only [bytR,Option.some.injEq] at h; subst h; exact ⟨rfl,fun i b hb=>by simp at hb⟩
 | cons y r ih =>
  intro l h
  unfold bytR at h
  split at h
  ·rename_i e; cases e
  ·rename_i n r' e
   injection e with e1 e2
   subst e1; subst e2
   split at h
   ·rename_i l' hl
    injection h with h; subst h
    obtain ⟨a,b⟩:=ih hl
    refine ⟨by simp [a],fun i x hx=>?_⟩
    cases i with
    | zero=>simp at hx; exact ⟨n,rfl,hx.symm⟩
    | succ i=>simpa using b i x (by simpa using hx)
   ·cases h
  ·cases h
theorem forIn_bytes {f:Value→ByteArray→Sem (ForInStep ByteArray)} (hf:∀ (n:Int) s,f (.int .u8 n) s=pure (ForInStep.yield (s.push (UInt8.ofNat n.toNat)))) :
  ∀ (l:List UInt8) (vs:List Value) (s:ByteArray),vs.length=l.length→(∀ (i:Nat) b,l[i]? = some b→∃ n:Int,vs[i]? = some (.int .u8 n)∧b=UInt8.ofNat n.toNat)→(forIn vs s f).run P w = .ok ⟨s.data ++ l.toArray⟩ w
 | [],[],s,_,_=>by simp
 | [],v :: vs,s,h,_=>by cases h
 | b :: l,[],s,h,_=>by cases h
 | b :: l,v :: vs,s,h,hr=>by
  obtain ⟨n,h1,h2⟩:=hr 0 b rfl
  simp only [gz,Option.some.injEq] at h1
  subst h1
  have ih:=forIn_bytes hf l vs (s.push (UInt8.ofNat n.toNat)) (by simpa using h) (fun i x hx=>by simpa using hr (i+1) x (by simpa using hx))
  rw [List.forIn_cons,hf]
  simp only [Sem.run_bind,Sem.run_pure,Result.andThen_ok,ih]
  rw [h2]
  congr 2
  simp [ByteArray.push]
theorem s_str (htab:tabB P tt=true) (hs:Sim P G n b ρ st a w) {t u e:Nat} {ti ui ei:TI} (ht:tget tt t=some ti) (hk:ti.kind = .sl e) (hu:tget tt u=some ui) (hku:ui.kind = .str) (he:tget tt e=some ei) (hke:ei.kind = .int .u8)
  (x:Operand) (ho:o.op = .convert t u x) (hf:fop B st.hp (ev G st.sl) (.str x)=some r):Sound P G n b ρ st a w o r:=by
 obtain ⟨d,hud,hd⟩:=run_under htab ht
 rw [hk] at hd
 rw [kindB_sl hd] at hud
 obtain ⟨d',hud',hd'⟩:=run_under htab hu
 rw [hku] at hd'
 rw [kindB_str hd'] at hud'
 have hue:=under_int htab he hke
 simp only [fop] at hf
 split at hf
 ·rename_i ys hys
  split at hf
  ·rename_i l hl
   injection hf with hf; subst hf
   obtain ⟨p,m,mc,hy,hml,hyc⟩:=elems_rel hs hys
   obtain ⟨hlen,hget⟩:=bytR_get hl
   have hall:∀ y∈ys,y.length=1:=fun y hy=>by
    obtain ⟨i,hi,rfl⟩:=List.mem_iff_getElem.1 hy
    obtain ⟨q,h1,_⟩:=hget i (l[i]'(by omega)) (by simp)
    rw [List.getElem?_eq_getElem hi] at h1
    injection h1 with h1
    rw [h1]; rfl
   obtain ⟨vs,g1,g2,g3⟩:=firstCells_run (P:=P) (w:=w) (cap:=mc) (S:=stab ρ st.hp w) (sz:=1) hml hall hyc (fun _ _ _=>trivial)
   have hvs:∀ (i:Nat) c,l[i]? = some c→∃ q:Int,vs[i]? = some (.int .u8 q)∧c=UInt8.ofNat q.toNat:=fun i c hc=>by
    obtain ⟨q,h1,h2⟩:=hget i c hc
    obtain ⟨v,h3,h4⟩:=g3 i _ 0 _ h1 rfl
    cases h4
    exact ⟨q,by simpa using h3,h2⟩
   refine Sound.same hs (does_v (s:=convert t u (a.eval x)) (by simp [execOp,ho]) ?_) (DRel.v _ rfl)
   rw [hy]
   have hr:(Conv.bytesToString (.slice p m mc)).run P w = .ok (.string ⟨l.toArray⟩) w:=by
    cases p with
    | none =>
     have:l=[]:=by
      rcases hyc with h | ⟨_,_,_,q,_⟩
      ·exact List.eq_nil_of_length_eq_zero (by omega)
      ·cases q
     subst this
     simp [Conv.bytesToString]; rfl
    | some q =>
     have hld:(loadCells q m).run P w = .ok vs.toArray w:=by simpa [Builtin.firstCells] using g1
     unfold Conv.bytesToString
     simp only [Sem.run_bind,hld,Result.andThen_ok]
     rw [show (forIn vs.toArray ByteArray.empty:(Value→ByteArray→Sem (ForInStep ByteArray))→Sem ByteArray)=forIn vs ByteArray.empty from by funext f; simp]
     rw [forIn_bytes (fun n s=>rfl) l vs _ (by omega) hvs]
     simp
   simp [convert,run_underlying hud,run_underlying hud',run_underlying hue,hr]
  ·cases hf
 ·cases hf
theorem op_sound (htab:tabB P tt=true) (hs:Sim P G n b ρ st a w) {j:Nat} {A':A} (hc:compOp tt j o.op=some A')
  (hf:fop B st.hp (ev G st.sl) A'=some r) (hob:r.ob):Sound P G n b ρ st a w o r:=by
 cases ho:o.op with
 | move x=>rw [ho] at hc; simp only [compOp,Option.some.injEq] at hc; subst hc; exact s_mov hs x (.inl ho) hf
 | assign x=>rw [ho] at hc; simp only [compOp,Option.some.injEq] at hc; subst hc; exact s_mov hs x (.inr ho) hf
 | pick c x y=>rw [ho] at hc; simp only [compOp,Option.some.injEq] at hc; subst hc; exact s_pick hs c x y ho hf
 | alloc t =>
  rw [ho] at hc; simp only [compOp] at hc
  split at hc
  ·rename_i ti hti
   injection hc with hc; subst hc
   exact s_zero htab hs hti j ho hf
  ·cases hc
 | box t x=>rw [ho] at hc; simp only [compOp,Option.some.injEq] at hc; subst hc; exact s_box hs j t x ho hf
 | build t parts =>
  rw [ho] at hc; simp only [compOp] at hc
  split at hc
  ·rename_i ti hti
   split at hc
   ·rename_i fs hk
    split at hc
    ·rename_i l hl
     split at hc
     ·rename_i hcc
      simp only [Bool.and_eq_true] at hcc
      injection hc with hc; subst hc
      exact s_build htab hs hti hk hcc.2 parts hl hcc.1 ho hf
     ·cases hc
    ·cases hc
   ·cases hc
  ·cases hc
 | buildSlice t len parts =>
  rw [ho] at hc; simp only [compOp] at hc
  split at hc
  ·rename_i ti hti
   split at hc
   ·rename_i e hk
    split at hc
    ·rename_i ei hei
     split at hc
     ·rename_i hcc
      obtain ⟨c1,c2,c3⟩:=hcc
      injection hc with hc; subst hc
      exact s_bsl htab hs hti hk hei c1 c2 j len c3 parts ho hf
     ·cases hc
    ·cases hc
   ·cases hc
  ·cases hc
 | load t x =>
  rw [ho] at hc; simp only [compOp] at hc
  split at hc
  ·rename_i ti hti
   split at hc
   ·rename_i hcc
    injection hc with hc; subst hc
    exact s_load htab hs hti (size1 hcc) x ho hf hob
   ·cases hc
  ·cases hc
 | store t x y =>
  rw [ho] at hc; simp only [compOp] at hc
  split at hc
  ·rename_i ti hti
   injection hc with hc; subst hc
   exact s_store htab hs hti x y ho hf hob
  ·cases hc
 | ready g=>rw [ho] at hc; simp [compOp] at hc
 | waits g=>rw [ho] at hc; simp [compOp] at hc
 | nilCheck x=>rw [ho] at hc; simp only [compOp,Option.some.injEq] at hc; subst hc; exact s_chk hs x ho hf
 | binOp op t x y t'=>rw [ho] at hc; exact bin_sound htab hs ho hc hf hob
 | unOp op t x =>
  rw [ho] at hc
  cases op with
  | not=>simp only [compOp,Option.some.injEq] at hc; subst hc; exact s_not hs t x ho hf
  | neg =>
   simp only [compOp] at hc
   split at hc
   ·rename_i ti hti
    split at hc
    ·rename_i k hk
     injection hc with hc; subst hc
     exact s_neg hs k t x ho hf
    ·cases hc
   ·cases hc
  | xor =>
   simp only [compOp] at hc
   split at hc
   ·rename_i ti hti
    split at hc
    ·rename_i k hk
     injection hc with hc; subst hc
     exact s_cpl hs k t x ho hf
    ·cases hc
   ·cases hc
  | _=>simp [compOp] at hc
 | convert s t x =>
  rw [ho] at hc; simp only [compOp] at hc
  split at hc
  ·rename_i si ti hsi hti
   split at hc
   ·rename_i k1 k2 hk1 hk2
    injection hc with hc; subst hc
    exact s_conv (under_int htab hsi hk1) (under_int htab hti hk2) hs x ho hf
   ·rename_i e hk1 hk2
    split at hc
    ·rename_i ei hei
     split at hc
     ·rename_i hke
      injection hc with hc; subst hc
      exact s_str htab hs hsi hk1 hti hk2 hei hke x ho hf
     ·cases hc
    ·cases hc
   ·cases hc
  ·cases hc
 | sliceToArrayPointer t x=>rw [ho] at hc; simp [compOp] at hc
 | makeInterface t x=>rw [ho] at hc; simp [compOp] at hc
 | makeFunc fn first captured =>
  rw [ho] at hc
  cases fn with
  | func f =>
   simp only [compOp] at hc
   split at hc
   ·rename_i hcc
    injection hc with hc; subst hc
    exact s_mkfn hs f first captured hcc ho hf
   ·cases hc
  | _=>simp [compOp] at hc
 | makeMap t r' =>
  rw [ho] at hc
  cases r' with
  | none =>
   simp only [compOp] at hc
   split at hc
   ·rename_i ti hti
    split at hc
    ·rename_i kt e hk
     split at hc
     ·injection hc with hc; subst hc
      exact s_mkmap htab hs j t _ ho hf
     ·cases hc
    ·cases hc
   ·cases hc
  | some r'=>simp [compOp] at hc
 | makeChan t s=>rw [ho] at hc; simp [compOp] at hc
 | makeSlice t l c =>
  rw [ho] at hc; simp only [compOp] at hc
  split at hc
  ·rename_i ti hti
   split at hc
   ·rename_i e hk
    split at hc
    ·rename_i ei hei
     split at hc
     ·rename_i hcc
      injection hc with hc; subst hc
      exact s_mksl htab hs hti hk hei hcc.1 hcc.2 j l c ho hf hob
     ·cases hc
    ·cases hc
   ·cases hc
  ·cases hc
 | slice t x lo hi mx =>
  rw [ho] at hc
  cases mx with
  | some m=>simp [compOp] at hc
  | none =>
   simp only [compOp] at hc
   split at hc
   ·rename_i ti hti
    split at hc
    ·rename_i hk
     injection hc with hc; subst hc
     exact s_sliceS htab hs hti hk x lo hi ho hf hob
    ·rename_i e hk
     split at hc
     ·rename_i ei hei
      split at hc
      ·rename_i hpos
       injection hc with hc; subst hc
       exact s_slice htab hs hti hk hei hpos x lo hi ho hf hob
      ·cases hc
     ·cases hc
    ·cases hc
   ·cases hc
 | fieldAddr s x f =>
  rw [ho] at hc; simp only [compOp] at hc
  split at hc
  ·rename_i si hsi
   split at hc
   ·rename_i fs hk
    split at hc
    ·rename_i off ty hfo
     split at hc
     ·rename_i fi hfi
      split at hc
      ·rename_i hpos
       injection hc with hc; subst hc
       exact s_faddr htab hs hsi hk hfo hfi hpos x ho hf
      ·cases hc
     ·cases hc
    ·cases hc
   ·cases hc
  ·cases hc
 | field s x f =>
  rw [ho] at hc; simp only [compOp] at hc
  split at hc
  ·rename_i si hsi
   split at hc
   ·rename_i fs hk
    split at hc
    ·rename_i off ty hfo
     split at hc
     ·rename_i fi hfi
      split at hc
      ·rename_i hcc
       injection hc with hc; subst hc
       exact s_field htab hs hsi hk hfo hfi (size1 hcc) x ho hf
      ·cases hc
     ·cases hc
    ·cases hc
   ·cases hc
  ·cases hc
 | indexAddr t x i =>
  rw [ho] at hc; simp only [compOp] at hc
  split at hc
  ·rename_i ti hti
   split at hc
   ·rename_i e hk
    split at hc
    ·rename_i ei hei
     injection hc with hc; subst hc
     exact s_iaddr htab hs hti hk hei x i ho hf hob
    ·cases hc
   ·cases hc
  ·cases hc
 | index t x i =>
  rw [ho] at hc; simp only [compOp] at hc
  split at hc
  ·rename_i ti hti
   split at hc
   ·rename_i hk
    injection hc with hc; subst hc
    exact s_index htab hs hti hk x i ho hf hob
   ·cases hc
  ·cases hc
 | lookup t x k ok =>
  rw [ho] at hc; simp only [compOp] at hc
  split at hc
  ·rename_i ti hti
   split at hc
   ·rename_i kt e hk
    split at hc
    ·rename_i ei kt' hei hkt
     injection hc with hc; subst hc
     exact s_look htab hs hti hk hei hkt x k ok ho hf
    ·cases hc
   ·cases hc
  ·cases hc
 | mapUpdate t m k v =>
  rw [ho] at hc; simp only [compOp] at hc
  split at hc
  ·rename_i ti hti
   split at hc
   ·rename_i kt e hk
    split at hc
    ·rename_i kt' hkt
     injection hc with hc; subst hc
     exact s_mapup htab hs hti hk hkt m k v (.inl ho) hf
    ·cases hc
   ·cases hc
  ·cases hc
 | insert t m k v =>
  rw [ho] at hc; simp only [compOp] at hc
  split at hc
  ·rename_i ti hti
   split at hc
   ·rename_i kt e hk
    split at hc
    ·rename_i kt' hkt
     injection hc with hc; subst hc
     exact s_mapup htab hs hti hk hkt m k v (.inr ho) hf
    ·cases hc
   ·cases hc
  ·cases hc
 | extract x i=>rw [ho] at hc; simp only [compOp,Option.some.injEq] at hc; subst hc; exact s_ext hs x i ho hf
 | range t x =>
  rw [ho] at hc; simp only [compOp] at hc
  repeat' split at hc
  all_goals first
   | (cases hc; done)
   | (injection hc with hc; subst hc; simp [fop] at hf)
 | next x s =>
  rw [ho] at hc
  cases s
  ·simp only [compOp,Option.some.injEq] at hc; subst hc; simp [fop] at hf
  ·simp [compOp] at hc
 | entry x=>rw [ho] at hc; simp only [compOp,Option.some.injEq] at hc; subst hc; simp [fop] at hf
 | call c=>rw [ho] at hc; exact call_sound htab hs ho hc hf hob
 | _=>rw [ho] at hc; simp [compOp] at hc
end
section
variable {P:Program} {w:World}
theorem getObj_iter {a:Nat} {m:Option Nat} {s c:Nat} {seen:Array Nat} (h:w.heap[a]? = some (.mapIter m s seen c)):(getObj a).run P w = .ok (.mapIter m s seen c) w:=by
 simp only [getObj,Sem.run,h]
theorem setObj_iter {a:Nat} {m:Option Nat} {s c:Nat} {seen:Array Nat} (h:w.heap[a]? = some (.mapIter m s seen c)) (ob:Obj):(setObj a ob).run P w = .ok () (setB w a ob):=by
 simp only [setObj,Sem.run,h]; rfl
theorem run_rng {t k e:TypeId} {m cl:Nat} {ces:Array MapEntry} (hu:P.underlying t=some (.map k e)) (hm:w.heap[m]? = some (.map ces cl)) :
  (Instr.range t (.map (some m))).run P w = .ok (.pointer (some ⟨w.heap.size,0,none⟩)) (pushO w (.mapIter (some m) cl #[] cl)):=by
 simp [Instr.range,run_underlying hu,getObj_map hm,newObj,Sem.run]
 rfl
def drew (w:World) (d:Nat):World:={ w with drawn:=d }
theorem test_false (seen:Array Nat) (es:Array MapEntry) (c:Nat) (hold:∀ x∈es.toList,x.born<c):(!seen.isEmpty && !es.isEmpty && es.all (fun x=>decide (x.born ≥ c)))=false:=by
 cases he:es.isEmpty with
 | true=>simp
 | false =>
  have hall:es.all (fun x=>decide (x.born ≥ c))=false:=by
   rw [Bool.eq_false_iff]
   intro h
   rw [Array.all_eq_true_iff_forall_mem] at h
   have h0:0<es.size:=by
    rcases Nat.eq_zero_or_pos es.size with h0 | h0
    ·simp [Array.isEmpty,h0] at he
    ·exact h0
   have hm:es[0]∈es:=Array.getElem_mem h0
   have h1:=h _ hm
   have h2:=hold es[0] (by simp)
   simp at h1
   omega
  simp [hall]
theorem run_nxt {a m cl:Nat} {seen:Array Nat} {ces:Array MapEntry} (ha:w.heap[a]? = some (.mapIter (some m) cl seen cl)) (hm:w.heap[m]? = some (.map ces cl)) (hold:∀ e∈ces.toList,e.born<cl) (ty:TypeId) :
  ((ces.toList.filter fun e=>!seen.contains e.born)=[]∧(Instr.next (.pointer (some ⟨a,0,none⟩)) false ty).run P w = .ok (.tuple #[.bool false]) w) ∨
  ∃ (d i:Nat) (e:MapEntry),(ces.toList.filter fun e=>!seen.contains e.born)[i]? = some e ∧
   (Instr.next (.pointer (some ⟨a,0,none⟩)) false ty).run P w = .ok (.tuple #[.bool true,e.key,e.val]) (setB (drew w d) a (.mapIter (some m) cl (seen.push e.born) cl)):=by
 simp only [Instr.next,getObj_iter ha,getObj_map hm,Sem.run_bind,Result.andThen,test_false seen ces cl hold,Bool.false_eq_true,if_false]
 have hL:(ces.toList.filter fun e=>!seen.contains e.born)=(ces.filter fun e=>!seen.contains e.born).toList:=by simp
 rw [hL]
 have hmem:∀ x∈(ces.filter fun e=>!seen.contains e.born).toList,x.born<cl:=fun x hx=>hold x (by simp at hx ⊢; exact hx.1)
 generalize (ces.filter fun e=>!seen.contains e.born)=L at hmem ⊢
 have e1:L.filter (fun x=>decide (x.born<cl))=L:=Array.filter_eq_self.2 (fun x hx=>by simpa using hmem x (by simpa using hx))
 have e2:L.filter (fun x=>decide (x.born ≥ cl)) = #[]:=by
  rw [Array.filter_eq_empty_iff]
  intro x hx
  have:=hmem x (by simpa using hx)
  simp
  omega
 simp only [e1,e2,Array.append_empty]
 by_cases h0:L.size=0
 ·left
  have:L = #[]:=Array.eq_empty_of_size_eq_zero h0
  subst this
  refine ⟨rfl,?_⟩
  simp [choose,Sem.run,Question.forced]
 ·right
  have hne:L.isEmpty=false:=by simp [Array.isEmpty,h0]
  simp only [hne,Bool.false_eq_true,if_false,Array.empty_append,Array.size_map]
  have hch:∃ (j d:Nat),j<L.size∧(choose (Question.mapNext L.size)).run P w = .ok j (drew w d):=by
   by_cases hf:L.size≤1
   ·exact ⟨0,w.drawn,by omega,by simp [choose,Sem.run,Question.forced,hf,drew]⟩
   ·exact ⟨_,w.drawn+1,Nat.mod_lt _ (by omega),by
     simp only [choose,Sem.run,Question.forced,decide_eq_true_eq,hf,if_false,Question.cut]
     rfl⟩
  obtain ⟨j,d,hj,hrun⟩:=hch
  refine ⟨d,j,L[j],by simp [hj],?_⟩
  have ha':(drew w d).heap[a]? = some (.mapIter (some m) cl seen cl):=ha
  simp only [hrun,Array.getElem?_map,Array.getElem?_eq_getElem hj,Option.map_some,Sem.run_bind,setObj_iter ha',Result.andThen]
  rfl
theorem find_bn (e:MapEntry):∀ (l:List MapEntry),(l.map (·.born)).Nodup→e∈l→l.find? (·.born == e.born)=some e
 | [],_,h=>by cases h
 | x :: l,hn,he=>by
  rw [List.map_cons,List.nodup_cons] at hn
  rcases List.mem_cons.1 he with rfl | h
  ·simp
  ·have:x.born≠e.born:=fun q=>hn.1 (by rw [q]; exact List.mem_map_of_mem h)
   rw [List.find?_cons_of_neg (by simpa using this)]
   exact find_bn e l hn.2 h
theorem run_ent {a m cl:Nat} {seen:Array Nat} {ces:Array MapEntry} {e:MapEntry} (ha:w.heap[a]? = some (.mapIter (some m) cl seen cl)) (hm:w.heap[m]? = some (.map ces cl)) (hst:Stp ces cl) (he:e∈ces.toList) (hb:seen.back? = some e.born) :
  (Instr.entry (.pointer (some ⟨a,0,none⟩))).run P w = .ok (.tuple #[e.key,e.val]) w:=by
 have hf:ces.find? (fun x=>x.born == e.born)=some e:=by
  have:=find_bn e ces.toList hst.2 he
  rw [← Array.find?_toList]
  exact this
 simp [Instr.entry,getObj_iter ha,getObj_map hm,hb,hf]
theorem filter_push {ces:List MapEntry} (hn:(ces.map MapEntry.born).Nodup) (seen:Array Nat):∀ {i:Nat} {e:MapEntry},(ces.filter fun e=>!seen.contains e.born)[i]? = some e →
  (ces.filter fun x=>!(seen.push e.born).contains x.born)=(ces.filter fun e=>!seen.contains e.born).eraseIdx i:=by
 have hpush:∀ (b c:Nat),(seen.push b).contains c=(seen.contains c || decide (c=b)):=fun b c=>by
  rw [Bool.eq_iff_iff]; simp
 induction ces with
 | nil=>intro i e h; simp at h
 | cons x l ih =>
  rw [List.map_cons,List.nodup_cons] at hn
  intro i e h
  cases hx:seen.contains x.born with
  | true =>
   rw [List.filter_cons_of_neg (by rw [hx]; simp)] at h
   rw [List.filter_cons_of_neg (by rw [hpush,hx]; simp),List.filter_cons_of_neg (p:=fun e:MapEntry=>!seen.contains e.born) (by rw [hx]; simp)]
   exact ih hn.2 h
  | false =>
   rw [List.filter_cons_of_pos (by rw [hx]; rfl)] at h
   rw [List.filter_cons_of_pos (p:=fun e:MapEntry=>!seen.contains e.born) (by rw [hx]; rfl)]
   cases i with
   | zero =>
    simp at h
    subst h
    rw [List.filter_cons_of_neg (by rw [hpush]; simp),List.eraseIdx_cons_zero]
    refine List.filter_congr fun y hy=>?_
    have:y.born≠x.born:=fun q=>hn.1 (by rw [← q]; exact List.mem_map_of_mem hy)
    rw [hpush]
    simp [this]
   | succ i =>
    rw [List.getElem?_cons_succ] at h
    have hne:x.born≠e.born:=fun q=>hn.1 (by
     rw [q]
     exact List.mem_map_of_mem (List.mem_filter.1 (List.mem_of_getElem? h)).1)
    rw [List.filter_cons_of_pos (by rw [hpush,hx]; simp [hne]),List.eraseIdx_cons_succ,ih hn.2 h]
end
section
variable {P:Program} {G:Gl} {n:Nat} {b:Base} {ρ:Nat→Option Nat} {st:St} {a:Act} {w:World} {B:Nat} {r:R} {o:Oper} {tt:TT}
def dstOk (n:Nat) (d:Option Nat):Prop:=∀ t,d=some t→t<n
theorem sim_put (hs:Sim P G n b ρ st a w) {ρ':Nat→Option Nat} {H':List O} {w':World} (hH:HRel P ρ' H' w') (le:(ctx ρ st.hp w).le (ctx ρ' H' w')) {t:T} {v:Value} (ht:TRel P (ctx ρ' H' w') t v) {d:Option Nat} (hd:dstOk n d) :
  Sim P G n b ρ' ((⟨st.sl,H'⟩:St).put d t) (a.put d v) w':=by
 cases d with
 | none =>
  exact ⟨hH,hs.size,hs.defers,fun t'=>(hs.slots t').mono le,hs.glob.mono le.step,hs.le.trans le⟩
 | some d =>
  have hlt:d<a.tmps.size:=by rw [hs.size]; exact hd d rfl
  refine ⟨hH,by simpa [Act.put] using hs.size,hs.defers,fun t'=>?_,hs.glob.mono le.step,hs.le.trans le⟩
  show TRel P (ctx ρ' H' w') (putS st.sl d t t') ((a.tmps.setIfInBounds d v).getD t' undef)
  by_cases e:t'=d
  ·subst e
   rw [putS_same]
   simpa [Array.getD_eq_getD_getElem?,hlt] using ht
  ·rw [putS_other _ _ _ _ e]
   have:=(hs.slots t').mono le
   rw [Array.getD_eq_getD_getElem?] at this ⊢
   rw [Array.getElem?_setIfInBounds_ne (fun x=>e x.symm)]
   exact this
theorem sim_same (hs:Sim P G n b ρ st a w) {t:T} {v:Value} (ht:TRel P (ctx ρ st.hp w) t v) {d:Option Nat} (hd:dstOk n d):Sim P G n b ρ (st.put d t) (a.put d v) w :=
 sim_put hs hs.heap (.refl _) ht hd
def NextK (P:Program) (G:Gl) (n:Nat) (b:Base) (d:Option Nat) (k:Kt):Act→World→Prop:=fun a' w'=>∃ ρ' st' t,Sim P G n b ρ' (st'.put d t) a' w'∧k t st'
theorem argsOf_rel (hs:Sim P G n b ρ st a w):∀ (xs:List Operand) {vs:List V},argsOf (xs.map (ev G st.sl))=some vs→VsRel P (ctx ρ st.hp w) vs (xs.map a.eval).toArray
 | [],vs,h=>by
  simp only [List.map_nil,argsOf,Option.some.injEq] at h
  subst h
  exact ⟨rfl,fun i c v hc=>by simp at hc⟩
 | x :: xs,vs,h=>by
  simp only [List.map_cons] at h
  generalize he:ev G st.sl x=t at h
  cases t with
  | tup us=>simp [argsOf] at h
  | v u =>
   simp only [argsOf] at h
   split at h
   ·rename_i l hl
    injection h with h; subst h
    have ih:=argsOf_rel hs xs hl
    have hu:VRel P (ctx ρ st.hp w) u (a.eval x):=ev_rel hs he
    refine ⟨by simpa using ih.1,fun i c v hc hv=>?_⟩
    cases i with
    | zero =>
     simp at hc hv
     subst hc; subst hv
     cases u with
     | any=>trivial
     | c y =>
      show CRel P _ (nrmC y) _
      unfold nrmC
      split
      ·rename_i k
       have:a.eval x = .slice none 0 k:=drel_v hu
       rw [this]; exact DRel.nil none k
      ·exact hu
     | agg cs =>
      obtain ⟨ws,hw,hc⟩:=hu
      refine ⟨ws,hw,by simpa using hc.1,fun i c v hc' hv'=>?_⟩
      rw [List.getElem?_map] at hc'
      cases hq:cs[i]? with
      | none=>rw [hq] at hc'; cases hc'
      | some y =>
       rw [hq] at hc'
       simp at hc'
       subst hc'
       have hy:=hc.2 i y v hq hv'
       unfold nrmC
       split
       ·rename_i k
        have:v = .slice none 0 k:=drel_v hy
        rw [this]; exact DRel.nil none k
       ·exact hy
    | succ i=>exact ih.2 i c v (by simpa using hc) (by simpa using hv)
   ·cases h
theorem vsrel_append {k:K} {us vs:List V} {x y:Array Value} (h1:VsRel P k us x) (h2:VsRel P k vs y):VsRel P k (us ++ vs) (x ++ y):=by
 refine ⟨by simp [h1.1,h2.1],fun i c v hc hv=>?_⟩
 rw [List.getElem?_append] at hc
 rw [Array.getElem?_append,h1.1] at hv
 split at hc
 ·rename_i hi
  rw [if_pos hi] at hv
  exact h1.2 i c v hc hv
 ·rename_i hi
  rw [if_neg hi] at hv
  exact h2.2 _ c v hc hv
theorem call_wp (hs:Sim P G n b ρ st a w) {f:Nat} {args:Array Value} {vs:List V} (hv:VsRel P (ctx ρ st.hp w) vs args) {k:Kt} (h:ACalls P G f vs st.hp (callK st.sl k)) (hd:dstOk n o.dst)
  (hrun:(execOp a.eval o).run P w = .ok (.enter f args) w) (Q:Exit→Act→World→Prop):o.wp P a w (NextK P G n b o.dst k) Q:=by
 unfold Oper.wp
 rw [hrun,Oper.upon_enter]
 refine (h.2 ρ w args hs.heap hs.glob hv).mono fun e w' ⟨v,t,ρ',H',e1,e2,e3,e4,e5⟩=>?_
 subst e1
 exact ⟨ρ',⟨st.sl,H'⟩,t,sim_put hs e3 e5 e4 hd,e2⟩
theorem callFunc_run {f:Nat} (h:Callable P f) (args:Array Value):(callFunc f args).run P w = .ok (.enter f args) w:=by
 obtain ⟨fn,h1,h2,h3⟩:=h
 unfold callFunc
 simp only [Sem.run_bind,run_program,Result.andThen_ok,h1,h2,h3,Bool.false_eq_true,if_false,Sem.run_pure]
theorem fop_wp (htab:tabB P tt=true) (hs:Sim P G n b ρ st a w) {j:Nat} {A':A} (hc:compOp tt j o.op=some A') (hd:dstOk n o.dst) {k:Kt}
  (h:match fop B st.hp (ev G st.sl) A' with | some r=>r.ob∧k r.val ⟨st.sl,r.hp⟩ | none=>False) (Q:Exit→Act→World→Prop):o.wp P a w (NextK P G n b o.dst k) Q:=by
 split at h
 ·rename_i r hr
  obtain ⟨v,w',ρ',hdo,e2,e3,e4⟩:=op_sound htab hs hc hr h.1
  unfold Oper.wp
  rcases hdo with hdo | ⟨rfl,hdo⟩
  ·rw [hdo]
   exact ⟨ρ',⟨st.sl,r.hp⟩,r.val,sim_put hs e2 e3 e4 hd,h.2⟩
  ·rw [hdo]
   exact ⟨ρ',⟨st.sl,r.hp⟩,r.val,sim_put hs e2 e3 e4 hd,h.2⟩
 ·exact h.elim
theorem compCall_call {j:Nat} {c:Call} {f:Nat} {xs:List Operand} (h:compCall tt j c=some (.call f xs)):c.callee = .value (.func f)∧c.args.toList=xs:=by
 unfold compCall at h
 repeat' split at h
 all_goals first
  | (cases h; done)
  | (injection h with h; cases h; exact ⟨by assumption,rfl⟩)
theorem compCall_callv {j:Nat} {c:Call} {f:Operand} {xs:List Operand} (h:compCall tt j c=some (.callv f xs)):c.callee = .value f∧c.args.toList=xs:=by
 unfold compCall at h
 repeat' split at h
 all_goals first
  | (cases h; done)
  | (injection h with h; cases h; exact ⟨by assumption,rfl⟩)
def A.isCall:A→Bool
 | .call _ _ | .callv _ _=>true
 | _=>false
theorem comp_call {j:Nat} {op:Op} {A':A} (h:compOp tt j op=some A') (hA:A'.isCall=true):∃ c,op = .call c∧compCall tt j c=some A':=by
 cases op
 case call c=>exact ⟨c,rfl,h⟩
 all_goals exfalso
 all_goals (unfold compOp at h; try dsimp only at h)
 all_goals (repeat' split at h)
 all_goals first
  | (cases h; done)
  | (injection h with h; subst h; cases hA; done)
  | (rename_i e; cases e; done)
theorem comp_eqN {j:Nat} {op:Op} {ng:Bool} {k:NK} {x:Operand} (h:compOp tt j op=some (.eqN ng k x)) :
    ∃ t y t' ti,op = .binOp (if ng then .neq else .eql) t x y t'∧tget tt t=some ti∧nkOf ti.kind=some k∧isNil k y=true:=by
  cases op
  case call c =>
    exfalso
    simp only [compOp] at h
    unfold compCall at h
    repeat' split at h
    all_goals (cases h; done)
  case binOp op t x' y t' =>
    simp only [compOp] at h
    split at h
    · rename_i ti hti
      split at h
      all_goals first
        | (cases h; done)
        | (repeat' split at h
           all_goals first
             | (cases h; done)
             | (injection h with h; injection h with h1 h2 h3; subst h1; subst h2; subst h3; exact ⟨_,_,_,ti,rfl,hti,by assumption,by assumption⟩))
    · cases h
  all_goals exfalso
  all_goals (unfold compOp at h; try dsimp only at h)
  all_goals (repeat' split at h)
  all_goals first
    | contradiction
    | (cases h; done)
    | (injection h with h; cases h; done)
theorem eqN_core (htab:tabB P tt=true) (hs:Sim P G n b ρ st a w) {j:Nat} {ng:Bool} {x:Operand} (hc:compOp tt j o.op=some (.eqN ng .sl x)) (hd:dstOk n o.dst) {k:Kt} {p:Option Addr} {m c:Nat} (hx:a.eval x = .slice p m c)
  (h:k (.bool (if ng then !p.isNone else p.isNone)) st) (Q:Exit→Act→World→Prop):o.wp P a w (NextK P G n b o.dst k) Q:=by
 obtain ⟨t,y,t',ti,ho,ht,hk,hy⟩:=comp_eqN hc
 have hey:=isNil_eval hy a
 have hrun:(execOp a.eval o).run P w = .ok (.value (.bool (if ng then !p.isNone else p.isNone))) w:=by
  refine does_v (s:=do eqGuard (if ng then .neq else .eql) t x y (a.eval x) (a.eval y); binOp (if ng then .neq else .eql) t (a.eval x) (a.eval y)) (by simp [execOp,ho]) ?_
  rw [hx,hey,nilV,run_slnil htab ht hk]
 unfold Oper.wp
 rw [hrun]
 exact ⟨ρ,st,_,sim_same hs (t:=.bool (if ng then !p.isNone else p.isNone)) (DRel.v _ rfl) hd,h⟩
theorem comp_rng {j j':Nat} {op:Op} {kt:KT} {x:Operand} (h:compOp tt j op=some (.rng j' kt x)) :
  ∃ t ti kty e,j'=j∧op = .range t x∧tget tt t=some ti∧ti.kind = .map kty e∧keyT tt kty=some kt:=by
 cases op
 case call c =>
  exfalso
  simp only [compOp] at h
  unfold compCall at h
  repeat' split at h
  all_goals (cases h; done)
 case range t x' =>
  simp only [compOp] at h
  split at h
  ·rename_i ti hti
   split at h
   ·rename_i kty e hk
    split at h
    ·rename_i kt' hkt
     injection h with h; injection h with h1 h2 h3
     subst h1; subst h2; subst h3
     exact ⟨t,ti,kty,e,rfl,rfl,hti,hk,hkt⟩
    ·cases h
   ·cases h
  ·cases h
 all_goals exfalso
 all_goals (unfold compOp at h; try dsimp only at h)
 all_goals (repeat' split at h)
 all_goals first
  | contradiction
  | (cases h; done)
  | (injection h with h; cases h; done)
theorem comp_nxt {j:Nat} {op:Op} {x:Operand} (h:compOp tt j op=some (.nxt x)):op = .next x false:=by
 cases op
 case call c =>
  exfalso
  simp only [compOp] at h
  unfold compCall at h
  repeat' split at h
  all_goals (cases h; done)
 case next x' s =>
  cases s
  ·simp only [compOp,Option.some.injEq,A.nxt.injEq] at h; subst h; rfl
  ·simp [compOp] at h
 all_goals exfalso
 all_goals (unfold compOp at h; try dsimp only at h)
 all_goals (repeat' split at h)
 all_goals first
  | contradiction
  | (cases h; done)
  | (injection h with h; cases h; done)
theorem comp_ent {j:Nat} {op:Op} {x:Operand} (h:compOp tt j op=some (.ent x)):op = .entry x:=by
 cases op
 case call c =>
  exfalso
  simp only [compOp] at h
  unfold compCall at h
  repeat' split at h
  all_goals (cases h; done)
 case entry x' =>
  simp only [compOp,Option.some.injEq,A.ent.injEq] at h; subst h; rfl
 all_goals exfalso
 all_goals (unfold compOp at h; try dsimp only at h)
 all_goals (repeat' split at h)
 all_goals first
  | contradiction
  | (cases h; done)
  | (injection h with h; cases h; done)
theorem rng_core (htab:tabB P tt=true) (hs:Sim P G n b ρ st a w) {j:Nat} {kt:KT} {x:Operand} {j':Nat} (hc:compOp tt j' o.op=some (.rng j kt x)) (hd:dstOk n o.dst) {k:Kt}
  (h:rngW B j kt (ev G st.sl x) st k) (Q:Exit→Act→World→Prop):o.wp P a w (NextK P G n b o.dst k) Q:=by
 obtain ⟨t,ti,kty,e,_,ho,ht,hk,hkt⟩:=comp_rng hc
 obtain ⟨d,hu,hdd⟩:=run_under htab ht
 rw [hk] at hdd
 rw [kindB_map hdd] at hu
 unfold rngW at h
 split at h
 ·rename_i r0 e1 hj
  split at h
  ·rename_i kt' es hr
   obtain ⟨rfl,h⟩:=h
   obtain ⟨_,b0,hb0,hx⟩:=ev_rel hs e1
   have hb0':ρ r0=some b0:=hb0
   have hO:=hs.heap.objs r0 _ hr
   obtain ⟨q0,a0,ces,cl,q1,q2,q3,q4,q5⟩:=hO
   rw [hb0'] at q1; injection q1 with q1; subst q1
   have q2:w.heap[b0]? = some (.map ces cl):=q2
   have hlt:=(hs.heap.small r0 b0 hb0').2
   have hne:r0≠B+j:=fun q=>by rw [q,hj] at hr; cases hr
   have hrun:(execOp a.eval o).run P w = .ok (.value (.pointer (some ⟨w.heap.size,0,none⟩))) (pushO w (.mapIter (some b0) cl #[] cl)):=by
    refine does_v (s:=Instr.range t (a.eval x)) (by simp [execOp,ho]) ?_
    rw [hx]
    exact run_rng hu q2
   have hH1:HRel P ρ (st.hp.set r0 .dead) w:=hs.heap.drop r0 .dead rfl trivial
   have le1:(ctx ρ st.hp w).le (ctx ρ (st.hp.set r0 .dead) w):=le_drop r0 .dead rfl
   have hj1:(st.hp.set r0 .dead)[B+j]? = some .hole:=by rw [List.getElem?_set_ne hne]; exact hj
   have le2:=hH1.le_alloc hj1 (.mapIter (some b0) cl #[] cl) (.iter kt' none es)
   have hS0:stab ρ (st.hp.set r0 .dead) w b0:=by
    refine ⟨hlt,fun r' o1 h1 l1 e1=>?_⟩
    rcases getElem?_set' _ _ _ _ _ h1 with ⟨rfl,rfl⟩ | ⟨n1,h1'⟩
    ·cases l1
    ·exact n1 (hs.heap.inj r' r0 o1 _ b0 h1' hr l1 rfl e1 hb0')
   have hE:ERel (stab ρ st.hp w) w es ces.toList:=erel_of (by simpa using q3) (fun i ky pv e hi he=>q4 i ky pv e hi (by simpa using he))
   have hiter:ORel P (ctx (upd ρ (B+j) w.heap.size) ((st.hp.set r0 .dead).set (B+j) (.iter kt' none es)) (pushO w (.mapIter (some b0) cl #[] cl))) (some w.heap.size) (.iter kt' none es):=by
    refine ⟨q0,(fun _ hp=>nomatch hp),w.heap.size,b0,ces,cl,#[],rfl,push_at _ _,le2.step.sub b0 hS0,?_,q5,?_,(fun _ hp=>nomatch hp)⟩
    ·rw [show (ctx (upd ρ (B+j) w.heap.size) ((st.hp.set r0 .dead).set (B+j) (.iter kt' none es)) (pushO w (.mapIter (some b0) cl #[] cl))).w=pushO w (.mapIter (some b0) cl #[] cl) from rfl,push_keep _ _ _ hlt]
     exact q2
    ·have:(ces.toList.filter fun e=>!(#[]:Array Nat).contains e.born)=ces.toList:=List.filter_eq_self.2 fun x _=>by simp
     rw [this]
     exact (hE.mono le1.step).mono le2.step
   have hH2:=hH1.alloc hj1 _ _ hiter
   have ht':TRel P (ctx (upd ρ (B+j) w.heap.size) ((st.hp.set r0 .dead).set (B+j) (.iter kt' none es)) (pushO w (.mapIter (some b0) cl #[] cl))) (.v (.c (.ptr (B+j) 0))) (.pointer (some ⟨w.heap.size,0,none⟩)) :=
    ⟨by simpa [ctx] using lt_of_get hj,_,upd_same _ _ _,rfl⟩
   unfold Oper.wp
   rw [hrun]
   exact ⟨_,⟨st.sl,_⟩,_,sim_put hs hH2 (le1.trans le2) ht' hd,h⟩
  ·exact h.elim
 ·exact h.elim
theorem le_drew (ρ:Nat→Option Nat) (H:List O) (w:World) (d:Nat):(ctx ρ H w).le (ctx ρ H (drew w d)) :=
 ⟨fun _ _ h=>h,Nat.le_refl _,⟨fun b hb=>hb,fun _ _=>rfl,Nat.le_refl _,fun _ _ _ h=>h,rfl,rfl,rfl⟩⟩
theorem hrel_drew {H:List O} (h:HRel P ρ H w) (d:Nat):HRel P ρ H (drew w d) :=
 h.change (le_drew ρ H w d) (fun r o hr=>.inr ⟨hr,rfl,fun _ _ _=>rfl⟩) h.inj h.small
theorem nxt_core (hs:Sim P G n b ρ st a w) {j:Nat} {x:Operand} (hc:compOp tt j o.op=some (.nxt x)) (hd:dstOk n o.dst) {k:Kt}
  (h:nxtW (ev G st.sl x) st k) (Q:Exit→Act→World→Prop):o.wp P a w (NextK P G n b o.dst k) Q:=by
 have ho:=comp_nxt hc
 unfold nxtW at h
 split at h
 ·rename_i r0 e1
  split at h
  ·rename_i kt cur left hr
   obtain ⟨_,b0,hb0,hx⟩:=ev_rel hs e1
   have hb0':ρ r0=some b0:=hb0
   obtain ⟨q0,q0',a0,m,ces,cl,seen,q1,q2,qS,q3,q4,q5,q6⟩:=hs.heap.objs r0 _ hr
   rw [hb0'] at q1; injection q1 with q1; subst q1
   have q2:w.heap[b0]? = some (.mapIter (some m) cl seen cl):=q2
   have q3:w.heap[m]? = some (.map ces cl):=q3
   have qS:stab ρ st.hp w m:=qS
   have hdo:∀ v w',(Instr.next (.pointer (some ⟨b0,0,none⟩)) false o.type).run P w = .ok v w'→(execOp a.eval o).run P w = .ok (.value v) w':=fun v w' hh=>by
    refine does_v (s:=Instr.next (a.eval x) false o.type) (by simp [execOp,ho]) ?_
    rw [hx]; exact hh
   rcases run_nxt (P:=P) q2 q3 q4.1 o.type with ⟨f1,f2⟩ | ⟨d,i,e,f1,f2⟩
   ·have hl:left=[]:=by
     rw [f1] at q5
     cases left with
     | nil=>rfl
     | cons p l=>exact q5.elim
    have hrun:=hdo _ _ f2
    unfold Oper.wp
    rw [hrun]
    exact ⟨ρ,st,_,sim_same hs (t:=.tup [.c (.d (.v (.bool false)))]) ⟨_,rfl,rfl,fun i c v hi hv=>by
     cases i with
     | zero=>simp at hi hv; subst hi; subst hv; exact DRel.v _ rfl
     | succ i=>simp at hi⟩ hd,h.1 hl⟩
   ·obtain ⟨g1,g2⟩:=of_erel q5
    have hlt:i<left.length:=by rw [← g1]; exact lt_of_get f1
    obtain ⟨p,hp⟩:∃ p,left[i]? = some p:=⟨left[i],by simp [hlt]⟩
    have hpr:=g2 i p.1 p.2 e hp f1
    have hrun:=hdo _ _ f2
    have hH1:=hrel_drew hs.heap d
    have le1:=le_drew ρ st.hp w d
    have q2':(drew w d).heap[b0]? = some (.mapIter (some m) cl seen cl):=q2
    have hle:=HRel.le_setB (w:=drew w d) hr rfl hb0' q2' (ob':=.mapIter (some m) cl (seen.push e.born) cl) rfl (.iter kt (some p) (left.eraseIdx i)) rfl
    have hne:m≠b0:=fun q=>qS.2 r0 _ hr rfl (by rw [hb0',q])
    have hO:ORel P (ctx ρ (st.hp.set r0 (.iter kt (some p) (left.eraseIdx i))) (setB (drew w d) b0 (.mapIter (some m) cl (seen.push e.born) cl))) (some b0) (.iter kt (some p) (left.eraseIdx i)):=by
     refine ⟨fun p' hp'=>q0 p' (List.mem_of_mem_eraseIdx hp'),fun p' hp'=>?_,b0,m,ces,cl,seen.push e.born,rfl,setB_same _ _ _ (hs.heap.small r0 b0 hb0').2,hle.step.sub m (le1.step.sub m qS),?_,q4,?_,fun p' hp'=>?_⟩
     ·injection hp' with hp'; subst hp'; exact q0 p (List.mem_of_getElem? hp)
     ·show (setB (drew w d) b0 _).heap[m]? = _
      rw [setB_other _ _ _ _ hne]; exact q3
     ·rw [filter_push q4.2 seen f1]
      exact ((erel_erase i q5).mono le1.step).mono hle.step
     ·injection hp' with hp'; subst hp'
      exact ⟨e,(List.mem_filter.1 (List.mem_of_getElem? f1)).1,by simp,hpr.1,(hpr.2.mono le1.step).mono hle.step⟩
    have hH2:=hH1.setB hr rfl hb0' q2' (ob':=.mapIter (some m) cl (seen.push e.born) cl) rfl (.iter kt (some p) (left.eraseIdx i)) rfl hO
    unfold Oper.wp
    rw [hrun]
    exact ⟨ρ,⟨st.sl,_⟩,_,sim_put hs hH2 (le1.trans hle) (t:=.tup [.c (.d (.v (.bool true))),.any,.any]) ⟨_,rfl,rfl,fun i c v hi hv=>by
     match i with
     | 0=>simp at hi hv; subst hi; subst hv; exact DRel.v _ rfl
     | 1=>simp at hi; subst hi; trivial
     | 2=>simp at hi; subst hi; trivial
     | i+3=>simp at hi⟩ hd,h.2 i p hp⟩
  ·exact h.elim
 ·exact h.elim
theorem skOk_one {k:SK} {v:Value} (h:skOk k v=true):v.oneCell'=true:=by
 cases k <;> cases v <;> first | rfl | simp [skOk] at h
theorem sksOk_one:∀ {ks:List SK} {vs:List Value},sksOk ks vs=true→∀ v∈vs,v.oneCell'=true
 | [],[],_,v,hv=>by cases hv
 | k :: ks,x :: vs,h,v,hv=>by
  simp only [sksOk,Bool.and_eq_true] at h
  rcases List.mem_cons.1 hv with rfl | hv
  ·exact skOk_one h.1
  ·exact sksOk_one h.2 v hv
 | [],_ :: _,h,_,_=>by simp [sksOk] at h
 | _ :: _,[],h,_,hv=>by cases hv
theorem keyV_rel {k:K} {kt:KT} {ky:Value} (h:conf kt ky=true):VRel P k (keyV ky) ky:=by
 unfold conf at h
 split at h
 ·split at h
  ·rename_i cs
   refine ⟨cs,rfl,by simp,fun i c v hi hv=>?_⟩
   rw [List.getElem?_map,Array.getElem?_toList,hv] at hi
   simp at hi
   subst hi
   exact DRel.v _ (sksOk_one h v (Array.mem_toList_iff.2 (Array.mem_of_getElem? hv)))
  ·cases h
 ·have h1:=sksOk_one h ky (by simp)
  cases ky <;> first | exact DRel.v _ h1 | simp [Value.oneCell'] at h1
theorem ent_core (hs:Sim P G n b ρ st a w) {j:Nat} {x:Operand} (hc:compOp tt j o.op=some (.ent x)) (hd:dstOk n o.dst) {k:Kt}
  (h:entW (ev G st.sl x) st k) (Q:Exit→Act→World→Prop):o.wp P a w (NextK P G n b o.dst k) Q:=by
 have ho:=comp_ent hc
 unfold entW at h
 split at h
 ·rename_i r0 e1
  split at h
  ·rename_i kt p left hr
   obtain ⟨_,b0,hb0,hx⟩:=ev_rel hs e1
   have hb0':ρ r0=some b0:=hb0
   obtain ⟨q0,q0',a0,m,ces,cl,seen,q1,q2,qS,q3,q4,q5,q6⟩:=hs.heap.objs r0 _ hr
   rw [hb0'] at q1; injection q1 with q1; subst q1
   have q2:w.heap[b0]? = some (.mapIter (some m) cl seen cl):=q2
   have q3:w.heap[m]? = some (.map ces cl):=q3
   obtain ⟨e,f1,f2,f3,f4⟩:=q6 p rfl
   have hrun:(execOp a.eval o).run P w = .ok (.value (.tuple #[e.key,e.val])) w:=by
    refine does_v (s:=Instr.entry (a.eval x)) (by simp [execOp,ho]) ?_
    rw [hx]; exact run_ent q2 q3 q4 f1 f2
   unfold Oper.wp
   rw [hrun]
   refine ⟨ρ,st,_,sim_same hs (t:=.tup [keyV p.1,p.2.toV]) ⟨_,rfl,rfl,fun i c v hi hv=>?_⟩ hd,h⟩
   match i with
   | 0=>simp at hi hv; subst hi; subst hv; rw [f3]; exact keyV_rel (q0' p rfl)
   | 1=>simp at hi hv; subst hi; subst hv; exact pv_rel f4
   | i+2=>simp at hi
  ·exact h.elim
 ·exact h.elim
theorem wop_sound (htab:tabB P tt=true) (hs:Sim P G n b ρ st a w) {j:Nat} {A':A} (hc:compOp tt j o.op=some A') (hd:dstOk n o.dst) {k:Kt}
  (h:wop P G B A' st k) (Q:Exit→Act→World→Prop):o.wp P a w (NextK P G n b o.dst k) Q:=by
 unfold wop at h
 split at h
 ·rename_i f args
  obtain ⟨c,ho,hcc⟩:=comp_call hc rfl
  obtain ⟨hcal,hargs⟩:=compCall_call hcc
  split at h
  ·rename_i vs hvs
   have hv:=argsOf_rel hs args hvs
   refine call_wp hs hv h hd ?_ Q
   have e1:(args.map a.eval).toArray=c.args.map a.eval:=by rw [← hargs]; apply Array.ext'; rw [Array.toList_map]
   rw [e1]
   have:=callFunc_run (w:=w) h.1 (c.args.map a.eval)
   simp [execOp,ho,resolve,hcal,Act.eval,Deferred.ofValue,invoke,this]
  ·exact h.elim
 ·rename_i f args
  obtain ⟨c,ho,hcc⟩:=comp_call hc rfl
  obtain ⟨hcal,hargs⟩:=compCall_callv hcc
  have e1:(args.map a.eval).toArray=c.args.map a.eval:=by rw [← hargs]; apply Array.ext'; rw [Array.toList_map]
  split at h
  ·rename_i f0 caps vs he hvs
   have hv:=argsOf_rel hs args hvs
   obtain ⟨cv,hx,hl,hcv⟩:=ev_rel hs he
   have hv2:VsRel P (ctx ρ st.hp w) (vs ++ caps.map fun c=>.c (.ptr c.1 c.2)) ((args.map a.eval).toArray ++ cv):=by
    refine vsrel_append hv ⟨by simpa using hl,fun i c v hc hv=>?_⟩
    rw [List.getElem?_map] at hc
    cases hq:caps[i]? with
    | none=>rw [hq] at hc; cases hc
    | some p =>
     obtain ⟨r0,off⟩:=p
     rw [hq] at hc
     simp at hc
     subst hc
     obtain ⟨q1,b0,q2,q3⟩:=hcv i r0 off hq
     rw [hv] at q3
     injection q3 with q3
     exact ⟨q1,b0,q2,q3⟩
   refine call_wp hs hv2 h hd ?_ Q
   rw [e1]
   have:=callFunc_run (w:=w) h.1 (c.args.map a.eval ++ cv)
   simp [execOp,ho,resolve,hcal,hx,Deferred.ofValue,invoke,this]
  ·rename_i f0 caps vs he hvs
   have hv:=argsOf_rel hs args hvs
   obtain ⟨cv,hx,hl,hcv⟩:=drel_fn (ev_rel hs he)
   have hv2:VsRel P (ctx ρ st.hp w) (vs ++ caps.map fun c=>.c (.d c)) ((args.map a.eval).toArray ++ cv):=by
    refine vsrel_append hv ⟨by simpa using hl,fun i c v hc hv=>?_⟩
    rw [List.getElem?_map] at hc
    cases hq:caps[i]? with
    | none=>rw [hq] at hc; cases hc
    | some d =>
     rw [hq] at hc
     simp at hc
     subst hc
     have:=hcv i d hq
     rw [Array.getD_eq_getD_getElem?,hv] at this
     exact this
   refine call_wp hs hv2 h hd ?_ Q
   rw [e1]
   have:=callFunc_run (w:=w) h.1 (c.args.map a.eval ++ cv)
   simp [execOp,ho,resolve,hcal,hx,Deferred.ofValue,invoke,this]
  ·exact h.elim
 ·rename_i c x y
  refine fop_wp (B:=B) htab hs hc hd (k:=k) ?_ Q
  unfold condP at h
  split at h
  ·rename_i t he
   simp only [fop,he]
   refine ⟨trivial,?_⟩
   cases t
   ·exact h.2 rfl
   ·exact h.1 rfl
  ·exact h.elim
 ·rename_i ng k' x
  split at h
  ·rename_i xs he
   have h1:=ev_rel hs he
   generalize hv:a.eval x=v at h1
   cases h1 with
   | nil p c=>exact eqN_core htab hs hc hd hv (h p.isNone (fun e=>absurd rfl e)) Q
   | sl _ b0 off cap sz vs _ _ _ _ _ _=>exact eqN_core htab hs hc hd hv (h false (fun _=>rfl)) Q
  ·rename_i r0 sz off len he
   rcases (ev_rel hs he).2 with ⟨rfl,p,hx⟩ | ⟨b0,cap,e,m,hb0,hx,_⟩
   ·exact eqN_core htab hs hc hd hx (h p.isNone (fun e=>absurd rfl e)) Q
   ·exact eqN_core htab hs hc hd hx (h false (fun _=>rfl)) Q
  ·exact fop_wp htab hs hc hd h Q
 ·exact rng_core htab hs hc hd h Q
 ·exact nxt_core hs hc hd h Q
 ·exact ent_core hs hc hd h Q
 ·exact fop_wp htab hs hc hd h Q
theorem sim_holes (hs:Sim P G n b ρ st a w) (k:Nat):Sim P G n b ρ (holes k st) a w:=by
 have hnone:∀ r,st.hp.length≤r→ρ r=none:=fun r hr=>by
  cases hq:ρ r with
  | none=>rfl
  | some x=>have:=(hs.heap.small r x hq).1; omega
 have hget:∀ (r:Nat) o,(st.hp ++ List.replicate k O.hole)[r]? = some o→(st.hp[r]? = some o)∨(st.hp.length≤r∧o = .hole):=by
  intro r o h
  rw [List.getElem?_append] at h
  split at h
  ·exact .inl h
  ·rename_i hl
   rw [List.getElem?_replicate] at h
   split at h
   ·injection h with h; exact .inr ⟨by omega,h.symm⟩
   ·cases h
 have le:(ctx ρ st.hp w).le (ctx ρ (holes k st).hp w):=by
  refine ⟨fun _ _ h=>h,by simp [ctx,holes],⟨fun x hx=>⟨hx.1,fun r o h hl=>?_⟩,fun _ _=>rfl,Nat.le_refl _,fun _ _ _ h=>h,rfl,rfl,rfl⟩⟩
  rcases hget r o h with h | ⟨_,rfl⟩
  ·exact hx.2 r o h hl
  ·cases hl
 have hH:HRel P ρ (holes k st).hp w:=by
  refine hs.heap.change le (fun r o h=>?_) (fun r1 r2 o1 o2 x h1 h2 l1 l2 e1 e2=>?_) (fun r x hx=>?_)
  ·rcases hget r o h with h | ⟨hl,rfl⟩
   ·exact .inr ⟨h,rfl,fun _ _ _=>rfl⟩
   ·exact .inl (hnone r hl)
  ·rcases hget r1 o1 h1 with h1 | ⟨_,rfl⟩
   ·rcases hget r2 o2 h2 with h2 | ⟨_,rfl⟩
    ·exact hs.heap.inj r1 r2 o1 o2 x h1 h2 l1 l2 e1 e2
    ·cases l2
   ·cases l1
  ·have:=hs.heap.small r x hx
   exact ⟨by simp [holes]; omega,this.2⟩
 exact ⟨hH,hs.size,hs.defers,fun t=>(hs.slots t).mono le,hs.glob.mono le.step,hs.le.trans le⟩
theorem guard_bool (hs:Sim P G n b ρ st a w) {t:Nat} (ht:t<n) {x:Bool} (h:st.sl t = .v (.c (.d (.v (.bool x))))):a.tmps[t]? = some (.bool x):=by
 have h1:=hs.slots t
 rw [h] at h1
 have h2:a.tmps.getD t undef = .bool x:=trel_val h1
 have hlt:t<a.tmps.size:=by rw [hs.size]; exact ht
 rw [Array.getD_eq_getD_getElem?] at h2
 simp [hlt] at h2 ⊢
 exact h2
theorem undef_rel {P:Program} {k:K}:TRel P k (.tup []) undef:=⟨#[],rfl,rfl,fun i c v h=>by simp at h⟩
theorem guard_undef (hs:Sim P G n b ρ st a w) {t:Nat} (ht:t<n) (h:st.sl t = .tup []):a.tmps[t]? = some (.tuple #[]):=by
 have h1:=hs.slots t
 rw [h] at h1
 obtain ⟨vs,e,hv⟩:=h1
 have h0:vs = #[]:=by
  have:=hv.1
  apply Array.ext'; cases vs with | mk l=>cases l with | nil=>rfl | cons x r=>simp at this
 subst h0
 have hlt:t<a.tmps.size:=by rw [hs.size]; exact ht
 rw [Array.getD_eq_getD_getElem?] at e
 simp [hlt] at e ⊢
 exact e
theorem one_sound (htab:tabB P tt=true) (ops:Array Oper) (hs:Sim P G n b ρ st a w) {j:Nat} {A':A} (hc:compOp tt j o.op=some A') (hd:dstOk n o.dst) {g:Option (Nat×Bool)}
  (hg:match o.guard with | none=>g=none | some (i,want)=>∃ t,(ops[i]?).bind (·.dst)=some t∧t<n∧g=some (t,want)) {k:St→Prop} (h:wone P G B ⟨o.dst,A',g⟩ st k)
  {K:Act→World→Prop} (hK:∀ ρ' st' a' w',Sim P G n b ρ' st' a' w'→k st'→K a' w') (Q:Exit→Act→World→Prop) :
  if Region.wanted o (yielded ops a.tmps) then o.wp P a w K Q∨(o.asks P a w∧LetsOut Q) else K (a.put o.dst undef) w:=by
 have fire:∀ (h:wop P G B A' st fun t s=>k (s.put o.dst t)),o.wp P a w K Q:=fun h =>
  Oper.wp_mono (fun a' w' ⟨ρ',st',t,q1,q2⟩=>hK ρ' _ a' w' q1 q2) (wop_sound htab hs hc hd h Q)
 cases hog:o.guard with
 | none =>
  rw [hog] at hg
  dsimp only at hg
  subst hg
  have:Region.wanted o (yielded ops a.tmps)=true:=by simp [Region.wanted,hog]
  rw [if_pos this]
  exact .inl (fire h)
 | some p =>
  obtain ⟨i,want⟩:=p
  rw [hog] at hg
  obtain ⟨t,h1,h2,rfl⟩:=hg
  unfold wone at h
  dsimp only at h
  unfold condW at h
  split at h
  ·rename_i x hx
   have hy:yielded ops a.tmps i=some x:=by
    unfold yielded
    rw [h1,Option.bind_some,guard_bool hs h2 hx]
   have hw:Region.wanted o (yielded ops a.tmps)=(x == want):=by
    simp [Region.wanted,hog,hy]
   rw [hw]
   by_cases e:x=want
   ·subst e
    rw [if_pos (by simp)]
    exact .inl (fire (h.1 rfl))
   ·have:(x == want)=false:=by simpa using e
    rw [this]
    simp only [Bool.false_eq_true,if_false]
    refine hK ρ _ _ _ (sim_same hs (t:=.tup []) undef_rel hd) (h.2 ?_)
    cases x <;> cases want <;> simp_all
  ·rename_i hx
   have hy:yielded ops a.tmps i=none:=by
    unfold yielded
    rw [h1,Option.bind_some,guard_undef hs h2 hx]
   have hw:Region.wanted o (yielded ops a.tmps)=false:=by
    simp [Region.wanted,hog,hy]
   rw [hw]
   simp only [Bool.false_eq_true,if_false]
   exact hK ρ _ _ _ (sim_same hs (t:=.tup []) undef_rel hd) h
  ·exact h.elim
theorem wops_wone {B:Nat} {o:AOper} {r:List AOper} {st:St} {k:St→Prop} (h:wops P G B (o :: r) st k):wone P G B o st fun s=>wops P G B r s k:=h
theorem compOps_cons {ops:Array Oper} {j j':Nat} {o:Oper} {r:List Oper} {l:List AOper} (h:compOps tt n ops j (o :: r)=some (j',l)) :
  ∃ A' g l' j1,l=⟨o.dst,A',g⟩ :: l'∧compOp tt j o.op=some A'∧dstOk n o.dst∧(match o.guard with | none=>g=none | some (i,want)=>∃ t,(ops[i]?).bind (·.dst)=some t∧t<n∧g=some (t,want))∧compOps tt n ops j1 r=some (j',l'):=by
 simp only [compOps] at h
 split at h
 ·cases h
 ·rename_i A' hA
  split at h
  ·rename_i hd
   have hdst:dstOk n o.dst:=by
    intro t ht
    rw [ht] at hd
    simpa [dOk] using hd
   cases hog:o.guard with
   | none =>
    rw [hog] at h
    dsimp only at h
    split at h
    ·rename_i j1 l1 h1
     injection h with h
     injection h with e1 e2
     subst e1; subst e2
     exact ⟨A',none,l1,_,rfl,hA,hdst,rfl,h1⟩
    ·cases h
   | some p =>
    obtain ⟨i,want⟩:=p
    rw [hog] at h
    dsimp only at h
    split at h
    ·rename_i t ht
     split at h
     ·rename_i j1 l1 h1
      split at h
      ·rename_i hlt
       injection h with h
       injection h with e1 e2
       subst e1; subst e2
       exact ⟨A',some (t,want),l1,_,rfl,hA,hdst,⟨t,ht,hlt,rfl⟩,h1⟩
      ·cases h
     ·cases h
    ·cases h
  ·cases h
theorem wops_sound (htab:tabB P tt=true) (ops:Array Oper) {Q:Exit→Act→World→Prop} {k:St→Prop} (hQ:∀ ρ' st' a' w',Sim P G n b ρ' st' a' w'→k st'→Q .normal a' w') :
  ∀ (r:List Oper) (i j j':Nat) (l:List AOper) (ρ:Nat→Option Nat) (st:St) (a:Act) (w:World),ops.toList.drop i=r→compOps tt n ops j r=some (j',l)→wops P G B l st k→Sim P G n b ρ st a w→wpOps P ops Q (List.range' i r.length) a w
 | [],i,j,j',l,ρ,st,a,w,hdrop,hc,h,hs=>by
  simp only [compOps,Option.some.injEq,Prod.mk.injEq] at hc
  obtain ⟨_,rfl⟩:=hc
  exact hQ ρ st a w hs h
 | o :: r,i,j,j',l,ρ,st,a,w,hdrop,hc,h,hs=>by
  obtain ⟨A',g,l',j1,rfl,hA,hd,hg,hr⟩:=compOps_cons hc
  have hoi:ops[i]? = some o:=by
   have:ops.toList[i]? = some o:=by
    have h1:(ops.toList.drop i)[0]? = some o:=by rw [hdrop]; rfl
    rw [List.getElem?_drop] at h1
    simpa using h1
   simpa using this
  have hdrop':ops.toList.drop (i+1)=r:=by
   rw [← List.drop_drop,hdrop]; rfl
  simp only [List.length_cons,List.range'_succ,wpOps,hoi]
  exact one_sound htab ops hs hA hd hg (wops_wone h) (fun ρ' st' a' w' hs' h'=>wops_sound htab ops hQ r (i+1) j1 j' l' ρ' st' a' w' hdrop' hr h' hs') Q
theorem compOps_get {ops:Array Oper}:∀ {r:List Oper} {j j':Nat} {l:List AOper},compOps tt n ops j r=some (j',l) →
  l.length=r.length∧∀ (i:Nat) o,r[i]? = some o→∃ A' g j1,l[i]? = some ⟨o.dst,A',g⟩∧compOp tt j1 o.op=some A'∧dstOk n o.dst∧(match o.guard with | none=>g=none | some (i,want)=>∃ t,(ops[i]?).bind (·.dst)=some t∧t<n∧g=some (t,want))
 | [],j,j',l,h=>by
  simp only [compOps,Option.some.injEq,Prod.mk.injEq] at h
  obtain ⟨_,rfl⟩:=h
  exact ⟨rfl,fun i o h=>by simp at h⟩
 | o :: r,j,j',l,h=>by
  obtain ⟨A',g,l',j1,rfl,hA,hd,hg,hr⟩:=compOps_cons h
  obtain ⟨q1,q2⟩:=compOps_get hr
  refine ⟨by simp [q1],fun i o' hi=>?_⟩
  cases i with
  | zero =>
   simp at hi
   subst hi
   exact ⟨A',g,j,rfl,hA,hd,hg⟩
  | succ i =>
   obtain ⟨a1,a2,a3,a4⟩:=q2 i o' (by simpa using hi)
   exact ⟨a1,a2,a3,by simpa using a4⟩
structure Listed (m:Nat) (listed:Array Bool) (dn:List Nat):Prop where
 size:listed.size=m
 same:∀ i,i<m→listed.getD i false=dn.contains i
 small:∀ i∈dn,i<m
theorem Listed.at' {m:Nat} {listed:Array Bool} {dn:List Nat} (h:Listed m listed dn) (i:Nat):listed.getD i false=dn.contains i:=by
 by_cases hi:i<m
 ·exact h.same i hi
 ·rw [Array.getD_eq_getD_getElem?,Array.getElem?_eq_none (by rw [h.size]; omega)]
  have:dn.contains i=false:=by
   cases hq:dn.contains i with
   | false=>rfl
   | true=>exact absurd (h.small i (by simpa using hq)) hi
  rw [this]; rfl
theorem Listed.put {m:Nat} {listed:Array Bool} {dn:List Nat} (h:Listed m listed dn) {i:Nat} (hi:i<m):Listed m (listed.setIfInBounds i true) (i :: dn):=by
 refine ⟨by simpa using h.size,fun j hj=>?_,fun j hj=>?_⟩
 ·rw [Array.getD_eq_getD_getElem?]
  by_cases e:j=i
  ·subst e
   rw [Array.getElem?_setIfInBounds_self_of_lt (by rw [h.size]; exact hi)]
   simp
  ·rw [Array.getElem?_setIfInBounds_ne (fun x=>e x.symm),← Array.getD_eq_getD_getElem?,h.same j hj]
   simp [e]
 ·rcases List.mem_cons.1 hj with rfl | hj
  ·exact hi
  ·exact h.small j hj
def afterOf (ops:Array Oper):List (List Nat):=ops.toList.map fun o=>(o.after.toList.filter fun e=>Region.binds .any e).map Edge.on
theorem ready_eq {ops:Array Oper} {listed:Array Bool} {dn:List Nat} (h:Listed ops.size listed dn):Region.ready .any ops listed=readyA (afterOf ops) dn:=by
 unfold Region.ready readyA
 have hl:(afterOf ops).length=ops.size:=by simp [afterOf]
 rw [hl]
 apply List.filter_congr
 intro i hi
 have hlt:i<ops.size:=by simpa using hi
 have e1:listed.getD i true=dn.contains i:=by
  rw [← h.same i hlt]
  have:i<listed.size:=by rw [h.size]; exact hlt
  simp [Array.getD_eq_getD_getElem?,this]
 rw [e1]
 congr 1
 have e2:(afterOf ops).getD i []=(ops[i].after.toList.filter fun e=>Region.binds .any e).map Edge.on:=by
  simp [afterOf,hlt]
 rw [e2]
 simp only [hlt,getElem?_pos,Option.map_some,Option.getD_some]
 rw [← Array.all_toList,List.all_map,List.all_filter]
 congr 1
 funext e
 simp only [Function.comp,h.at']
theorem wAny_sound (htab:tabB P tt=true) (ops:Array Oper) {Q:Exit→Act→World→Prop} {k:St→Prop} (hQ:∀ ρ' st' a' w',Sim P G n b ρ' st' a' w'→k st'→Q .normal a' w') {j j':Nat} {l:List AOper} (hc:compOps tt n ops j ops.toList=some (j',l)) :
  ∀ (f:Nat) (dn:List Nat) (listed:Array Bool) (ρ:Nat→Option Nat) (st:St) (a:Act) (w:World),Listed ops.size listed dn→wAny P G B l (afterOf ops) f dn st k→Sim P G n b ρ st a w→wpAny P .any ops Q f listed a w
 | 0,dn,listed,ρ,st,a,w,hl,h,hs=>by
  simp only [wpAny,ready_eq hl]
  exact ⟨h.1,hQ ρ st a w hs h.2⟩
 | f+1,dn,listed,ρ,st,a,w,hl,h,hs=>by
  obtain ⟨q1,q2⟩:=compOps_get hc
  simp only [wpAny,ready_eq hl]
  refine ⟨fun h0=>hQ ρ st a w hs (h.1 h0),fun i hi=>?_⟩
  have hlt:i<ops.size:=by
   have:=(List.mem_filter.1 hi).1
   simpa [afterOf] using this
  obtain ⟨A',g,j1,g1,g2,g3,g4⟩:=q2 i ops[i] (by simp [hlt])
  have hw:=h.2 i hi _ g1
  unfold wpOp
  simp only [hlt,getElem?_pos]
  exact one_sound htab ops hs g2 g3 g4 hw (fun ρ' st' a' w' hs' h'=>wAny_sound htab ops hQ hc f (i :: dn) _ ρ' st' a' w' (hl.put hlt) h' hs') Q
def post (P:Program) (G:Gl) (n:Nat) (b:Base) (Q:Qt):Exit→Act→World→Prop
 | .normal,a,w=>∃ ρ st,Sim P G n b ρ st a w∧Q .normal st
 | .exit id,a,w=>∃ ρ st,Sim P G n b ρ st a w∧Q (.exit id) st
 | .ret,a,w=>∃ ρ st,Sim P G n b ρ st a w∧Q .ret st
 | _,_,_=>False
def Base.good (b:Base) (N0:Nat):Prop:=b.N0=N0∧∀ r x,b.ρ0 r=some x→r<N0
theorem wp_loop_rel {α:Type} {Q:Exit→Act→World→Prop} {c:Code} (Rel:α→Act→World→Prop) (μ:α→Nat) {s₀:α} {a:Act} {w:World} (h₀:Rel s₀ a w)
  (round:∀ s a w,Rel s a w→c.wp P (Exit.then (fun a' w'=>∃ s',Rel s' a' w'∧μ s'<μ s) Q) a w):(Code.loop c).wp P Q a w:=by
 intro b k cs
 have key:∀ m s a w,μ s=m→Rel s a w →
   ∃ e a' w',Q e a' w'∧Arrives P (lone (b.at a (.code c :: .inLoop c :: k)) cs w) b k cs e a' w':=by
  intro m
  induction m using Nat.strongRecOn with
  | _ m ih =>
   intro s a w hm hI
   obtain ⟨e,a₁,w₁,hq,harr⟩:=round s a w hI b (.inLoop c :: k) cs
   cases e with
   | normal =>
    obtain ⟨s',hI₁,hlt⟩:=hq
    obtain ⟨e₂,a₂,w₂,hq₂,harr₂⟩:=ih (μ s') (hm▸hlt) s' a₁ w₁ rfl hI₁
    exact ⟨e₂,a₂,w₂,hq₂,.of_steps (Steps.trans harr (.one step_inLoop)) harr₂⟩
   | exit id=>exact ⟨_,a₁,w₁,hq,.pass (x:=.inLoop c) rfl (fun _ _=>.inl (by simp)) harr⟩
   | goto l=>exact ⟨_,a₁,w₁,hq,.pass (x:=.inLoop c) rfl (fun _ _=>.inl (by simp)) harr⟩
   | ret=>exact ⟨_,a₁,w₁,hq,.pass (x:=.inLoop c) rfl (fun _ _=>.inl (by simp)) harr⟩
   | panic ch=>exact ⟨_,a₁,w₁,hq,.pass (x:=.inLoop c) rfl (fun _ _=>.inl (by simp)) harr⟩
   | outgrown=>exact ⟨_,a₁,w₁,hq,.pass (x:=.inLoop c) rfl (fun _ _=>.inl (by simp)) harr⟩
 obtain ⟨e,a',w',hq,harr⟩:=key _ s₀ a w rfl h₀
 exact ⟨e,a',w',hq,.of_steps (.one step_loop) harr⟩
theorem code_sound (htab:tabB P tt=true) (hmix:P.follows .mixedOrders=true) {N0:Nat} (hb:b.good N0):∀ (c:Code) (ac:AC),compC tt n c=some ac→∀ (Q:Qt) (ρ:Nat→Option Nat) (st:St) (a:Act) (w:World),wcode P G N0 ac st Q→Sim P G n b ρ st a w→c.wp P (post P G n b Q) a w:=by
 intro c
 induction c with
 | skip =>
  intro ac hc Q ρ st a w h hs
  simp only [compC,Option.some.injEq] at hc; subst hc
  exact wp_skip ⟨ρ,st,hs,h⟩
 | exit id =>
  intro ac hc Q ρ st a w h hs
  simp only [compC,Option.some.injEq] at hc; subst hc
  exact wp_exit ⟨ρ,st,hs,h⟩
 | ret =>
  intro ac hc Q ρ st a w h hs
  simp only [compC,Option.some.injEq] at hc; subst hc
  exact wp_ret ⟨ρ,st,hs,h⟩
 | region id ops draw =>
  intro ac hc Q ρ st a w h hs
  simp only [compC] at hc
  split at hc
  ·rename_i k l hl
   injection hc with hc
   cases draw with
   | true =>
    simp only [if_true] at hc
    subst hc
    have hdraw:Sim P G n b ρ (holes k st) a { w with drawn:=w.drawn+1 }:=by
     have h1:=sim_holes hs k
     exact ⟨h1.heap.draw,h1.size,h1.defers,fun t=>(h1.slots t).mono le_draw,h1.glob.mono le_draw.step,h1.le.trans le_draw⟩
    have hlen:(afterOf ops).length=ops.size:=by simp [afterOf]
    have h':wAny P G st.hp.length l (afterOf ops) ops.size [] (holes k st) (normQ Q):=by
     have h0:wAny P G st.hp.length l (afterOf ops) (afterOf ops).length [] (holes k st) (normQ Q):=h
     rw [hlen] at h0; exact h0
    exact wp_region_any hmix (wAny_sound htab ops (Q:=post P G n b Q) (k:=normQ Q) (fun ρ' st' a' w' hs' h'=>⟨ρ',st',hs',h'⟩) hl ops.size [] _ ρ _ a _ ⟨by simp,fun i hi=>by simp [Array.getD_eq_getD_getElem?,hi],fun i hi=>by cases hi⟩ h' hdraw)
   | false =>
    simp only [Bool.false_eq_true,if_false] at hc
    subst hc
    refine wp_region ?_
    have:=wops_sound htab ops (Q:=post P G n b Q) (k:=normQ Q) (fun ρ' st' a' w' hs' h'=>⟨ρ',st',hs',h'⟩) ops.toList 0 0 k l ρ _ a w rfl hl h (sim_holes hs k)
    rw [List.range_eq_range']
    simpa using this
  ·cases hc
 | seq x y ihx ihy =>
  intro ac hc Q ρ st a w h hs
  simp only [compC] at hc
  split at hc
  ·rename_i x' y' hx hy
   injection hc with hc; subst hc
   refine wp_seq (wp_mono (ihx x' hx _ ρ st a w h hs) ?_)
   intro e a' w' hp
   cases e with
   | normal =>
    obtain ⟨ρ',st',hs',h'⟩:=hp
    exact ihy y' hy Q ρ' st' a' w' h' hs'
   | exit id=>exact hp
   | ret=>exact hp
   | goto l=>exact hp
   | panic ch=>exact hp
   | outgrown=>exact hp
  ·cases hc
 | cond c x y ihx ihy =>
  intro ac hc Q ρ st a w h hs
  simp only [compC] at hc
  split at hc
  ·rename_i x' y' hx hy
   injection hc with hc; subst hc
   simp only [wcode] at h
   unfold condP at h
   split at h
   ·rename_i t he
    exact wp_cond_split (ev_val hs he) (fun ht=>ihx x' hx Q ρ st a w (h.1 ht) hs) (fun ht=>ihy y' hy Q ρ st a w (h.2 ht) hs)
   ·exact h.elim
  ·cases hc
 | block id x ih =>
  intro ac hc Q ρ st a w h hs
  simp only [compC] at hc
  split at hc
  ·rename_i x' hx
   injection hc with hc; subst hc
   refine wp_block (wp_mono (ih x' hx _ ρ st a w h hs) ?_)
   intro e a' w' hp
   cases e with
   | exit id' =>
    obtain ⟨ρ',st',hs',h'⟩:=hp
    simp only [blockQ] at h'
    simp only [Exit.inBlock]
    split
    ·rename_i e; rw [if_pos e] at h'; exact ⟨ρ',st',hs',h'⟩
    ·rename_i e; rw [if_neg e] at h'; exact ⟨ρ',st',hs',h'⟩
   | normal=>exact hp
   | ret=>exact hp
   | goto l=>exact hp
   | panic ch=>exact hp
   | outgrown=>exact hp
  ·cases hc
 | loop x ih =>
  intro ac hc Q ρ st a w h hs
  simp only [compC] at hc
  split at hc
  ·rename_i x' hx
   injection hc with hc; subst hc
   obtain ⟨I,μ,⟨st1,hw1,hI⟩,hround⟩:=h
   obtain ⟨ρ1,hs1⟩:=hw1 n b ρ a w hb.1 hb.2 hs
   refine wp_loop_rel (fun s a w=>I s∧∃ ρ,Sim P G n b ρ s a w) μ (s₀:=st1) ⟨hI,ρ1,hs1⟩ ?_
   intro s a w ⟨hIs,ρs,hss⟩
   refine wp_mono (ih x' hx _ ρs s a w (hround s hIs) hss) ?_
   intro e a' w' hp
   cases e with
   | normal =>
    obtain ⟨ρ',st',hs',st2,hw2,h2,h3⟩:=hp
    obtain ⟨ρ2,hs2⟩:=hw2 n b ρ' a' w' hb.1 hb.2 hs'
    exact ⟨st2,⟨h2,ρ2,hs2⟩,h3⟩
   | exit id=>exact hp
   | ret=>exact hp
   | goto l=>exact hp
   | panic ch=>exact hp
   | outgrown=>exact hp
  ·cases hc
 | _=>intro ac hc; simp [compC] at hc
end
def phi:List Nat→Nat→Option Nat
 | [],_=>none
 | x :: m,r=>if r=x then some 0 else match phi m r with
  | some i=>some (i+1)
  | none=>none
theorem phi_some:∀ {m:List Nat} {r i:Nat},phi m r=some i→m[i]? = some r
 | [],_,_,h=>by cases h
 | x :: m,r,i,h=>by
  simp only [phi] at h
  split at h
  ·rename_i e; injection h with h; subst h; subst e; rfl
  ·split at h
   ·rename_i j hj
    injection h with h; subst h
    simpa using phi_some hj
   ·cases h
def renCaps (φ:Nat→Option Nat):List (Nat×Nat)→Option (List (Nat×Nat))
 | []=>some []
 | (r,off) :: l=>match φ r,renCaps φ l with
  | some r',some l'=>some ((r',off) :: l')
  | _,_=>none
def renCapX (φ:Nat→Option Nat):List Cap→Option (List Cap)
 | []=>some []
 | .r r off :: l=>match φ r,renCapX φ l with
  | some r',some l'=>some (.r r' off :: l')
  | _,_=>none
 | .d x :: l=>match renCapX φ l with
  | some l'=>some (.d x :: l')
  | none=>none
def C.ren (φ:Nat→Option Nat):C→C
 | .os r sz off len=>match φ r with | some r'=>.os r' sz off len | none=>.top
 | .ptr r off=>match φ r with | some r'=>.ptr r' off | none=>.top
 | .eptr r sz i off=>match φ r with | some r'=>.eptr r' sz i off | none=>.top
 | .mp r=>match φ r with | some r'=>.mp r' | none=>.top
 | .fn f caps=>match renCaps φ caps with | some l=>.fn f l | none=>.top
 | .fx f caps=>match renCapX φ caps with | some l=>.fx f l | none=>.top
 | c=>c
def V.ren (φ:Nat→Option Nat):V→V
 | .c x=>.c (x.ren φ)
 | .agg cs=>.agg (cs.map (C.ren φ))
 | .any=>.any
def T.ren (φ:Nat→Option Nat):T→T
 | .v x=>.v (x.ren φ)
 | .tup vs=>.tup (vs.map (V.ren φ))
def O.ren (φ:Nat→Option Nat):O→O
 | .cells cs=>.cells (cs.map (C.ren φ))
 | o=>o
def sel (m:List Nat) (H:List O):List O:=m.map fun r=>(H.getD r .dead).ren (phi m)
def rhoSel (m:List Nat) (ρ:Nat→Option Nat):Nat→Option Nat:=fun i=>match m[i]? with | some r=>ρ r | none=>none
theorem renCapX_spec {φ:Nat→Option Nat}:∀ {l l':List Cap},renCapX φ l=some l'→l'.length=l.length∧(∀ (i:Nat) r' off,l'[i]? = some (.r r' off)→∃ r,l[i]? = some (.r r off)∧φ r=some r')∧∀ (i:Nat) x,l'[i]? = some (.d x)→l[i]? = some (.d x)
 | [],l',h=>by
  simp only [renCapX,Option.some.injEq] at h
  subst h
  exact ⟨rfl,fun i r' off h=>by simp at h,fun i x h=>by simp at h⟩
 | .r r off :: l,l',h=>by
  simp only [renCapX] at h
  split at h
  ·rename_i r1 l1 h1 h2
   injection h with h; subst h
   obtain ⟨q1,q2,q3⟩:=renCapX_spec h2
   refine ⟨by simp [q1],fun i r' off' hi=>?_,fun i x hi=>?_⟩
   ·cases i with
    | zero=>simp at hi; obtain ⟨rfl,rfl⟩:=hi; exact ⟨r,rfl,h1⟩
    | succ i=>obtain ⟨r0,a,b⟩:=q2 i r' off' (by simpa using hi); exact ⟨r0,by simpa using a,b⟩
   ·cases i with
    | zero=>simp at hi
    | succ i=>simpa using q3 i x (by simpa using hi)
  ·cases h
 | .d y :: l,l',h=>by
  simp only [renCapX] at h
  split at h
  ·rename_i l1 h2
   injection h with h; subst h
   obtain ⟨q1,q2,q3⟩:=renCapX_spec h2
   refine ⟨by simp [q1],fun i r' off' hi=>?_,fun i x hi=>?_⟩
   ·cases i with
    | zero=>simp at hi
    | succ i=>obtain ⟨r0,a,b⟩:=q2 i r' off' (by simpa using hi); exact ⟨r0,by simpa using a,b⟩
   ·cases i with
    | zero=>simpa using hi
    | succ i=>simpa using q3 i x (by simpa using hi)
  ·cases h
theorem renCaps_spec {φ:Nat→Option Nat}:∀ {l l':List (Nat×Nat)},renCaps φ l=some l'→l'.length=l.length∧∀ (i:Nat) r' off,l'[i]? = some (r',off)→∃ r,l[i]? = some (r,off)∧φ r=some r'
 | [],l',h=>by
  simp only [renCaps,Option.some.injEq] at h
  subst h
  exact ⟨rfl,fun i r' off h=>by simp at h⟩
 | (r,off) :: l,l',h=>by
  simp only [renCaps] at h
  split at h
  ·rename_i r1 l1 h1 h2
   injection h with h; subst h
   obtain ⟨q1,q2⟩:=renCaps_spec h2
   refine ⟨by simp [q1],fun i r' off' hi=>?_⟩
   cases i with
   | zero=>simp at hi; obtain ⟨rfl,rfl⟩:=hi; exact ⟨r,rfl,h1⟩
   | succ i=>obtain ⟨r0,a,b⟩:=q2 i r' off' (by simpa using hi); exact ⟨r0,by simpa using a,b⟩
  ·cases h
section
variable {P:Program} {G:Gl}
structure Ren (φ:Nat→Option Nat) (k k':K):Prop where
 num:∀ r r',φ r=some r'→r'<k'.N∧k'.ρ r'=k.ρ r
 step:Step k.S k.w k'.S k'.w
theorem CRel.ren {φ:Nat→Option Nat} {k k':K} (h:Ren φ k k') {c:C} {v:Value} (hc:CRel P k c v):CRel P k' (c.ren φ) v:=by
 have one:=crel_one (P:=P) hc
 cases c with
 | d x=>exact DRel.mono hc h.step
 | os r sz off len =>
  simp only [C.ren]
  cases hp:φ r with
  | none=>exact one
  | some r' =>
   obtain ⟨h1,h2⟩:=h.num r r' hp
   refine ⟨h1,?_⟩
   rcases hc.2 with q | ⟨b,cap,e,n,q1,q2,q3,q4,q5⟩
   ·exact .inl q
   ·exact .inr ⟨b,cap,e,n,by rw [h2]; exact q1,q2,q3,h.step.shape _ _ _ q4,q5⟩
 | ptr r off =>
  simp only [C.ren]
  cases hp:φ r with
  | none=>exact one
  | some r'=>obtain ⟨h1,h2⟩:=h.num r r' hp; obtain ⟨_,b,q1,q2⟩:=hc; exact ⟨h1,b,by rw [h2]; exact q1,q2⟩
 | eptr r sz i off =>
  simp only [C.ren]
  cases hp:φ r with
  | none=>exact one
  | some r'=>obtain ⟨h1,h2⟩:=h.num r r' hp; obtain ⟨_,b,q1,q2⟩:=hc; exact ⟨h1,b,by rw [h2]; exact q1,q2⟩
 | mp r =>
  simp only [C.ren]
  cases hp:φ r with
  | none=>exact one
  | some r'=>obtain ⟨h1,h2⟩:=h.num r r' hp; obtain ⟨_,b,q1,q2⟩:=hc; exact ⟨h1,b,by rw [h2]; exact q1,q2⟩
 | fn f caps =>
  simp only [C.ren]
  cases hp:renCaps φ caps with
  | none=>exact one
  | some l =>
   obtain ⟨cv,q1,q2,q3⟩:=hc
   obtain ⟨p1,p2⟩:=renCaps_spec hp
   refine ⟨cv,q1,by rw [q2,p1],fun i r' off hi=>?_⟩
   obtain ⟨r,g1,g2⟩:=p2 i r' off hi
   obtain ⟨_,b,g3,g4⟩:=q3 i r off g1
   obtain ⟨h1,h2⟩:=h.num r r' g2
   exact ⟨h1,b,by rw [h2]; exact g3,g4⟩
 | fx f caps =>
  simp only [C.ren]
  cases hp:renCapX φ caps with
  | none=>exact one
  | some l =>
   obtain ⟨cv,q1,q2,q3,q4⟩:=hc
   obtain ⟨p1,p2,p3⟩:=renCapX_spec hp
   refine ⟨cv,q1,by rw [q2,p1],fun i r' off hi=>?_,fun i x hi=>(q4 i x (p3 i x hi)).mono h.step⟩
   obtain ⟨r,g1,g2⟩:=p2 i r' off hi
   obtain ⟨_,b,g3,g4⟩:=q3 i r off g1
   obtain ⟨h1,h2⟩:=h.num r r' g2
   exact ⟨h1,b,by rw [h2]; exact g3,g4⟩
 | ifc=>exact hc
 | top=>exact hc
theorem CsRel.ren {φ:Nat→Option Nat} {k k':K} (h:Ren φ k k') {cs:List C} {vs:Array Value} (hc:CsRel P k cs vs):CsRel P k' (cs.map (C.ren φ)) vs:=by
 refine ⟨by simpa using hc.1,fun i c v hi hv=>?_⟩
 rw [List.getElem?_map] at hi
 cases hq:cs[i]? with
 | none=>rw [hq] at hi; cases hi
 | some x =>
  rw [hq] at hi
  simp at hi
  subst hi
  exact CRel.ren h (hc.2 i x v hq hv)
theorem VRel.ren {φ:Nat→Option Nat} {k k':K} (h:Ren φ k k') {u:V} {v:Value} (hu:VRel P k u v):VRel P k' (u.ren φ) v:=by
 cases u with
 | c x=>exact CRel.ren (P:=P) h hu
 | agg cs=>obtain ⟨vs,e,hc⟩:=hu; exact ⟨vs,e,hc.ren h⟩
 | any=>trivial
theorem TRel.ren {φ:Nat→Option Nat} {k k':K} (h:Ren φ k k') {u:T} {v:Value} (hu:TRel P k u v):TRel P k' (u.ren φ) v:=by
 cases u with
 | v x=>exact VRel.ren (P:=P) h hu
 | tup us =>
  obtain ⟨vs,e,hc⟩:=hu
  refine ⟨vs,e,by simpa using hc.1,fun i c v hi hv=>?_⟩
  rw [List.getElem?_map] at hi
  cases hq:us[i]? with
  | none=>rw [hq] at hi; cases hi
  | some x =>
   rw [hq] at hi
   simp at hi
   subst hi
   exact VRel.ren h (hc.2 i x v hq hv)
theorem O.ren_live (φ:Nat→Option Nat) (o:O):(o.ren φ).live=o.live:=by cases o <;> rfl
theorem ORel.ren {φ:Nat→Option Nat} {k k':K} (h:Ren φ k k') (hw:k'.w=k.w) {b:Option Nat} {o:O} (ho:ORel P k b o):ORel P k' b (o.ren φ):=by
 cases o with
 | hole=>exact ho
 | dead=>trivial
 | cells cs=>obtain ⟨a,c,e,h1,h2,h3⟩:=ho; exact ⟨a,c,e,h1,by rw [hw]; exact h2,h3.ren h⟩
 | row sz xs =>
  refine ⟨ho.1,?_⟩
  rcases ho.2 with q | ⟨a,c,e,h1,h2,h3⟩
  ·exact .inl q
  ·exact .inr ⟨a,c,e,h1,by rw [hw]; exact h2,h3.mono h.step⟩
 | frow sz xs =>
  refine ⟨ho.1,?_⟩
  rcases ho.2 with q | ⟨a,c,e,fz,h1,hS,h2,h3⟩
  ·exact .inl q
  ·exact .inr ⟨a,c,e,fz,h1,h.step.sub a hS,by rw [hw]; exact h2,h3.mono h.step⟩
 | map kt es =>
  obtain ⟨h0,a,ces,cl,h1,h2,h3,h4,h5⟩:=ho
  exact ⟨h0,a,ces,cl,h1,by rw [hw]; exact h2,h3,fun i ky pv e hi he=>⟨(h4 i ky pv e hi he).1,(h4 i ky pv e hi he).2.mono h.step⟩,h5⟩
 | iter kt cur left =>
  obtain ⟨h0,h0',a,m,ces,cl,seen,h1,h2,hS,h3,h4,h5,h6⟩:=ho
  refine ⟨h0,h0',a,m,ces,cl,seen,h1,by rw [hw]; exact h2,h.step.sub m hS,by rw [hw]; exact h3,h4,h5.mono h.step,fun p hp=>?_⟩
  obtain ⟨e,e1,e2,e3,e4⟩:=h6 p hp
  exact ⟨e,e1,e2,e3,e4.mono h.step⟩
def selB (m:List Nat) (n:Nat):Bool:=(List.range m.length).all fun i=>match m[i]? with
 | some r=>phi m r == some i && decide (r<n)
 | none=>false
def okSel (m:List Nat) (H:List O):Prop:=selB m H.length=true
theorem selB_spec {m:List Nat} {n i r:Nat} (h:selB m n=true) (hr:m[i]? = some r):phi m r=some i∧r<n:=by
 have:=List.all_eq_true.1 h i (by simpa using lt_of_get hr)
 rw [hr] at this
 simpa using this
theorem sel_get {m:List Nat} {H:List O} {i:Nat} {o:O} (h:(sel m H)[i]? = some o):∃ r,m[i]? = some r∧o=(H.getD r .dead).ren (phi m):=by
 unfold sel at h
 rw [List.getElem?_map] at h
 cases hq:m[i]? with
 | none=>rw [hq] at h; cases h
 | some r=>rw [hq] at h; simp at h; exact ⟨r,rfl,h.symm⟩
theorem sel_rel {m:List Nat} {ρ:Nat→Option Nat} {H:List O} {w:World} (h:HRel P ρ H w) (hm:okSel m H) :
  HRel P (rhoSel m ρ) (sel m H) w∧Ren (phi m) (ctx ρ H w) (ctx (rhoSel m ρ) (sel m H) w):=by
 have hren:Ren (phi m) (ctx ρ H w) (ctx (rhoSel m ρ) (sel m H) w):=by
  refine ⟨fun r r' hp=>?_,⟨fun b hb=>⟨hb.1,fun i o hi hl=>?_⟩,fun _ _=>rfl,Nat.le_refl _,fun _ _ _ h=>h,rfl,rfl,rfl⟩⟩
  ·have:=phi_some hp
   refine ⟨by simpa [ctx,sel] using lt_of_get this,?_⟩
   show rhoSel m ρ r'=ρ r
   simp only [rhoSel,this]
  ·obtain ⟨r,hr,rfl⟩:=sel_get hi
   rw [O.ren_live] at hl
   have hrl:=(selB_spec hm hr).2
   have hg:H[r]? = some (H.getD r .dead):=by simp [List.getD,hrl]
   have:=hb.2 r _ hg hl
   show rhoSel m ρ i≠some b
   simp only [rhoSel,hr]
   exact this
 refine ⟨⟨fun i o hi=>?_,fun i i' o o' b h1 h2 l1 l2 e1 e2=>?_,fun i b hi=>?_⟩,hren⟩
 ·obtain ⟨r,hr,rfl⟩:=sel_get hi
  have hrl:=(selB_spec hm hr).2
  have hg:H[r]? = some (H.getD r .dead):=by simp [List.getD,hrl]
  have:=ORel.ren (P:=P) hren rfl (h.objs r _ hg)
  have e:rhoSel m ρ i=ρ r:=by simp only [rhoSel,hr]
  rw [e]
  exact this
 ·obtain ⟨r,hr,rfl⟩:=sel_get h1
  obtain ⟨r',hr',rfl⟩:=sel_get h2
  rw [O.ren_live] at l1 l2
  have hrl:=(selB_spec hm hr).2
  have hrl':=(selB_spec hm hr').2
  simp only [rhoSel,hr] at e1
  simp only [rhoSel,hr'] at e2
  have:=h.inj r r' _ _ b (by simp [List.getD,hrl]) (by simp [List.getD,hrl']) l1 l2 e1 e2
  subst this
  have q1:=(selB_spec hm hr).1
  have q2:=(selB_spec hm hr').1
  rw [q1] at q2
  injection q2
 ·simp only [rhoSel] at hi
  split at hi
  ·rename_i r hr
   exact ⟨by simpa [sel] using lt_of_get hr,(h.small r b hi).2⟩
  ·cases hi
def keeps (N0:Nat) (m:List Nat):Prop:=∀ r,r<N0→m[r]? = some r
theorem keeps_zero (m:List Nat):keeps 0 m:=fun r hr=>by omega
def selSt (m keep:List Nat) (st:St):St:=⟨ofL (keep.map fun t=>(t,(st.sl t).ren (phi m))),sel m st.hp⟩
theorem ofL_map (f:Nat→T):∀ (keep:List Nat) (t:Nat),ofL (keep.map fun t=>(t,f t)) t=f t∨ofL (keep.map fun t=>(t,f t)) t = .v .any
 | [],t=>.inr rfl
 | x :: keep,t=>by
  simp only [List.map_cons,ofL]
  split
  ·rename_i e; subst e; exact .inl rfl
  ·exact ofL_map f keep t
theorem weak_sel {N0:Nat} (m keep:List Nat) {st:St} (hm:okSel m st.hp) (hk:keeps N0 m) (hN:N0≤m.length):Weak P G N0 st (selSt m keep st):=by
 intro n b ρ a w hb1 hb2 hs
 obtain ⟨h1,h2⟩:=sel_rel hs.heap hm
 refine ⟨rhoSel m ρ,h1,hs.size,hs.defers,fun t=>?_,hs.glob.mono h2.step,?_⟩
 ·show TRel P _ (ofL _ t) _
  rcases ofL_map (fun t=>(st.sl t).ren (phi m)) keep t with h | h
  ·rw [h]; exact TRel.ren h2 (hs.slots t)
  ·rw [h]; trivial
 ·refine ⟨fun r x hr=>?_,by simpa [Base.k,ctx,selSt,sel,hb1] using hN,hs.le.step.trans h2.step⟩
  have:=hk r (hb2 r x hr)
  show rhoSel m ρ r=some x
  simp only [rhoSel,this]
  exact hs.le.ρ r x hr
theorem Weak.trans {N0:Nat} {s1 s2 s3:St} (h:Weak P G N0 s1 s2) (k:Weak P G N0 s2 s3):Weak P G N0 s1 s3:=by
 intro n b ρ a w hb1 hb2 hs
 obtain ⟨ρ',hs'⟩:=h n b ρ a w hb1 hb2 hs
 exact k n b ρ' a w hb1 hb2 hs'
def resV (st:St):AR→Option V
 | .tmp t=>match st.sl t with | .v x=>some x | _=>none
 | .cell t agg n=>match st.sl t with
  | .v (.c (.ptr r off))=>match st.hp[r]? with
   | some (.cells cs)=>if off+n≤cs.length then match valOf agg ((cs.drop off).take n) with | .v x=>some x | _=>none else none
   | _=>none
  | _=>none
def resL (st:St):List AR→Option (List V)
 | []=>some []
 | r :: rs=>match resV st r,resL st rs with
  | some v,some l=>some (v :: l)
  | _,_=>none
def resT (l:List V):T:=match l with | [v]=>.v v | l=>.tup l
def FWeak (P:Program) (N0:Nat) (t:T) (H:List O) (t':T) (H':List O):Prop :=
 N0≤H'.length∧∀ ρ w v,HRel P ρ H w→TRel P (ctx ρ H w) t v→∃ ρ',HRel P ρ' H' w∧TRel P (ctx ρ' H' w) t' v∧(∀ r,r<N0→ρ' r=ρ r)∧∀ b,stab ρ H w b→stab ρ' H' w b
def Fin (P:Program) (N0:Nat) (R:T→List O→Prop) (t:T) (H:List O):Prop:=∃ t' H',FWeak P N0 t H t' H'∧R t' H'
def retQ (P:Program) (N0:Nat) (res:List AR) (R:T→List O→Prop):Qt
 | .exit _,_=>False
 | _,st=>match resL st res with
  | some l=>Fin P N0 R (resT l) st.hp
  | none=>False
def argSl (args:List V):Nat→T:=fun i=>match args[i]? with | some v=>.v v | none=>.v .any
end
section
variable {P:Program} {G:Gl} {n:Nat} {b:Base} {ρ:Nat→Option Nat} {st:St} {a:Act} {w:World} {tt:TT}
theorem res_run (htab:tabB P tt=true) (hs:Sim P G n b ρ st a w):∀ (rs:List ResultVar) (ars:List AR) (l:List V),compR tt rs=some ars→resL st ars=some l →
  ∃ vs:List Value,(rs.mapM fun r=>(match r with | .tmp t=>pure (a.tmps.getD t undef) | .cell c t=>do loadVar t (← asAddr (a.tmps.getD c undef)):Sem Value)).run P w = .ok vs w∧vs.length=l.length∧∀ (i:Nat) c v,l[i]? = some c→vs[i]? = some v→VRel P (ctx ρ st.hp w) c v
 | [],ars,l,h1,h2=>by
  simp only [compR,Option.some.injEq] at h1
  subst h1
  simp only [resL,Option.some.injEq] at h2
  subst h2
  exact ⟨[],by simp,rfl,fun i c v h=>by simp at h⟩
 | r :: rs,ars,l,h1,h2=>by
  have main:∀ ar ars',ars=ar :: ars'→compR tt rs=some ars'→(∀ x,resV st ar=some x→∃ v,(match r with | .tmp t=>pure (a.tmps.getD t undef) | .cell c t=>do loadVar t (← asAddr (a.tmps.getD c undef)):Sem Value).run P w = .ok v w∧VRel P (ctx ρ st.hp w) x v) → 
    ∃ vs:List Value,((r :: rs).mapM fun r=>(match r with | .tmp t=>pure (a.tmps.getD t undef) | .cell c t=>do loadVar t (← asAddr (a.tmps.getD c undef)):Sem Value)).run P w = .ok vs w∧vs.length=l.length∧∀ (i:Nat) c v,l[i]? = some c→vs[i]? = some v→VRel P (ctx ρ st.hp w) c v:=by
   intro ar ars' e hc hx
   subst e
   simp only [resL] at h2
   split at h2
   ·rename_i x l' hx1 hl'
    injection h2 with h2; subst h2
    obtain ⟨v,hv,hr⟩:=hx x hx1
    obtain ⟨vs,q1,q2,q3⟩:=res_run htab hs rs ars' l' hc hl'
    refine ⟨v :: vs,?_,by simp [q2],fun i c u hi hu=>?_⟩
    ·simp only [List.mapM_cons,Sem.run_bind,hv,Result.andThen_ok,q1,Sem.run_pure]
    ·cases i with
     | zero=>simp at hi hu; subst hi; subst hu; exact hr
     | succ i=>exact q3 i c u (by simpa using hi) (by simpa using hu)
   ·cases h2
  cases r with
  | tmp t =>
   simp only [compR] at h1
   split at h1
   ·rename_i l1 hl1
    injection h1 with h1
    refine main (.tmp t) l1 h1.symm hl1 (fun x hx=>?_)
    simp only [resV] at hx
    split at hx
    ·rename_i y hy
     injection hx with hx; subst hx
     have:=hs.slots t
     rw [hy] at this
     exact ⟨a.tmps.getD t undef,rfl,this⟩
    ·cases hx
   ·cases h1
  | cell c ty =>
   simp only [compR] at h1
   split at h1
   ·rename_i ti l1 hti hl1
    split at h1
    ·rename_i hsz
     injection h1 with h1
     refine main (.cell c ti.agg ti.size) l1 h1.symm hl1 (fun x hx=>?_)
     simp only [resV] at hx
     split at hx
     ·rename_i r0 off hy
      split at hx
      ·rename_i cs hcs
       split at hx
       ·rename_i hle
        split at hx
        ·rename_i y hval
         injection hx with hx; subst hx
         have h3:=hs.slots c
         rw [hy] at h3
         obtain ⟨_,b0,hb0,hp⟩:=h3
         obtain ⟨a0,cc,e,g1,g2,g3⟩:=hs.heap.objs r0 _ hcs
         have hb0':ρ r0=some b0:=hb0
         rw [hb0'] at g1; injection g1 with g1; subst g1
         have g2':w.heap[b0]? = some (.cells cc e (0,0)):=g2
         obtain ⟨v,vs,k1,k2,k3,k4⟩:=load_var (P:=P) (w:=w) htab hti (size1 hsz) b0 off (fun j hj=>by
          have hlt:off+j<cc.size:=by rw [g3.1]; omega
          exact ⟨cc[off+j],by rw [cell_heap g2']; simp [hlt]⟩)
         refine ⟨v,?_,?_⟩
         ·simp only [hp,asAddr,Sem.run_bind,Sem.run_pure,Result.andThen_ok,k1]
         ·have:=valOf_rel (P:=P) (k:=ctx ρ st.hp w) (size1 hsz) (cs:=(cs.drop off).take ti.size) k4 (by simp; omega) (by rw [k2]; simp; omega) (fun i c' u hc' hu=>by
           rw [List.getElem?_take] at hc'
           split at hc'
           ·rename_i hi
            rw [List.getElem?_drop] at hc'
            rw [← k3 i hi,cell_heap g2'] at hu
            exact g3.2 _ c' u hc' hu
           ·cases hc')
          rw [hval] at this
          exact this
        ·cases hx
       ·cases hx
      ·cases hx
     ·cases hx
    ·cases h1
   ·cases h1
theorem acalls_intro (htab:tabB P tt=true) (hmix:P.follows .mixedOrders=true) {f:Nat} {fn:Func} {af:AF} (hf:P.funcs[f]? = some fn) (hc:compF tt fn=some af) {args:List V} {H:List O} {R:T→List O→Prop} (hn:Nat.ble args.length af.n=true)
  (h:wcode P G H.length af.body ⟨argSl args,H⟩ (retQ P H.length af.res R)):ACalls P G f args H R:=by
 unfold compF at hc
 split at hc
 ·rename_i c hb
  split at hc
  ·cases hc
  ·rename_i hname
   split at hc
   ·rename_i bd rs hbd hrs
    injection hc with hc; subst hc
    refine ⟨⟨fn,hf,by rw [hb]; rfl,by simpa using hname⟩,fun ρ w vs hH hG hv=>?_⟩
    refine calls_of_wp hf hb ?_
    let bs:Base:=⟨stab ρ H w,w,ρ,H.length⟩
    have hle:vs.size≤fn.ntmps:=by rw [hv.1]; exact Nat.le_of_ble_eq_true hn
    ·have hsim:Sim P G fn.ntmps bs ρ ⟨argSl args,H⟩ { tmps:=vs ++ Array.replicate (fn.ntmps-vs.size) undef,defers:=[] } w:=by
      refine ⟨hH,by simp; omega,rfl,fun t=>?_,hG,.refl _⟩
      show TRel P _ (argSl args t) _
      unfold argSl
      split
      ·rename_i x hx
       have hlt:t<vs.size:=by rw [hv.1]; exact lt_of_get hx
       refine hv.2 t x _ hx ?_
       rw [Array.getD_eq_getD_getElem?,Array.getElem?_append,if_pos hlt]
       simp [hlt]
      ·trivial
     have hgood:bs.good H.length:=⟨rfl,fun r x hr=>(hH.small r x hr).1⟩
     refine wp_mono (code_sound htab hmix hgood c bd hbd _ ρ _ _ w h hsim) ?_
     have fin:∀ ρ' st' a' w',Sim P G fn.ntmps bs ρ' st' a' w'→(match resL st' rs with | some l=>Fin P H.length R (resT l) st'.hp | none=>False) →
       a'.defers=[]∧∃ v,(results fn a'.tmps).run P w' = .ok v w'∧∃ v' t ρ'' H',Ending.returned v = .returned v'∧R t H'∧HRel P ρ'' H' w'∧TRel P (ctx ρ'' H' w') t v'∧(ctx ρ H w).le (ctx ρ'' H' w'):=by
      intro ρ' st' a' w' hs' hfin
      refine ⟨hs'.defers,?_⟩
      split at hfin
      ·rename_i l hl
       obtain ⟨vs',q1,q2,q3⟩:=res_run htab hs' fn.results.toList rs l hrs hl
       have hrel:TRel P (ctx ρ' st'.hp w') (resT l) (if h:vs'.toArray.size=1 then vs'.toArray[0] else .tuple vs'.toArray):=by
        unfold resT
        split
        ·rename_i v0
         match vs',q2,q3 with
         | [u],_,q3=>exact q3 0 _ _ rfl rfl
        ·rename_i hne
         have:¬ vs'.toArray.size=1:=by
          intro e
          rw [List.size_toArray,q2] at e
          obtain ⟨x,hx⟩:=List.length_eq_one_iff.1 e
          exact hne x hx
         rw [dif_neg this]
         exact ⟨_,rfl,by simpa using q2,fun i c v hi hv=>q3 i c v hi (by simpa using hv)⟩
       obtain ⟨t',H',⟨hN,hw⟩,hR⟩:=hfin
       obtain ⟨ρ'',g1,g2,g3,g4⟩:=hw ρ' w' _ hs'.heap hrel
       refine ⟨_,?_,_,t',ρ'',H',rfl,hR,g1,g2,fun r x hr=>?_,by simpa [ctx] using hN,hs'.le.step.more g4⟩
       ·unfold results
        rw [Sem.run_bind,Array.mapM_eq_mapM_toList,Sem.run_map]
        erw [q1]
        rfl
       ·show ρ'' r=some x
        rw [g3 r (hH.small r x hr).1]
        exact hs'.le.ρ r x hr
      ·exact hfin.elim
     intro e a' w' hp
     cases e with
     | normal=>obtain ⟨ρ',st',hs',h'⟩:=hp; exact fin ρ' st' a' w' hs' h'
     | ret=>obtain ⟨ρ',st',hs',h'⟩:=hp; exact fin ρ' st' a' w' hs' h'
     | exit id=>obtain ⟨ρ',st',hs',h'⟩:=hp; exact h'.elim
     | goto l=>exact hp.elim
     | panic ch=>exact hp.elim
     | outgrown=>exact hp.elim
   ·cases hc
 ·cases hc
theorem fweak_sel {N0:Nat} {m:List Nat} {t:T} {H:List O} (hm:okSel m H) (hk:keeps N0 m) (hN:N0≤m.length):FWeak P N0 t H (t.ren (phi m)) (sel m H):=by
 refine ⟨by simpa [sel] using hN,fun ρ w v hH ht=>?_⟩
 obtain ⟨h1,h2⟩:=sel_rel hH hm
 refine ⟨rhoSel m ρ,h1,TRel.ren h2 ht,fun r hr=>?_,fun b hb=>h2.step.sub b hb⟩
 simp only [rhoSel,hk r hr]
theorem FWeak.trans {N0:Nat} {t t' t'':T} {H H' H'':List O} (h:FWeak P N0 t H t' H') (k:FWeak P N0 t' H' t'' H''):FWeak P N0 t H t'' H'':=by
 refine ⟨k.1,fun ρ w v hH ht=>?_⟩
 obtain ⟨ρ1,a1,a2,a3,a4⟩:=h.2 ρ w v hH ht
 obtain ⟨ρ2,b1,b2,b3,b4⟩:=k.2 ρ1 w v a1 a2
 exact ⟨ρ2,b1,b2,fun r hr=>(b3 r hr).trans (a3 r hr),fun b hb=>b4 b (a4 b hb)⟩
theorem fweak_pv {N0:Nat} {u:V} {p:PV} {H:List O} (hp:toPV H u=some p) (hN:N0≤H.length):FWeak P N0 (.v u) H (.v p.toV) (frz H u.cells):=by
 refine ⟨by rw [(frz_fz u.cells H).len]; exact hN,fun ρ w v hH ht=>?_⟩
 obtain ⟨h1,l1⟩:=frz_rel u.cells hH
 have:=topv_rel hH hp ht
 exact ⟨ρ,h1,pv_rel (P:=P) (k:=ctx ρ (frz H u.cells) w) this,fun _ _=>rfl,fun b hb=>l1.step.sub b hb⟩
def frzVs (H:List O):List V→List O
 | []=>H
 | u :: r=>frzVs (frz H u.cells) r
def toPVs (H:List O):List V→Option (List PV)
 | []=>some []
 | u :: r=>match toPV H u,toPVs (frz H u.cells) r with
  | some p,some ps=>some (p :: ps)
  | _,_=>none
theorem frzVs_rel:∀ (us:List V) {H:List O} {ρ:Nat→Option Nat} {w:World},HRel P ρ H w→HRel P ρ (frzVs H us) w∧(ctx ρ H w).le (ctx ρ (frzVs H us) w)∧(frzVs H us).length=H.length
 | [],H,ρ,w,h=>⟨h,.refl _,rfl⟩
 | u :: r,H,ρ,w,h=>by
  obtain ⟨h1,l1⟩:=frz_rel u.cells h
  obtain ⟨h2,l2,l3⟩:=frzVs_rel r h1
  exact ⟨h2,l1.trans l2,by simp only [frzVs]; rw [l3,(frz_fz _ _).len]⟩
theorem toPVs_rel:∀ (us:List V) {H:List O} {ρ:Nat→Option Nat} {w:World} {ps:List PV} {vs:List Value},HRel P ρ H w→toPVs H us=some ps→vs.length=us.length→(∀ (i:Nat) c v,us[i]? = some c→vs[i]? = some v→VRel P (ctx ρ H w) c v) →
  ps.length=us.length∧∀ (i:Nat) p v,ps[i]? = some p→vs[i]? = some v→PRel (stab ρ (frzVs H us) w) w p v
 | [],H,ρ,w,ps,vs,h,hp,hl,hr=>by
  simp only [toPVs,Option.some.injEq] at hp
  subst hp
  exact ⟨rfl,fun i p v h=>by simp at h⟩
 | u :: r,H,ρ,w,ps,[],h,hp,hl,hr=>by simp at hl
 | u :: r,H,ρ,w,ps,v :: vs,h,hp,hl,hr=>by
  simp only [toPVs] at hp
  split at hp
  ·rename_i p ps' h1 h2
   injection hp with hp; subst hp
   obtain ⟨g1,l1⟩:=frz_rel u.cells h
   obtain ⟨q1,q2⟩:=toPVs_rel r g1 h2 (by simpa using hl) (fun i c v' hc hv=>(hr (i+1) c v' (by simpa using hc) (by simpa using hv)).mono l1)
   obtain ⟨_,l2,_⟩:=frzVs_rel r g1
   refine ⟨by simp [q1],fun i p' v' hp' hv'=>?_⟩
   cases i with
   | zero =>
    simp at hp' hv'
    subst hp'; subst hv'
    exact (topv_rel h h1 (hr 0 u v rfl rfl)).mono l2.step
   | succ i=>exact q2 i p' v' (by simpa using hp') (by simpa using hv')
  ·cases hp
theorem fweak_pvs {N0:Nat} {us:List V} {ps:List PV} {H:List O} (hp:toPVs H us=some ps) (hN:N0≤H.length):FWeak P N0 (.tup us) H (.tup (ps.map PV.toV)) (frzVs H us):=by
 refine ⟨?_,fun ρ w v hH ht=>?_⟩
 ·have:∀ (us:List V) (H:List O),(frzVs H us).length=H.length:=by
   intro us
   induction us with
   | nil=>intro H; rfl
   | cons u r ih=>intro H; simp only [frzVs]; rw [ih,(frz_fz _ _).len]
  rw [this]; exact hN
 ·obtain ⟨vs,e,hv⟩:=ht
  obtain ⟨h1,l1,_⟩:=frzVs_rel us hH
  obtain ⟨q1,q2⟩:=toPVs_rel us (vs:=vs.toList) hH hp (by simpa using hv.1) (fun i c v hc hv'=>hv.2 i c v hc (by simpa using hv'))
  refine ⟨ρ,h1,⟨vs,e,by rw [List.length_map,q1]; exact hv.1,fun i c v hc hv'=>?_⟩,fun _ _=>rfl,fun b hb=>l1.step.sub b hb⟩
  rw [List.getElem?_map] at hc
  cases hq:ps[i]? with
  | none=>rw [hq] at hc; cases hc
  | some p =>
   rw [hq] at hc
   simp at hc
   subst hc
   exact pv_rel (P:=P) (k:=ctx ρ (frzVs H us) w) (q2 i p v hq (by simpa using hv'))
theorem PV.ren_toV (φ:Nat→Option Nat) (p:PV):p.toV.ren φ=p.toV:=by
 cases p with
 | c x=>rfl
 | agg ds=>simp [PV.toV,V.ren,C.ren]
theorem fin_sel {N0:Nat} {R:T→List O→Prop} {t:T} {H:List O} (m:List Nat) (hm:selB m H.length=true) (hk:keeps N0 m) (hN:N0≤m.length) (h:R (t.ren (phi m)) (sel m H)):Fin P N0 R t H :=
 ⟨_,_,fweak_sel hm hk hN,h⟩
end
section
variable {P:Program} {G:Gl}
theorem condP_mono {t:T} {A A' B B':Prop} (h:condP t A B) (ha:A→A') (hb:B→B'):condP t A' B':=by
 unfold condP at h ⊢
 split at h
 ·exact ⟨fun e=>ha (h.1 e),fun e=>hb (h.2 e)⟩
 ·exact h.elim
theorem condW_mono {t:T} {w:Bool} {A A' B B':Prop} (h:condW t w A B) (ha:A→A') (hb:B→B'):condW t w A' B':=by
 unfold condW at h ⊢
 split at h
 ·exact ⟨fun e=>ha (h.1 e),fun e=>hb (h.2 e)⟩
 ·exact hb h
 ·exact h.elim
def fopK (r:Option R) (sl:Nat→T) (κ:Kt):Prop:=match r with
 | some r=>r.ob∧κ r.val ⟨sl,r.hp⟩
 | none=>False
theorem fopK_mono {r:Option R} {sl:Nat→T} {κ κ':Kt} (hk:∀ t s,κ t s→κ' t s) (h:fopK r sl κ):fopK r sl κ':=by
 cases r with
 | none=>exact h
 | some r=>exact ⟨h.1,hk _ _ h.2⟩
theorem rngW_mono {B j:Nat} {kt:KT} {t:T} {st:St} {κ κ':Kt} (hk:∀ t s,κ t s→κ' t s) (h:rngW B j kt t st κ):rngW B j kt t st κ':=by
 unfold rngW at h ⊢
 split at h
 ·split at h
  ·exact ⟨h.1,hk _ _ h.2⟩
  ·exact h.elim
 ·exact h.elim
theorem nxtW_mono {t:T} {st:St} {κ κ':Kt} (hk:∀ t s,κ t s→κ' t s) (h:nxtW t st κ):nxtW t st κ':=by
 unfold nxtW at h ⊢
 split at h
 ·split at h
  ·exact ⟨fun e=>hk _ _ (h.1 e),fun i p hi=>hk _ _ (h.2 i p hi)⟩
  ·exact h.elim
 ·exact h.elim
theorem entW_mono {t:T} {st:St} {κ κ':Kt} (hk:∀ t s,κ t s→κ' t s) (h:entW t st κ):entW t st κ':=by
 unfold entW at h ⊢
 split at h
 ·split at h
  ·exact hk _ _ h
  ·exact h.elim
 ·exact h.elim
def A.plain:A→Bool
 | .call .. | .callv .. | .pick .. | .eqN .. | .rng .. | .nxt .. | .ent .. => false
 | _=>true
theorem wop_plain {B:Nat} {a:A} {st:St} {κ:Kt} (h:a.plain=true):wop P G B a st κ=fopK (fop B st.hp (ev G st.sl) a) st.sl κ:=by
 cases a <;> first | rfl | cases h
theorem wop_mono {B:Nat} {a:A} {st:St} {κ κ':Kt} (hk:∀ t s,κ t s→κ' t s) (h:wop P G B a st κ):wop P G B a st κ':=by
 cases a
 case call f args =>
  simp only [wop] at h ⊢
  split at h
  ·exact ACalls.mono h fun t H q=>hk _ _ q
  ·exact h
 case callv f args =>
  simp only [wop] at h ⊢
  split at h
  ·exact ACalls.mono h fun t H q=>hk _ _ q
  ·exact ACalls.mono h fun t H q=>hk _ _ q
  ·exact h
 case pick c a b=>exact condP_mono h (hk _ _) (hk _ _)
 case eqN ng k x =>
  simp only [wop] at h ⊢
  split at h
  ·intro b hb; exact hk _ _ (h b hb)
  ·intro b hb; exact hk _ _ (h b hb)
  ·exact fopK_mono (r:=fop B st.hp (ev G st.sl) _) hk h
 case rng j kt x=>exact rngW_mono hk h
 case nxt x=>exact nxtW_mono hk h
 case ent x=>exact entW_mono hk h
 all_goals
  rw [wop_plain rfl] at h ⊢
  exact fopK_mono hk h
theorem wone_mono {B:Nat} {o:AOper} {st:St} {k k':St→Prop} (hk:∀ s,k s→k' s) (h:wone P G B o st k):wone P G B o st k':=by
 unfold wone at h ⊢
 split at h
 ·exact wop_mono (fun t s q=>hk _ q) h
 ·exact condW_mono h (wop_mono fun t s q=>hk _ q) (hk _)
theorem wops_mono {B:Nat}:∀ {l:List AOper} {st:St} {k k':St→Prop},(∀ s,k s→k' s)→wops P G B l st k→wops P G B l st k'
 | [],st,k,k',hk,h=>hk _ h
 | o :: r,st,k,k',hk,h=>wone_mono (fun s q=>wops_mono hk q) (wops_wone h)
theorem wAny_mono {B:Nat} {ops:List AOper} {after:List (List Nat)}:∀ {f:Nat} {dn:List Nat} {st:St} {k k':St→Prop},(∀ s,k s→k' s)→wAny P G B ops after f dn st k→wAny P G B ops after f dn st k'
 | 0,dn,st,k,k',hk,h=>⟨h.1,hk _ h.2⟩
 | f+1,dn,st,k,k',hk,h=>⟨fun e=>hk _ (h.1 e),fun i hi o ho=>wone_mono (fun s q=>wAny_mono hk q) (h.2 i hi o ho)⟩
theorem wk_mono {N0:Nat} {s:St} {I I':St→Prop} (hi:∀ s,I s→I' s) (h:wk P G N0 s I):wk P G N0 s I':=by
 obtain ⟨s',h1,h2⟩:=h; exact ⟨s',h1,hi _ h2⟩
theorem wcode_mono {N0:Nat}:∀ {c:AC} {st:St} {Q Q':Qt},(∀ e s,Q e s→Q' e s)→wcode P G N0 c st Q→wcode P G N0 c st Q'
 | .skip,st,Q,Q',hq,h=>hq _ _ h
 | .region n ops,st,Q,Q',hq,h=>wops_mono (fun s q=>hq _ _ q) h
 | .dregion n ops after,st,Q,Q',hq,h=>wAny_mono (fun s q=>hq _ _ q) h
 | .seq x y,st,Q,Q',hq,h=>by
   show wcode P G N0 x st (thenQ (wcode P G N0 y) Q')
   refine wcode_mono (c:=x) (Q:=thenQ (wcode P G N0 y) Q) (fun e s q=>?_) h
   cases e with
   | normal=>exact wcode_mono (c:=y) hq q
   | exit i=>exact hq _ _ q
   | ret=>exact hq _ _ q
 | .cond c x y,st,Q,Q',hq,h=>condP_mono h (wcode_mono hq) (wcode_mono hq)
 | .block id x,st,Q,Q',hq,h=>by
   show wcode P G N0 x st (blockQ id Q')
   refine wcode_mono (c:=x) (Q:=blockQ id Q) (fun e s q=>?_) h
   cases e with
   | normal=>exact hq _ _ q
   | exit i =>
    show if i=id then Q' .normal s else Q' (.exit i) s
    have q:if i=id then Q .normal s else Q (.exit i) s:=q
    split
    ·rename_i e; rw [if_pos e] at q; exact hq _ _ q
    ·rename_i e; rw [if_neg e] at q; exact hq _ _ q
   | ret=>exact hq _ _ q
 | .loop x,st,Q,Q',hq,h=>by
   obtain ⟨I,μ,h1,h2⟩:=h
   refine ⟨I,μ,h1,fun s hs=>wcode_mono (fun e s' q=>?_) (h2 s hs)⟩
   cases e with
   | normal=>exact q
   | exit i=>exact hq _ _ q
   | ret=>exact hq _ _ q
 | .exit id,st,Q,Q',hq,h=>hq _ _ h
 | .ret,st,Q,Q',hq,h=>hq _ _ h
def loopN (P:Program) (G:Gl) (N0:Nat) (I:Nat→St→Prop) (k:Nat) (Q:Qt):Qt
 | .normal,s'=>wk P G N0 s' fun s''=>∃ k',k'<k∧I k' s''
 | e,s'=>Q e s'
open Classical in
end
def C.lt (n:Nat):C→Prop
 | .os r _ _ _=>r<n
 | .ptr r _=>r<n
 | .eptr r _ _ _=>r<n
 | .mp r=>r<n
 | .fn _ caps=>∀ p∈caps,p.1<n
 | .fx _ caps=>∀ r off,Cap.r r off∈caps→r<n
 | _=>True
def O.lt (n:Nat):O→Prop
 | .cells cs=>∀ c∈cs,c.lt n
 | _=>True
def Wf (H:List O):Prop:=∀ o∈H,o.lt H.length
theorem crel_lt {P:Program} {k:K} {c:C} {v:Value} (h:CRel P k c v):c.lt k.N:=by
 cases c with
 | fn f caps =>
  obtain ⟨cv,_,_,h3⟩:=h
  intro p hp
  obtain ⟨i,hi⟩:=List.getElem?_of_mem hp
  exact (h3 i p.1 p.2 hi).1
 | os r sz off len=>exact h.1
 | ptr r off=>exact h.1
 | eptr r sz i off=>exact h.1
 | mp r=>exact h.1
 | d x=>trivial
 | fx f caps =>
  obtain ⟨cv,_,_,h3,_⟩:=h
  intro r off hp
  obtain ⟨i,hi⟩:=List.getElem?_of_mem hp
  exact (h3 i r off hi).1
 | ifc=>trivial
 | top=>trivial
theorem wf_of {P:Program} {ρ:Nat→Option Nat} {H:List O} {w:World} (h:HRel P ρ H w):Wf H:=by
 intro o ho
 obtain ⟨r,hr⟩:=List.getElem?_of_mem ho
 have:=h.objs r o hr
 cases o with
 | cells cs =>
  obtain ⟨a,c,e,_,_,hc⟩:=this
  intro x hx
  obtain ⟨i,hi⟩:=List.getElem?_of_mem hx
  have hlt:i<c.size:=by rw [hc.1]; exact lt_of_get hi
  exact crel_lt (hc.2 i x c[i] hi (by simp [hlt]))
 | _=>trivial
theorem renCaps_id {φ:Nat→Option Nat} {n:Nat} (hφ:∀ r,r<n→φ r=some r):∀ {l:List (Nat×Nat)},(∀ p∈l,p.1<n)→renCaps φ l=some l
 | [],_=>rfl
 | (r,off) :: l,h=>by
  simp only [renCaps,hφ r (h (r,off) List.mem_cons_self),renCaps_id hφ fun p hp=>h p (List.mem_cons_of_mem _ hp)]
theorem renCapX_id {φ:Nat→Option Nat} {n:Nat} (hφ:∀ r,r<n→φ r=some r):∀ {l:List Cap},(∀ r off,Cap.r r off∈l→r<n)→renCapX φ l=some l
 | [],_=>rfl
 | .r r off :: l,h=>by
  simp only [renCapX,hφ r (h r off List.mem_cons_self),renCapX_id hφ fun r off hp=>h r off (List.mem_cons_of_mem _ hp)]
 | .d x :: l,h=>by
  simp only [renCapX,renCapX_id hφ fun r off hp=>h r off (List.mem_cons_of_mem _ hp)]
theorem C.ren_id {φ:Nat→Option Nat} {n:Nat} (hφ:∀ r,r<n→φ r=some r) {c:C} (h:c.lt n):c.ren φ=c:=by
 cases c with
 | fn f caps=>simp only [C.ren,renCaps_id hφ h]
 | os r sz off len=>simp only [C.ren,hφ r h]
 | ptr r off=>simp only [C.ren,hφ r h]
 | eptr r sz i off=>simp only [C.ren,hφ r h]
 | mp r=>simp only [C.ren,hφ r h]
 | d x=>rfl
 | fx f caps=>simp only [C.ren,renCapX_id hφ h]
 | ifc=>rfl
 | top=>rfl
theorem O.ren_id {φ:Nat→Option Nat} {n:Nat} (hφ:∀ r,r<n→φ r=some r) {o:O} (h:o.lt n):o.ren φ=o:=by
 cases o with
 | cells cs =>
  simp only [O.ren]
  congr 1
  conv=>rhs; rw [← List.map_id cs]
  exact List.map_congr_left fun c hc=>C.ren_id hφ (h c hc)
 | _=>rfl
def phiP (N:Nat) (ids:List Nat) (r:Nat):Option Nat:=if r<N then some r else match phi ids (r-N) with
 | some i=>some (N+i)
 | none=>none
def mP (N:Nat) (ids:List Nat):List Nat:=List.range N ++ ids.map (N + ·)
theorem phi_append:∀ (m m':List Nat) (r:Nat),phi (m ++ m') r=match phi m r with
  | some i=>some i
  | none=>match phi m' r with
   | some i=>some (m.length+i)
   | none=>none
 | [],m',r=>by simp only [List.nil_append,phi,List.length_nil,Nat.zero_add]; cases phi m' r <;> rfl
 | x :: m,m',r=>by
  simp only [List.cons_append,phi]
  split
  ·rfl
  ·rw [phi_append m m' r]
   cases phi m r with
   | some i=>rfl
   | none=>cases phi m' r with
    | some i=>simp; omega
    | none=>rfl
theorem phi_range:∀ (n s r:Nat),phi (List.range' s n) r=if s≤r∧r<s+n then some (r-s) else none
 | 0,s,r=>by simp only [List.range'_zero,phi]; rw [if_neg (by omega)]
 | n+1,s,r=>by
  rw [List.range'_succ]
  simp only [phi,phi_range n (s+1) r]
  by_cases h:r=s
  ·subst h; simp
  ·rw [if_neg h]
   by_cases h2:s≤r∧r<s+(n+1)
   ·rw [if_pos h2,if_pos (by omega)]; simp; omega
   ·rw [if_neg h2,if_neg (by omega)]
theorem phi_shift (N:Nat):∀ (ids:List Nat) (r:Nat),phi (ids.map (N + ·)) r=if r<N then none else phi ids (r-N)
 | [],r=>by simp [phi]
 | x :: ids,r=>by
  simp only [List.map_cons,phi,phi_shift N ids r]
  by_cases h:r<N
  ·rw [if_pos h,if_pos h,if_neg (by omega)]
  ·rw [if_neg h,if_neg h]
   by_cases h2:r=N+x
   ·rw [if_pos h2,if_pos (by omega)]
   ·rw [if_neg h2,if_neg (by omega)]
theorem phi_mP (N:Nat) (ids:List Nat) (r:Nat):phi (mP N ids) r=phiP N ids r:=by
 unfold mP phiP
 rw [phi_append,List.range_eq_range',phi_range,phi_shift]
 by_cases h:r<N
 ·rw [if_pos (by omega),if_pos h,Nat.sub_zero]
  simp only [if_pos h]
 ·rw [if_neg (by omega),if_neg h,if_neg h]; simp
theorem mP_get (N:Nat) (ids:List Nat) (i:Nat):(mP N ids)[i]? = if i<N then some i else (ids[i-N]?).map (N + ·):=by
 unfold mP
 rw [List.getElem?_append]
 simp
 split
 ·rename_i h; rw [List.getElem?_range h]
 ·rfl
theorem selB_mP {N n:Nat} {ids:List Nat} (h:selB ids n=true):selB (mP N ids) (N+n)=true:=by
 refine List.all_eq_true.2 fun i hi=>?_
 have hl:(mP N ids).length=N+ids.length:=by simp [mP]
 have hi':i<N+ids.length:=by rw [← hl]; simpa using hi
 rw [mP_get]
 by_cases hN:i<N
 ·rw [if_pos hN]
  simp only [phi_mP,phiP,if_pos hN,beq_self_eq_true,Bool.true_and,decide_eq_true_eq]
  omega
 ·rw [if_neg hN]
  have hx:ids[i-N]? = some (ids[i-N]'(by omega)):=by simp
  obtain ⟨h1,h2⟩:=selB_spec h hx
  rw [hx]
  simp only [Option.map_some,phi_mP]
  unfold phiP
  rw [if_neg (by omega),Nat.add_sub_cancel_left,h1]
  simp only [Bool.and_eq_true,beq_iff_eq,Option.some.injEq,decide_eq_true_eq]
  omega
theorem keeps_mP (N:Nat) (ids:List Nat):keeps N (mP N ids):=fun r hr=>by rw [mP_get,if_pos hr]
theorem sel_mP {H L:List O} {ids:List Nat} (hw:Wf H):sel (mP H.length ids) (H ++ L)=H ++ ids.map fun i=>(L.getD i .dead).ren (phiP H.length ids):=by
 have hφ:phi (mP H.length ids)=phiP H.length ids:=funext (phi_mP _ _)
 unfold sel
 rw [hφ]
 unfold mP
 rw [List.map_append,List.map_map]
 congr 1
 ·apply List.ext_getElem (by simp)
  intro i h1 h2
  simp only [List.getElem_map,List.getElem_range]
  have hg:(H ++ L).getD i .dead=H[i]:=by
   rw [List.getD_eq_getElem?_getD,List.getElem?_append_left h2,List.getElem?_eq_getElem h2]; rfl
  rw [hg]
  exact O.ren_id (n:=H.length) (fun r hr=>by simp only [phiP,if_pos hr]) (hw _ (List.getElem_mem h2))
 ·refine List.map_congr_left fun i _=>?_
  simp only [Function.comp]
  congr 1
  rw [List.getD_eq_getElem?_getD,List.getElem?_append_right (by omega),List.getD_eq_getElem?_getD,Nat.add_sub_cancel_left]
section
variable {P:Program} {G:Gl}
theorem weak_pre {H L:List O} {sl:Nat→T} (ids keep:List Nat) (hw:Wf H) (hm:selB ids L.length=true) :
  Weak P G H.length ⟨sl,H ++ L⟩ ⟨ofL (keep.map fun t=>(t,(sl t).ren (phiP H.length ids))),H ++ ids.map fun i=>(L.getD i .dead).ren (phiP H.length ids)⟩:=by
 have h:=weak_sel (P:=P) (G:=G) (N0:=H.length) (mP H.length ids) keep (st:=⟨sl,H ++ L⟩) (by show selB _ _=true; rw [List.length_append]; exact selB_mP hm) (keeps_mP _ _) (by simp [mP])
 have hφ:phi (mP H.length ids)=phiP H.length ids:=funext (phi_mP _ _)
 unfold selSt at h
 rw [hφ,sel_mP hw] at h
 exact h
theorem fin_pre {R:T→List O→Prop} {t:T} {H L:List O} (ids:List Nat) (hw:Wf H) (hm:selB ids L.length=true)
  (h:R (t.ren (phiP H.length ids)) (H ++ ids.map fun i=>(L.getD i .dead).ren (phiP H.length ids))):Fin P H.length R t (H ++ L):=by
 have hφ:phi (mP H.length ids)=phiP H.length ids:=funext (phi_mP _ _)
 have:=fweak_sel (P:=P) (N0:=H.length) (m:=mP H.length ids) (t:=t) (H:=H ++ L) (by show selB _ _=true; rw [List.length_append]; exact selB_mP hm) (keeps_mP _ _) (by simp [mP])
 rw [hφ,sel_mP hw] at this
 exact ⟨_,_,this,h⟩
theorem fin_weak {R:T→List O→Prop} {N0:Nat} {t t':T} {H H':List O} (hw:FWeak P N0 t H t' H') (h:Fin P N0 R t' H'):Fin P N0 R t H:=by
 obtain ⟨t2,H2,a,b⟩:=h
 exact ⟨t2,H2,hw.trans a,b⟩
theorem fin_pre_pv {R:T→List O→Prop} {u:V} {p:PV} {H L L':List O} (hw:Wf H) (hp:toPV (H ++ L) u=some p) (hz:frz (H ++ L) u.cells=H ++ L') (h:R (.v p.toV) H):Fin P H.length R (.v u) (H ++ L):=by
 refine fin_weak (fweak_pv hp (by simp)) ?_
 rw [hz]
 refine fin_pre [] hw rfl ?_
 have:(T.v p.toV).ren (phiP H.length []) = .v p.toV:=by simp only [T.ren,PV.ren_toV]
 rw [this]
 simpa using h
theorem fin_pre_pvs {R:T→List O→Prop} {us:List V} {ps:List PV} {H L L':List O} (hw:Wf H) (hp:toPVs (H ++ L) us=some ps) (hz:frzVs (H ++ L) us=H ++ L') (h:R (.tup (ps.map PV.toV)) H):Fin P H.length R (.tup us) (H ++ L):=by
 refine fin_weak (fweak_pvs hp (by simp)) ?_
 rw [hz]
 refine fin_pre [] hw rfl ?_
 have:(T.tup (ps.map PV.toV)).ren (phiP H.length []) = .tup (ps.map PV.toV):=by
  simp only [T.ren,List.map_map]
  congr 1
  exact List.map_congr_left fun p _=>PV.ren_toV _ p
 rw [this]
 simpa using h
theorem acalls_pre {tt:TT} (htab:tabB P tt=true) (hmix:P.follows .mixedOrders=true) {f:Nat} {fn:Func} {af:AF} (hf:P.funcs[f]? = some fn) (hc:compF tt fn=some af) {args:List V} {H:List O} {R:T→List O→Prop} (hn:Nat.ble args.length af.n=true)
  (h:Wf H→wcode P G H.length af.body ⟨argSl args,H⟩ (retQ P H.length af.res R)):ACalls P G f args H R:=by
 have hcal:Callable P f:=by
  have hc':=hc
  unfold compF at hc'
  split at hc'
  ·rename_i c hb
   split at hc'
   ·cases hc'
   ·rename_i hname
    exact ⟨fn,hf,by rw [hb]; rfl,by simpa using hname⟩
  ·cases hc'
 exact ⟨hcal,fun ρ w vs hH=>(acalls_intro htab hmix hf hc hn (h (wf_of hH))).2 ρ w vs hH⟩
end
def clos1 (acc:List (List Nat)) (a:List Nat):List Nat:=a ++ a.flatMap fun j=>acc.getD j []
def closL:List (List Nat)→List (List Nat)→List (List Nat)
 | acc,[]=>acc
 | acc,a :: r=>closL (acc ++ [(clos1 acc a).eraseDups]) r
def clos (after:List (List Nat)):List (List Nat):=closL [] after
def before (after:List (List Nat)) (j i:Nat):Bool:=((clos after).getD i []).contains j
def Down (after:List (List Nat)) (dn:List Nat):Prop:=∀ x∈dn,∀ a,after[x]? = some a→∀ y∈a,y∈dn
theorem closL_spec (after:List (List Nat)):∀ (r acc:List (List Nat)),(∃ l,after=l ++ r∧l.length=acc.length) →
  (∀ (i:Nat) (c:List Nat),acc[i]? = some c→∃ a,after[i]? = some a∧∀ dn,Down after dn→(∀ y∈a,y∈dn)→∀ y∈c,y∈dn) →
  ∀ (i:Nat) (c:List Nat),(closL acc r)[i]? = some c→∃ a,after[i]? = some a∧∀ dn,Down after dn→(∀ y∈a,y∈dn)→∀ y∈c,y∈dn
 | [],acc,_,h,i,c,hc=>h i c hc
 | a :: r,acc,⟨l,hl,hll⟩,h,i,c,hc=>by
  refine closL_spec after r _ ⟨l ++ [a],by rw [hl]; simp,by simp [hll]⟩ (fun i c hi=>?_) i c hc
  rw [List.getElem?_append] at hi
  split at hi
  ·exact h i c hi
  ·rename_i hlt
   have hi0:i=acc.length:=by
    have:=lt_of_get hi; simp at this; omega
   subst hi0
   simp at hi
   subst hi
   refine ⟨a,by rw [hl,List.getElem?_append_right (by omega)]; simp [hll],fun dn hd ha y hy=>?_⟩
   have hy':y∈clos1 acc a:=by simpa using List.mem_eraseDups.1 hy
   unfold clos1 at hy'
   rcases List.mem_append.1 hy' with hy' | hy'
   ·exact ha y hy'
   ·obtain ⟨j,hj,hy2⟩:=List.mem_flatMap.1 hy'
    rw [List.getD_eq_getElem?_getD] at hy2
    cases hq:acc[j]? with
    | none=>rw [hq] at hy2; cases hy2
    | some c' =>
     rw [hq] at hy2
     obtain ⟨a',ha',hall⟩:=h j c' hq
     exact hall dn hd (hd j (ha j hj) a' ha') y hy2
theorem before_done {after:List (List Nat)} {dn:List Nat} {i j:Nat} (hd:Down after dn) {a:List Nat} (ha:after[i]? = some a) (hin:∀ y∈a,y∈dn) (h:before after j i=true):j∈dn:=by
 unfold before at h
 rw [List.getD_eq_getElem?_getD] at h
 cases hq:(clos after)[i]? with
 | none=>rw [hq] at h; simp at h
 | some c =>
  rw [hq] at h
  obtain ⟨a',ha',hall⟩:=closL_spec after after [] ⟨[],rfl,rfl⟩ (fun i c h=>by simp at h) i c hq
  rw [ha] at ha'; injection ha' with ha'; subst ha'
  exact hall dn hd hin j (by simpa using h)
def acyc (after:List (List Nat)):Bool:=(List.range after.length).all fun i=>(after.getD i []).all fun j=>decide (j<i)
section
variable {P:Program} {G:Gl}
structure Eff where
 dst:Nat→Option Nat
 val:Nat→T
 wr:Nat→Nat→Prop
 obj:Nat→Nat→Option O
open Classical in
def slAt (E:Eff) (s0:St) (D:Nat→Prop):Nat→Nat→T
 | 0,t=>s0.sl t
 | m+1,t=>if D m∧E.dst m=some t then E.val m else slAt E s0 D m t
open Classical in
def hpAt (E:Eff) (s0:St) (D:Nat→Prop):Nat→Nat→Option O
 | 0,r=>s0.hp[r]?
 | m+1,r=>if D m∧E.wr m r then E.obj m r else hpAt E s0 D m r
theorem slAt_top {E:Eff} {s0:St} {D:Nat→Prop} {t i:Nat}:∀ n,i≤n→(∀ j,i≤j→j<n→D j→E.dst j≠some t)→slAt E s0 D n t=slAt E s0 D i t
 | 0,h,_=>by rw [Nat.le_zero.1 h]
 | n+1,h,hn=>by
  by_cases e:i=n+1
  ·rw [e]
  ·unfold slAt
   rw [if_neg (fun q=>hn n (by omega) (by omega) q.1 q.2)]
   rw [slAt_top n (by omega) (fun j a b=>hn j a (by omega))]
   cases i <;> rfl
theorem hpAt_top {E:Eff} {s0:St} {D:Nat→Prop} {r i:Nat}:∀ n,i≤n→(∀ j,i≤j→j<n→D j→¬ E.wr j r)→hpAt E s0 D n r=hpAt E s0 D i r
 | 0,h,_=>by rw [Nat.le_zero.1 h]
 | n+1,h,hn=>by
  by_cases e:i=n+1
  ·rw [e]
  ·unfold hpAt
   rw [if_neg (fun q=>hn n (by omega) (by omega) q.1 q.2)]
   rw [hpAt_top n (by omega) (fun j a b=>hn j a (by omega))]
   cases i <;> rfl
theorem slAt_same {E:Eff} {s0:St} {D D':Nat→Prop} {t:Nat}:∀ i,(∀ j,j<i→E.dst j=some t→(D j↔D' j))→slAt E s0 D i t=slAt E s0 D' i t
 | 0,_=>rfl
 | i+1,h=>by
  unfold slAt
  rw [slAt_same i fun j hj=>h j (by omega)]
  by_cases e:E.dst i=some t
  ·have:=h i (by omega) e
   by_cases q:D i
   ·rw [if_pos ⟨q,e⟩,if_pos ⟨this.1 q,e⟩]
   ·rw [if_neg (fun x=>q x.1),if_neg (fun x=>q (this.2 x.1))]
  ·rw [if_neg (fun x=>e x.2),if_neg (fun x=>e x.2)]
theorem hpAt_same {E:Eff} {s0:St} {D D':Nat→Prop} {r:Nat}:∀ i,(∀ j,j<i→E.wr j r→(D j↔D' j))→hpAt E s0 D i r=hpAt E s0 D' i r
 | 0,_=>rfl
 | i+1,h=>by
  unfold hpAt
  rw [hpAt_same i fun j hj=>h j (by omega)]
  by_cases e:E.wr i r
  ·have:=h i (by omega) e
   by_cases q:D i
   ·rw [if_pos ⟨q,e⟩,if_pos ⟨this.1 q,e⟩]
   ·rw [if_neg (fun x=>q x.1),if_neg (fun x=>q (this.2 x.1))]
  ·rw [if_neg (fun x=>e x.2),if_neg (fun x=>e x.2)]
structure At (E:Eff) (s0:St) (n:Nat) (D:Nat→Prop) (st:St):Prop where
 sl:∀ t,st.sl t=slAt E s0 D n t
 len:st.hp.length=s0.hp.length
 hp:∀ r,st.hp[r]? = hpAt E s0 D n r
structure Calm (P:Program) (G:Gl) (B:Nat) (ops:List AOper) (after:List (List Nat)) (s0:St) (E:Eff) (rs rd:Nat→Nat→Prop):Prop where
 ord:∀ i j,j<i→i<ops.length→before after j i=false →
  (∀ t,E.dst j=some t→¬ rs i t∧E.dst i≠some t)∧(∀ t,E.dst i=some t→¬ rs j t)∧(∀ r,E.wr j r→¬ rd i r∧¬ E.wr i r)∧(∀ r,E.wr i r→¬ rd j r)
 step:∀ (i:Nat) o,ops[i]? = some o→∀ st:St,(∀ t,rs i t→st.sl t=slAt E s0 (fun _=>True) i t)→st.hp.length=s0.hp.length →
  (∀ r,rd i r∨E.wr i r→st.hp[r]? = hpAt E s0 (fun _=>True) i r)→∀ κ:St→Prop,
  (∀ st':St,(∀ t,E.dst i=some t→st'.sl t=E.val i)→(∀ t,E.dst i≠some t→st'.sl t=st.sl t)→st'.hp.length=s0.hp.length →
   (∀ r,E.wr i r→st'.hp[r]? = E.obj i r)→(∀ r,¬ E.wr i r→st'.hp[r]? = st.hp[r]?)→κ st')→wone P G B o st κ
theorem calm_any {B:Nat} {ops:List AOper} {after:List (List Nat)} {s0:St} {E:Eff} {rs rd:Nat→Nat→Prop} (h:Calm P G B ops after s0 E rs rd)
  (hl:after.length=ops.length) (hac:acyc after=true) {k:St→Prop} (hk:∀ st,At E s0 ops.length (fun _=>True) st→k st) :
  ∀ (f:Nat) (dn:List Nat) (st:St),At E s0 ops.length (fun i=>i∈dn) st→Down after dn→dn.Nodup→(∀ i∈dn,i<ops.length)→f+dn.length=ops.length →
   wAny P G B ops after f dn st k:=by
 have hac':∀ (i:Nat) a,after[i]? = some a→∀ j∈a,j<i:=by
  intro i a ha j hj
  have h1:=List.all_eq_true.1 hac i (by simpa using lt_of_get ha)
  rw [List.getD_eq_getElem?_getD,ha] at h1
  have:=List.all_eq_true.1 h1 j hj
  simpa using this
 have hready:∀ (dn:List Nat) i,i∈readyA after dn↔i<ops.length∧i ∉ dn∧∀ a,after[i]? = some a→∀ y∈a,y∈dn:=by
  intro dn i
  unfold readyA
  rw [List.mem_filter,List.mem_range,hl]
  refine ⟨fun ⟨h1,h2⟩=>?_,fun ⟨h1,h2,h3⟩=>⟨h1,?_⟩⟩
  ·simp only [Bool.and_eq_true,Bool.not_eq_true',List.all_eq_true] at h2
   refine ⟨h1,by simpa using h2.1,fun a ha y hy=>?_⟩
   rw [List.getD_eq_getElem?_getD,ha] at h2
   simpa using h2.2 y hy
  ·have hlt:i<after.length:=by omega
   have ha:after[i]? = some after[i]:=by simp
   simp only [Bool.and_eq_true,Bool.not_eq_true',List.all_eq_true]
   refine ⟨by simpa using h2,fun y hy=>?_⟩
   rw [List.getD_eq_getElem?_getD,ha] at hy
   simpa using h3 _ ha y hy
 have hall:∀ (dn:List Nat),(∀ i,i<ops.length→i∈dn)→∀ st,At E s0 ops.length (fun i=>i∈dn) st→k st:=by
  intro dn hd st hA
  refine hk st ⟨fun t=>?_,hA.len,fun r=>?_⟩
  ·rw [hA.sl t]; exact slAt_same _ fun j hj _=>⟨fun _=>trivial,fun _=>hd j hj⟩
  ·rw [hA.hp r]; exact hpAt_same _ fun j hj _=>⟨fun _=>trivial,fun _=>hd j hj⟩
 have hmin:∀ (dn:List Nat),readyA after dn=[]→∀ i,i<ops.length→i∈dn:=by
  intro dn hr i
  induction i using Nat.strongRecOn with
  | _ i ih =>
   intro hi
   apply Classical.byContradiction
   intro hni
   have:i∈readyA after dn:=(hready dn i).2 ⟨hi,hni,fun a ha y hy=>ih y (hac' i a ha y hy) (by have:=hac' i a ha y hy; omega)⟩
   rw [hr] at this; cases this
 intro f
 induction f with
 | zero =>
  intro dn st hA hD hN hB hlen
  have hfull:∀ i,i<ops.length→i∈dn:=by
   intro i hi
   apply Classical.byContradiction
   intro hni
   have h1:(i :: dn).Nodup:=List.nodup_cons.2 ⟨hni,hN⟩
   have h2:(i :: dn).length≤(List.range ops.length).length:=by
    apply List.Nodup.length_le_of_subset h1
    intro x hx
    rcases List.mem_cons.1 hx with rfl | hx
    ·simpa using hi
    ·simpa using hB x hx
   simp at h2; omega
  refine ⟨?_,hall dn hfull st hA⟩
  cases hq:readyA after dn with
  | nil=>rfl
  | cons x l =>
   have:=(hready dn x).1 (by rw [hq]; exact List.mem_cons_self)
   exact absurd (hfull x this.1) this.2.1
 | succ f ih =>
  intro dn st hA hD hN hB hlen
  refine ⟨fun hr=>hall dn (hmin dn hr) st hA,fun i hi o ho=>?_⟩
  obtain ⟨hil,hni,hpre⟩:=(hready dn i).1 hi
  have hai:after[i]? = some (after[i]'(by omega)):=by simp
  have hbd:∀ j,before after j i=true→j∈dn:=fun j hj=>before_done hD hai (hpre _ hai) hj
  have hlate:∀ j,i<j→j∈dn→before after i j=false:=by
   intro j hij hj
   cases hq:before after i j with
   | false=>rfl
   | true =>
    have hjl:=hB j hj
    have haj:after[j]? = some (after[j]'(by omega)):=by simp
    exact absurd (before_done hD haj (hD j hj _ haj) hq) hni
  have hsl:∀ t,rs i t→st.sl t=slAt E s0 (fun _=>True) i t:=by
   intro t ht
   rw [hA.sl t,slAt_top ops.length (by omega:i≤_) ?_]
   ·refine slAt_same _ fun j hj e=>⟨fun _=>trivial,fun _=>?_⟩
    cases hq:before after j i with
    | true=>exact hbd j hq
    | false=>exact absurd ht ((h.ord i j hj hil hq).1 t e).1
   ·intro j hij hjl hj e
    have hne:i≠j:=fun e=>hni (e▸hj)
    exact (h.ord j i (by omega) hjl (hlate j (by omega) hj)).2.1 t e ht
  have hhp:∀ r,rd i r∨E.wr i r→st.hp[r]? = hpAt E s0 (fun _=>True) i r:=by
   intro r hr
   rw [hA.hp r,hpAt_top ops.length (by omega:i≤_) ?_]
   ·refine hpAt_same _ fun j hj e=>⟨fun _=>trivial,fun _=>?_⟩
    cases hq:before after j i with
    | true=>exact hbd j hq
    | false =>
     have:=(h.ord i j hj hil hq).2.2.1 r e
     rcases hr with hr | hr
     ·exact absurd hr this.1
     ·exact absurd hr this.2
   ·intro j hij hjl hj e
    have hne:i≠j:=fun e=>hni (e▸hj)
    have:=h.ord j i (by omega) hjl (hlate j (by omega) hj)
    rcases hr with hr | hr
    ·exact this.2.2.2 r e hr
    ·exact (this.2.2.1 r hr).2 e
  refine h.step i o ho st hsl hA.len hhp _ fun st' g1 g2 g3 g4 g5=>?_
  have hcons:∀ j,(j∈i :: dn)↔(j=i∨j∈dn):=fun j=>by simp
  have hput_sl:∀ t,slAt E s0 (fun j=>j∈i :: dn) ops.length t=if E.dst i=some t then E.val i else slAt E s0 (fun j=>j∈dn) ops.length t:=by
   intro t
   by_cases e:E.dst i=some t
   ·rw [if_pos e,slAt_top ops.length (i:=i+1) (by omega) ?_]
    ·unfold slAt
     rw [if_pos ⟨List.mem_cons_self,e⟩]
    ·intro j hij hjl hj e'
     have hj:j∈dn:=by exact (List.mem_cons.1 hj).resolve_left (by omega)
     exact ((h.ord j i (by omega) hjl (hlate j (by omega) hj)).1 t e).2 e'
   ·rw [if_neg e]
    exact slAt_same _ fun j _ e'=>by
     rw [hcons]
     exact ⟨fun q=>q.resolve_left (fun q=>e (q▸e')),.inr⟩
  have hput_hp:∀ r,hpAt E s0 (fun j=>j∈i :: dn) ops.length r=(open Classical in if E.wr i r then E.obj i r else hpAt E s0 (fun j=>j∈dn) ops.length r):=by
   intro r
   by_cases e:E.wr i r
   ·rw [if_pos e,hpAt_top ops.length (i:=i+1) (by omega) ?_]
    ·unfold hpAt
     rw [if_pos ⟨List.mem_cons_self,e⟩]
    ·intro j hij hjl hj e'
     have hj:j∈dn:=by exact (List.mem_cons.1 hj).resolve_left (by omega)
     exact ((h.ord j i (by omega) hjl (hlate j (by omega) hj)).2.2.1 r e).2 e'
   ·rw [if_neg e]
    exact hpAt_same _ fun j _ e'=>by
     rw [hcons]
     exact ⟨fun q=>q.resolve_left (fun q=>e (q▸e')),.inr⟩
  refine ih (i :: dn) st' ⟨fun t=>?_,g3,fun r=>?_⟩ ?_ (List.nodup_cons.2 ⟨hni,hN⟩) ?_ (by simp; omega)
  ·rw [hput_sl t]
   by_cases e:E.dst i=some t
   ·rw [if_pos e,g1 t e]
   ·rw [if_neg e,g2 t e,hA.sl t]
  ·rw [hput_hp r]
   by_cases e:E.wr i r
   ·rw [if_pos e,g4 r e]
   ·rw [if_neg e,g5 r e,hA.hp r]
  ·intro x hx a ha y hy
   rcases List.mem_cons.1 hx with rfl | hx
   ·exact List.mem_cons_of_mem _ (hpre a ha y hy)
   ·exact List.mem_cons_of_mem _ (hD x hx a ha y hy)
  ·intro x hx
   rcases List.mem_cons.1 hx with rfl | hx
   ·exact hil
   ·exact hB x hx
end
def A.opers:A→List Operand
 | .mov x=>[x]
 | .pick c a b=>[c,a,b]
 | .box _ x=>[x]
 | .zero _ _=>[]
 | .build _ ps=>ps.map (·.2.2)
 | .bsl _ _ _ _ ps=>ps.map (·.2)
 | .load _ _ x=>[x]
 | .store _ x v=>[x,v]
 | .chk x=>[x]
 | .binI _ _ x y=>[x,y]
 | .shf _ _ x y=>[x,y]
 | .binS _ x y=>[x,y]
 | .eqB _ x y=>[x,y]
 | .eqA _ _ x y=>[x,y]
 | .eqN _ _ x=>[x]
 | .not x=>[x]
 | .neg _ x=>[x]
 | .cpl _ x=>[x]
 | .conv _ x=>[x]
 | .mkfn _ cs=>cs
 | .mkmap _ _=>[]
 | .mksl _ _ _ _ l c=>[l,c]
 | .sliceS x lo hi=>x :: (lo.toList ++ hi.toList)
 | .slice _ x lo hi=>x :: (lo.toList ++ hi.toList)
 | .faddr _ x=>[x]
 | .field _ _ _ x=>[x]
 | .iaddr _ x i=>[x,i]
 | .index x i=>[x,i]
 | .look _ _ x k _=>[x,k]
 | .mapup _ m k v=>[m,k,v]
 | .mapdel _ m k=>[m,k]
 | .rng _ _ x=>[x]
 | .nxt x=>[x]
 | .ent x=>[x]
 | .ext x _=>[x]
 | .call _ args=>args
 | .callv f args=>f :: args
 | .str x=>[x]
 | .lenS x=>[x]
 | .lenL x=>[x]
 | .lenM x=>[x]
 | .app _ _ _ _ s x=>[s,x]
 | .maxmin _ _ x y=>[x,y]
 | .clr _ _ x=>[x]
theorem map_congr' {α β:Type} {f g:α→β} {l:List α} (h:∀ x∈l,f x=g x):l.map f=l.map g:=List.map_congr_left h
theorem fop_opers {B:Nat} {H:List O} {e e':Operand→T} {a:A} (h:∀ x∈a.opers,e' x=e x):fop B H e' a=fop B H e a:=by
 cases a
 case build z ps =>
  simp only [fop]
  rw [map_congr' (f:=fun p:Nat×Nat×Operand=>(p.1,p.2.1,e' p.2.2)) (g:=fun p=>(p.1,p.2.1,e p.2.2)) fun p hp=>by rw [h _ (List.mem_map.2 ⟨p,hp,rfl⟩)]]
 case bsl j sz z len ps =>
  simp only [fop]
  rw [map_congr' (f:=fun p:Nat×Operand=>(p.1,e' p.2)) (g:=fun p=>(p.1,e p.2)) fun p hp=>by rw [h _ (List.mem_map.2 ⟨p,hp,rfl⟩)]]
 case mkfn f cs =>
  have h':∀ x∈cs,e' x=e x:=h
  simp only [fop]; rw [map_congr' h']
 case sliceS x lo hi =>
  have h1:=h x (by simp [A.opers])
  have h2:lo.map e'=lo.map e:=by cases lo with | none=>rfl | some y=>simp [h y (by simp [A.opers])]
  have h3:hi.map e'=hi.map e:=by cases hi with | none=>rfl | some y=>simp [h y (by simp [A.opers])]
  simp only [fop,h1,h2,h3]
 case slice sz x lo hi =>
  have h1:=h x (by simp [A.opers])
  have h2:lo.map e'=lo.map e:=by cases lo with | none=>rfl | some y=>simp [h y (by simp [A.opers])]
  have h3:hi.map e'=hi.map e:=by cases hi with | none=>rfl | some y=>simp [h y (by simp [A.opers])]
  simp only [fop,h1,h2,h3]
 case call=>rfl
 case callv=>rfl
 all_goals
  simp only [A.opers,List.mem_cons,List.not_mem_nil,or_false,forall_eq_or_imp,forall_eq,false_imp_iff,implies_true] at h
  simp only [fop,h]
def A.pureB:A→Bool
 | .mov _ | .pick .. | .build .. | .chk _ | .binI .. | .shf .. | .binS .. | .eqB .. | .eqA .. | .not _ | .neg .. | .cpl .. | .conv .. | .mkfn .. | .sliceS .. | .slice .. | .faddr .. | .field .. | .iaddr .. | .index .. | .ext .. | .lenS _ | .lenL _ | .maxmin .. => true
 | _=>false
theorem fop_pure {B B':Nat} {H H':List O} {e:Operand→T} {a:A} (hp:a.pureB=true):fop B' H' e a=(fop B H e a).map fun r=>⟨r.ob,r.val,H'⟩:=by
 cases a <;> first | (cases hp; done) | skip
 all_goals simp only [fop]
 all_goals (repeat' split) <;> first | rfl | simp_all
theorem fop_pure_hp {B:Nat} {H:List O} {e:Operand→T} {a:A} {r:R} (hp:a.pureB=true) (h:fop B H e a=some r):r.hp=H:=by
 have:=fop_pure (B:=B) (B':=B) (H:=H) (H':=H) (e:=e) hp
 rw [h] at this
 simp only [Option.map_some,Option.some.injEq] at this
 exact congrArg R.hp this
def osR:List C→List Nat
 | []=>[]
 | .os r _ _ _ :: l=>r :: osR l
 | _ :: l=>osR l
def osT:T→List Nat
 | .v u=>osR u.cells
 | .tup _=>[]
def foot (B:Nat) (e:Operand→T):A→List Nat×List Nat
 | .load _ _ x=>match e x with
  | .v (.c (.ptr r _))=>([r],[])
  | .v (.c (.eptr r _ _ _))=>([r],[])
  | _=>([],[])
 | .look _ _ x _ _=>match e x with
  | .v (.c (.mp r))=>([r],[])
  | _=>([],[])
 | .lenM x=>match e x with
  | .v (.c (.mp r))=>([r],[])
  | _=>([],[])
 | .str x=>(osT (e x),[])
 | .box j _=>([],[B+j])
 | .zero j _=>([],[B+j])
 | .mkmap j _=>([],[B+j])
 | .mksl j _ _ _ _ _=>([],[B+j])
 | .bsl j _ _ _ ps=>([],(B+j) :: ps.flatMap fun p=>osT (e p.2))
 | .app _ j _ _ s x=>(osT (e x),(B+j) :: osT (e s))
 | .store _ x v=>match e x with
  | .v (.c (.ptr r _))=>([],[r])
  | .v (.c (.eptr r _ _ _))=>([],r :: osT (e v))
  | _=>([],[])
 | .mapup _ m _ v=>match e m with
  | .v (.c (.mp r))=>([],r :: osT (e v))
  | _=>([],[])
 | .mapdel _ m _=>match e m with
  | .v (.c (.mp r))=>([],[r])
  | _=>([],[])
 | .clr _ _ x=>([],osT (e x))
 | _=>([],[])
def Loc (r:R) (H H':List O) (wr:List Nat) (res:Option R):Prop :=
 ∃ r',res=some r'∧(r.ob→r'.ob)∧r'.val=r.val∧r'.hp.length=H.length∧(∀ q∈wr,r'.hp[q]? = r.hp[q]?)∧∀ q,q ∉ wr→r'.hp[q]? = H'[q]?
theorem toD_local {H H':List O} {c:C} (h:∀ q∈osR [c],H'[q]? = H[q]?):toD H' c=toD H c:=by
 cases c with
 | os r sz off len=>simp only [toD,h r (by simp [osR])]
 | d x=>unfold toD; split <;> first | rfl | simp_all
 | _=>rfl
theorem osR_cons (c:C) (l:List C):osR (c :: l)=osR [c] ++ osR l:=by cases c <;> rfl
theorem toDs_local {H H':List O}:∀ {cs:List C},(∀ q∈osR cs,H'[q]? = H[q]?)→toDs H' cs=toDs H cs
 | [],_=>rfl
 | c :: l,h=>by
  rw [osR_cons] at h
  simp only [toDs,toD_local fun q hq=>h q (List.mem_append_left _ hq),toDs_local fun q hq=>h q (List.mem_append_right _ hq)]
theorem frz1_local {H H':List O} {c:C} (hl:H'.length=H.length) (h:∀ q∈osR [c],H'[q]? = H[q]?) :
  (frz1 H' c).length=H.length∧(∀ q∈osR [c],(frz1 H' c)[q]? = (frz1 H c)[q]?)∧∀ q,q ∉ osR [c]→(frz1 H' c)[q]? = H'[q]? ∧ (frz1 H c)[q]? = H[q]? := by
 cases c with
 | os r sz off len =>
  have hr:=h r (by simp [osR])
  simp only [frz1,hr]
  split
  ·rename_i s xs hx
   refine ⟨by simp [hl],fun q hq=>?_,fun q hq=>?_⟩
   ·simp [osR] at hq; subst hq
    rw [List.getElem?_set,List.getElem?_set,if_pos rfl,if_pos rfl,hl]
   ·simp [osR] at hq
    rw [List.getElem?_set,List.getElem?_set,if_neg (fun e=>hq e.symm),if_neg (fun e=>hq e.symm)]
    exact ⟨rfl,rfl⟩
  ·exact ⟨hl,fun q hq=>h q hq,fun q hq=>⟨rfl,rfl⟩⟩
 | _=>exact ⟨hl,fun q hq=>(by cases hq),fun q hq=>⟨rfl,rfl⟩⟩
theorem frz_local:∀ {cs:List C} {H H':List O},H'.length=H.length→(∀ q∈osR cs,H'[q]? = H[q]?) →
  (frz H' cs).length=H.length∧(∀ q∈osR cs,(frz H' cs)[q]? = (frz H cs)[q]?)∧∀ q,q ∉ osR cs→(frz H' cs)[q]? = H'[q]? ∧ (frz H cs)[q]? = H[q]?
 | [],H,H',hl,h=>⟨hl,fun q hq=>(by cases hq),fun q hq=>⟨rfl,rfl⟩⟩
 | c :: l,H,H',hl,h=>by
  rw [osR_cons] at h
  obtain ⟨a1,a2,a3⟩:=frz1_local hl fun q hq=>h q (List.mem_append_left _ hq)
  have hl1:(frz1 H c).length=H.length:=(frz1_local rfl fun q _=>rfl).1
  have hag:∀ q∈osR l,(frz1 H' c)[q]? = (frz1 H c)[q]? := by
   intro q hq
   by_cases hc:q∈osR [c]
   ·exact a2 q hc
   ·rw [(a3 q hc).1,(a3 q hc).2]; exact h q (List.mem_append_right _ hq)
  obtain ⟨b1,b2,b3⟩:=frz_local (cs:=l) (H:=frz1 H c) (H':=frz1 H' c) (by rw [a1,hl1]) hag
  refine ⟨by show (frz (frz1 H' c) l).length=_; rw [b1,hl1],fun q hq=>?_,fun q hq=>?_⟩
  ·rw [osR_cons] at hq
   show (frz (frz1 H' c) l)[q]? = (frz (frz1 H c) l)[q]?
   by_cases hql:q∈osR l
   ·exact b2 q hql
   ·rw [(b3 q hql).1,(b3 q hql).2]
    exact a2 q ((List.mem_append.1 hq).resolve_right hql)
  ·rw [osR_cons] at hq
   have h1:q ∉ osR [c]:=fun x=>hq (List.mem_append_left _ x)
   have h2:q ∉ osR l:=fun x=>hq (List.mem_append_right _ x)
   show (frz (frz1 H' c) l)[q]? = _∧(frz (frz1 H c) l)[q]? = _
   rw [(b3 q h2).1,(b3 q h2).2,(a3 q h1).1,(a3 q h1).2]
   exact ⟨rfl,rfl⟩
theorem set_local {H H':List O} (hl:H'.length=H.length) (i:Nat) (o:O) (q:Nat) (h:q≠i→H'[q]? = H[q]?):(H'.set i o)[q]? = (H.set i o)[q]? := by
 rw [List.getElem?_set,List.getElem?_set]
 by_cases e:i=q
 ·rw [if_pos e,if_pos e,hl]
 ·rw [if_neg e,if_neg e]; exact h fun x=>e x.symm
theorem set_out {H:List O} (i:Nat) (o:O) (q:Nat) (h:q≠i):(H.set i o)[q]? = H[q]? := by
 rw [List.getElem?_set,if_neg fun e=>h e.symm]
theorem elems_local {H H':List O} {t:T} (h:∀ q∈osT t,H'[q]? = H[q]?):elems H' t=elems H t:=by
 match t,h with
 | .tup _,_=>rfl
 | .v .any,_=>rfl
 | .v (.agg _),_=>rfl
 | .v (.c c),h =>
  cases c with
  | os r sz off len=>simp only [elems,h r (by simp [osT,V.cells,osR])]
  | d x=>unfold elems; split <;> first | rfl | simp_all
  | ptr _ _=>rfl
  | eptr _ _ _ _=>rfl
  | mp _=>rfl
  | fn _ _=>rfl
  | fx _ _=>rfl
  | ifc=>rfl
  | top=>rfl
theorem fillR_local {sz:Nat}:∀ {ps:List (Nat×T)} {z:List (List D)} {H H':List O},H'.length=H.length→(∀ q∈ps.flatMap (fun p=>osT p.2),H'[q]? = H[q]?) →
  match fillR H sz z ps with
  | some (xs,K)=>∃ K',fillR H' sz z ps=some (xs,K')∧K'.length=H.length∧(∀ q∈ps.flatMap (fun p=>osT p.2),K'[q]? = K[q]?)∧∀ q,q ∉ ps.flatMap (fun p=>osT p.2)→K'[q]? = H'[q]? ∧ K[q]? = H[q]?
  | none=>True
 | [],z,H,H',hl,h=>⟨H',rfl,hl,fun q hq=>(by cases hq),fun q hq=>⟨rfl,rfl⟩⟩
 | (i,.tup _) :: ps,z,H,H',hl,h=>by simp only [fillR]
 | (i,.v v) :: ps,z,H,H',hl,h=>by
  simp only [fillR]
  have hd:∀ q∈osR v.cells,H'[q]? = H[q]? := fun q hq=>h q (by simp [osT]; exact .inl hq)
  rw [toDs_local hd]
  cases toDs H v.cells with
  | none=>trivial
  | some ds =>
   dsimp only
   by_cases hc:v.known=true∧ds.length=sz∧i<z.length
   ·rw [if_pos hc,if_pos hc]
    obtain ⟨a1,a2,a3⟩:=frz_local hl hd
    have hl1:(frz H v.cells).length=H.length:=(frz_local (H:=H) rfl fun q _=>rfl).1
    have hag:∀ q∈ps.flatMap (fun p=>osT p.2),(frz H' v.cells)[q]? = (frz H v.cells)[q]? := by
     intro q hq
     by_cases hx:q∈osR v.cells
     ·exact a2 q hx
     ·rw [(a3 q hx).1,(a3 q hx).2]; exact h q (by simp only [List.flatMap_cons]; exact List.mem_append_right _ hq)
    have:=fillR_local (sz:=sz) (ps:=ps) (z:=z.set i ds) (H:=frz H v.cells) (H':=frz H' v.cells) (by rw [a1,hl1]) hag
    split at this
    ·rename_i xs K hK
     obtain ⟨K',b1,b2,b3,b4⟩:=this
     refine ⟨K',b1,by rw [b2,hl1],fun q hq=>?_,fun q hq=>?_⟩
     ·simp only [List.flatMap_cons] at hq
      by_cases hx:q∈ps.flatMap (fun p=>osT p.2)
      ·exact b3 q hx
      ·rw [(b4 q hx).1,(b4 q hx).2]
       exact a2 q ((List.mem_append.1 hq).resolve_right hx)
     ·simp only [List.flatMap_cons] at hq
      have h1:q ∉ osR v.cells:=fun x=>hq (List.mem_append_left _ x)
      have h2:q ∉ ps.flatMap (fun p=>osT p.2):=fun x=>hq (List.mem_append_right _ x)
      rw [(b4 q h2).1,(b4 q h2).2,(a3 q h1).1,(a3 q h1).2]
      exact ⟨rfl,rfl⟩
    ·trivial
   ·rw [if_neg hc,if_neg hc]; trivial
theorem loc_set {H H':List O} (hl:H'.length=H.length) (p p':Prop) (hp:p→p') (v:T) (i:Nat) (o:O) (rest:List Nat) (h:∀ q∈i :: rest,H'[q]? = H[q]?):Loc ⟨p,v,H.set i o⟩ H H' (i :: rest) (some ⟨p',v,H'.set i o⟩):=by
 refine ⟨_,rfl,hp,rfl,by simp [hl],fun q hq=>?_,fun q hq=>?_⟩
 ·exact set_local hl i o q fun _=>h q hq
 ·exact set_out i o q fun e=>hq (e▸List.mem_cons_self)
theorem loc_read {H H':List O} (hl:H'.length=H.length) (p:Prop) (v:T):Loc ⟨p,v,H⟩ H H' [] (some ⟨p,v,H'⟩) :=
 ⟨_,rfl,id,rfl,hl,fun q hq=>(by cases hq),fun q _=>rfl⟩
theorem loc_frz_set {H H':List O} {cs:List C} (hl:H'.length=H.length) (p:Prop) (v:T) (i:Nat) (o:O) (h:∀ q∈i :: osR cs,H'[q]? = H[q]?):Loc ⟨p,v,(frz H cs).set i o⟩ H H' (i :: osR cs) (some ⟨p,v,(frz H' cs).set i o⟩):=by
 obtain ⟨a1,a2,a3⟩:=frz_local hl fun q hq=>h q (List.mem_cons_of_mem _ hq)
 have hl1:(frz H cs).length=H.length:=(frz_local (H:=H) rfl fun q _=>rfl).1
 refine ⟨_,rfl,id,rfl,by simp [a1],fun q hq=>?_,fun q hq=>?_⟩
 ·refine set_local (by rw [a1,hl1]) i o q fun hne=>?_
  exact a2 q ((List.mem_cons.1 hq).resolve_left hne)
 ·show ((frz H' cs).set i o)[q]? = H'[q]?
  rw [set_out i o q fun e=>hq (e▸List.mem_cons_self)]
  exact (a3 q fun x=>hq (List.mem_cons_of_mem _ x)).1
theorem fop_local {B:Nat} {H H':List O} {e:Operand→T} {a:A} {r:R} (h:fop B H e a=some r) (hl:H'.length=H.length)
  (hag:∀ q,q∈(foot B e a).1∨q∈(foot B e a).2→H'[q]? = H[q]?):Loc r H H' (foot B e a).2 (fop B H' e a):=by
 by_cases hp:a.pureB=true
 ·have h1:=fop_pure_hp hp h
  have h2:=fop_pure (B:=B) (B':=B) (H:=H) (H':=H') (e:=e) hp
  have hf:foot B e a=([],[]):=by cases a <;> first | rfl | cases hp
  rw [h2,h,hf]
  exact ⟨_,rfl,id,rfl,hl,fun q hq=>(by cases hq),fun q _=>rfl⟩
 cases a <;> first | (exfalso; exact hp rfl) | skip
 case rng=>simp [fop] at h
 case nxt=>simp [fop] at h
 case ent=>simp [fop] at h
 case box j x =>
  have hB:=hag (B+j) (by simp [foot])
  simp only [fop,hB] at h ⊢
  split at h
  ·split at h
   ·injection h with h; subst h
    rename_i hc; simp only [if_pos hc]
    exact loc_set hl _ _ id _ _ _ [] (fun q hq=>by simp at hq; subst hq; exact hB)
   ·cases h
  ·cases h
 case zero j z =>
  have hB:=hag (B+j) (by simp [foot])
  simp only [fop,hB] at h ⊢
  split at h
  ·injection h with h; subst h
   exact loc_set hl _ _ id _ _ _ [] (fun q hq=>by simp at hq; subst hq; exact hB)
  ·cases h
 case mkmap j kt =>
  have hB:=hag (B+j) (by simp [foot])
  simp only [fop,hB] at h ⊢
  split at h
  ·injection h with h; subst h
   exact loc_set hl _ _ id _ _ _ [] (fun q hq=>by simp at hq; subst hq; exact hB)
  ·cases h
 case mksl j sz by_ z l c =>
  have hB:=hag (B+j) (by simp [foot])
  simp only [fop,hB] at h ⊢
  split at h
  ·injection h with h; subst h
   exact loc_set hl _ _ id _ _ _ [] (fun q hq=>by simp at hq; subst hq; exact hB)
  ·cases h
 case bsl j sz z len ps =>
  have hB:=hag (B+j) (by simp [foot])
  simp only [fop,hB] at h ⊢
  split at h
  ·have hos:(ps.map fun p=>(p.1,e p.2)).flatMap (fun p=>osT p.2)=ps.flatMap fun p=>osT (e p.2):=by simp [List.flatMap_map]
   have hf:=fillR_local (sz:=sz) (ps:=ps.map fun p=>(p.1,e p.2)) (z:=List.replicate len z) hl (by rw [hos]; exact fun q hq=>hag q (.inr (by simp only [foot]; exact List.mem_cons_of_mem _ hq)))
   rw [hos] at hf
   split at h
   ·rename_i xs K hK
    injection h with h; subst h
    rw [hK] at hf
    obtain ⟨K',b1,b2,b3,b4⟩:=hf
    rw [b1]
    have hKl:K.length=H.length:=by
     have:=fillR_local (sz:=sz) (ps:=ps.map fun p=>(p.1,e p.2)) (z:=List.replicate len z) (H:=H) (H':=H) rfl fun q _=>rfl
     rw [hK] at this
     obtain ⟨K2,c1,c2,_⟩:=this
     injection c1 with c1; injection c1 with _ c1
     rw [c1,c2]
    refine ⟨_,rfl,id,rfl,by simp [b2],fun q hq=>?_,fun q hq=>?_⟩
    ·exact set_local (by rw [b2,hKl]) _ _ q fun hne=>b3 q ((List.mem_cons.1 hq).resolve_left hne)
    ·show (K'.set _ _)[q]? = H'[q]?
     rw [set_out _ _ q fun e=>hq (by rw [e]; exact List.mem_cons_self)]
     exact (b4 q fun x=>hq (List.mem_cons_of_mem _ x)).1
   ·cases h
  ·cases h
 case load agg n x =>
  simp only [fop] at h ⊢
  simp only [foot] at hag ⊢
  split at h
  ·rename_i r0 off e1
   rw [e1] at hag ⊢
   rw [hag r0 (by simp)]
   split at h
   ·split at h
    ·injection h with h; subst h
     rename_i hc; simp only [if_pos hc]
     exact loc_read hl _ _
    ·cases h
   ·cases h
  ·rename_i r0 sz i off e1
   rw [e1] at hag ⊢
   rw [hag r0 (by simp)]
   split at h
   ·split at h
    ·injection h with h; subst h
     rename_i hc; simp only [if_pos hc]
     exact loc_read hl _ _
    ·cases h
   ·split at h
    ·injection h with h; subst h
     rename_i hc; simp only [if_pos hc]
     exact loc_read hl _ _
    ·cases h
   ·cases h
  ·rename_i cs e1
   rw [e1] at hag ⊢
   injection h with h; subst h
   exact loc_read hl _ _
  ·cases h
 case look kt z x k ok =>
  simp only [fop] at h ⊢
  simp only [foot] at hag ⊢
  split at h
  ·rename_i r0 ky e1 e2
   rw [e1] at hag ⊢
   try rw [e2]
   rw [hag r0 (by simp)]
   split at h
   ·split at h
    ·rename_i hc
     simp only [if_pos hc]
     split at h
     ·injection h with h; subst h; exact loc_read hl _ _
     ·injection h with h; subst h; exact loc_read hl _ _
    ·cases h
   ·cases h
  ·rename_i kt' es ky e1 e2
   rw [e1] at hag ⊢
   try rw [e2]
   split at h
   ·rename_i hc
    simp only [if_pos hc]
    split at h
    ·injection h with h; subst h; exact loc_read hl _ _
    ·injection h with h; subst h; exact loc_read hl _ _
   ·cases h
  ·cases h
 case lenM x =>
  simp only [fop] at h ⊢
  simp only [foot] at hag ⊢
  split at h
  ·rename_i r0 e1
   rw [e1] at hag ⊢
   rw [hag r0 (by simp)]
   split at h
   ·injection h with h; subst h; exact loc_read hl _ _
   ·cases h
  ·cases h
 case store n x v =>
  simp only [fop] at h ⊢
  simp only [foot] at hag ⊢
  split at h
  ·rename_i r0 off u e1 e2
   rw [e1] at hag ⊢
   try rw [e2]
   rw [hag r0 (by simp)]
   split at h
   ·split at h
    ·rename_i hc
     simp only [if_pos hc]
     injection h with h; subst h
     exact loc_set hl _ _ id _ _ _ [] (fun q hq=>hag q (.inr hq))
    ·cases h
   ·cases h
  ·rename_i r0 sz i off u e1 e2
   rw [e1,e2] at hag ⊢
   have hos:osT (.v u)=osR u.cells:=rfl
   rw [hos] at hag ⊢
   have hd:∀ q∈osR u.cells,H'[q]? = H[q]? := fun q hq=>hag q (.inr (List.mem_cons_of_mem _ hq))
   rw [toDs_local hd]
   obtain ⟨a1,a2,a3⟩:=frz_local hl hd
   have hr:(frz H' u.cells)[r0]? = (frz H u.cells)[r0]? := by
    by_cases hx:r0∈osR u.cells
    ·exact a2 r0 hx
    ·rw [(a3 r0 hx).1,(a3 r0 hx).2]; exact hag r0 (.inr List.mem_cons_self)
   rw [hr]
   split at h
   ·split at h
    ·split at h
     ·rename_i hc
      simp only [if_pos hc]
      injection h with h; subst h
      exact loc_frz_set hl _ _ _ _ (fun q hq=>hag q (.inr hq))
     ·cases h
    ·cases h
   ·cases h
  ·cases h
 case mapup kt m k v =>
  simp only [fop] at h ⊢
  simp only [foot] at hag ⊢
  split at h
  ·rename_i r0 ky u e1 e2 e3
   rw [e1,e3] at hag ⊢
   have hos:osT (.v u)=osR u.cells:=rfl
   rw [hos] at hag ⊢
   try rw [e2]
   have hd:∀ q∈osR u.cells,H'[q]? = H[q]? := fun q hq=>hag q (.inr (List.mem_cons_of_mem _ hq))
   have htp:toPV H' u=toPV H u:=by
    cases u with
    | any=>rfl
    | c x=>simp only [toPV,toD_local (c:=x) hd]
    | agg cs=>simp only [toPV,toDs_local (cs:=cs) hd]
   rw [htp]
   obtain ⟨a1,a2,a3⟩:=frz_local hl hd
   have hr:(frz H' u.cells)[r0]? = (frz H u.cells)[r0]? := by
    by_cases hx:r0∈osR u.cells
    ·exact a2 r0 hx
    ·rw [(a3 r0 hx).1,(a3 r0 hx).2]; exact hag r0 (.inr List.mem_cons_self)
   dsimp only
   rw [hr]
   split at h
   ·split at h
    ·split at h
     ·rename_i hc
      simp only [if_pos hc]
      injection h with h; subst h
      exact loc_frz_set hl _ _ _ _ (fun q hq=>hag q (.inr hq))
     ·cases h
    ·cases h
   ·cases h
  ·cases h
 case mapdel kt m k =>
  simp only [fop] at h ⊢
  simp only [foot] at hag ⊢
  split at h
  ·rename_i r0 ky e1 e2
   rw [e1] at hag ⊢
   try rw [e2]
   rw [hag r0 (by simp)]
   split at h
   ·split at h
    ·rename_i hc
     simp only [if_pos hc]
     injection h with h; subst h
     exact loc_set hl _ _ id _ _ _ [] (fun q hq=>hag q (.inr hq))
    ·cases h
   ·cases h
  ·cases h
 case clr sz z x =>
  simp only [fop] at h ⊢
  simp only [foot] at hag ⊢
  split at h
  ·rename_i r0 sz' off len e1
   rw [e1] at hag ⊢
   have hos:osT (.v (.c (.os r0 sz' off len)))=[r0]:=rfl
   rw [hos] at hag ⊢
   rw [hag r0 (by simp)]
   split at h
   ·split at h
    ·rename_i hc
     simp only [if_pos hc]
     injection h with h; subst h
     exact loc_set hl _ _ id _ _ _ [] (fun q hq=>hag q (.inr hq))
    ·cases h
   ·cases h
  ·rename_i m c e1
   rw [e1]
   injection h with h; subst h
   exact loc_read hl _ _
  ·cases h
 case app p j sz by_ s x =>
  simp only [foot] at hag ⊢
  have hB:=hag (B+j) (by simp)
  have hel:elems H' (e x)=elems H (e x):=elems_local fun q hq=>hag q (.inl hq)
  simp only [fop,hB,hel] at h ⊢
  split at h
  ·split at h
   ·rename_i e1
    rw [e1] at hag ⊢
    injection h with h; subst h
    exact loc_set hl _ _ id _ _ _ [] (fun q hq=>hag q (.inr hq))
   ·rename_i r0 sz' len e1
    rw [e1] at hag ⊢
    have hos:osT (.v (.c (.os r0 sz' 0 len)))=[r0]:=rfl
    rw [hos] at hag ⊢
    rw [hag r0 (by simp)]
    split at h
    ·split at h
     ·rename_i hc
      simp only [if_pos hc]
      injection h with h; subst h
      refine ⟨_,rfl,id,rfl,by simp [hl],fun q hq=>?_,fun q hq=>?_⟩
      ·exact set_local (by simp [hl]) _ _ q fun hne=>set_local hl _ _ q fun _=>hag q (.inr hq)
      ·rw [set_out _ _ q fun e=>hq (by rw [e]; exact List.mem_cons_self),set_out _ _ q fun e=>hq (by rw [e]; simp)]
     ·cases h
    ·cases h
   ·cases h
  ·cases h
 case str x =>
  simp only [foot] at hag ⊢
  have hel:elems H' (e x)=elems H (e x):=elems_local fun q hq=>hag q (.inl hq)
  simp only [fop,hel] at h ⊢
  split at h
  ·split at h
   ·injection h with h; subst h
    exact loc_read hl _ _
   ·cases h
  ·cases h
 case eqN ng k x =>
  simp only [foot] at hag ⊢
  have hx:fop B H' e (.eqN ng k x)=(fop B H e (.eqN ng k x)).map fun r=>⟨r.ob,r.val,H'⟩:=by
   simp only [fop]; split <;> rfl
  have h1:r.hp=H:=by
   simp only [fop] at h
   split at h <;> first | (injection h with h; subst h; rfl) | cases h
  rw [hx,h]
  exact ⟨_,rfl,id,rfl,hl,fun q hq=>(by cases hq),fun q _=>rfl⟩
 case call=>cases h
 case callv=>cases h
section
variable {P:Program} {G:Gl} {ρ:Nat→Option Nat} {w:World}
def mapO {α β:Type} (f:α→Option β):List α→Option (List β)
 | []=>some []
 | a :: r=>match f a,mapO f r with
  | some b,some l=>some (b :: l)
  | _,_=>none
theorem mapO_get {α β:Type} {f:α→Option β}:∀ {l:List α} {m:List β},mapO f l=some m→m.length=l.length∧∀ (i:Nat) a b,l[i]? = some a→m[i]? = some b→f a=some b
 | [],m,h=>by simp only [mapO,Option.some.injEq] at h; subst h; exact ⟨rfl,fun i a b h=>by simp at h⟩
 | a :: r,m,h=>by
  simp only [mapO] at h
  split at h
  ·rename_i b l h1 h2
   injection h with h; subst h
   obtain ⟨g1,g2⟩:=mapO_get h2
   refine ⟨by simp [g1],fun i x y hx hy=>?_⟩
   cases i with
   | zero=>simp at hx hy; subst hx; subst hy; exact h1
   | succ i=>exact g2 i x y (by simpa using hx) (by simpa using hy)
  ·cases h
def capD (f:C→Option D):Cap→Option D
 | .r r o=>f (.ptr r o)
 | .d x=>some x
def toB:Nat→List O→C→Option D
 | 0,H,c=>toD H c
 | n+1,H,c=>match c with
  | .ptr r off=>match H[r]? with
   | some (.cells cs)=>match mapO (toB n H) (cs.drop off) with
    | some ds=>some (.ip ds)
    | none=>none
   | _=>none
  | .eptr r sz i off=>match H[r]? with
   | some (.row sz' xs)=>if sz'=sz∧i<xs.length then some (.ip ((nth xs i).drop off)) else none
   | some (.frow sz' xs)=>if sz'=sz∧i<xs.length then some (.ip ((nth xs i).drop off)) else none
   | _=>none
  | .mp r=>match H[r]? with
   | some (.map kt es)=>some (.mp kt es)
   | _=>none
  | .fn f caps=>match mapO (fun p:Nat×Nat=>toB n H (.ptr p.1 p.2)) caps with
   | some ds=>some (.fn f ds)
   | none=>none
  | .fx f caps=>match mapO (capD (toB n H)) caps with
   | some ds=>some (.fn f ds)
   | none=>none
  | c=>toD H c
def toBV (H:List O):V→Option PV
 | .c x=>match toB 8 H x with | some d=>some (.c d) | none=>none
 | .agg cs=>match mapO (toB 8 H) cs with | some ds=>some (.agg ds) | none=>none
 | .any=>none
def toBVs (H:List O) (vs:List V):Option (List PV):=mapO (toBV H) vs
def allB (w:World) (b:Nat):Prop:=b<w.heap.size
theorem step_all (H:List O):Step (stab ρ H w) w (allB w) w:=⟨fun b hb=>hb.1,fun _ _=>rfl,Nat.le_refl _,fun _ _ _ h=>h,rfl,rfl,rfl⟩
theorem stab_nil (w:World):stab (fun _=>none) [] w=allB w:=by
 funext b
 simp only [stab,allB,eq_iff_iff]
 exact ⟨fun h=>h.1,fun h=>⟨h,fun r o hr=>by simp at hr⟩⟩
theorem toD_all {H:List O} (h:HRel P ρ H w) {c:C} {d:D} {v:Value} (hd:toD H c=some d) (hc:CRel P (ctx ρ H w) c v):DRel (allB w) w d v:=by
 have:toPV H (.c c)=some (.c d):=by simp only [toPV,hd]
 exact DRel.mono (topv_rel (P:=P) (u:=.c c) h this hc) (step_all _)
theorem map_all {H:List O} (h:HRel P ρ H w) {r:Nat} {kt:KT} {es:List (Value×PV)} (hr:H[r]? = some (.map kt es)) {b:Nat} (hb:ρ r=some b):DRel (allB w) w (.mp kt es) (.map (some b)):=by
 obtain ⟨hconf,a,ces,cl,h1,h2,h3,h4,_⟩:=h.objs r _ hr
 rw [hb] at h1; injection h1 with h1; subst h1
 have key:∀ (i:Nat) ky pv,es[i]? = some (ky,pv)→∃ e,ces[i]? = some e∧e.key=ky∧e.val=(ces.getD i default).val∧PRel (allB w) w pv e.val:=by
  intro i ky pv hi
  have hlt:i<ces.size:=by rw [h3]; exact lt_of_get hi
  have he:ces[i]? = some ces[i]:=by simp [hlt]
  obtain ⟨q1,q2⟩:=h4 i ky pv _ hi he
  exact ⟨_,he,q1,by simp [Array.getD,hlt],q2.mono (step_all H)⟩
 refine DRel.mp kt es b ces cl (fun i=>(ces.getD i default).val) (fun i=>(ces.getD i default).val.cells) ((h.small r b hb).2) ((h.small r b hb).2) h2 h3 hconf (fun i ky p hi=>?_) (fun i ky x hi=>?_) (fun i ky ds hi=>?_) (fun i ky ds j d hi hj=>?_)
 ·obtain ⟨e,g1,g2,g3,_⟩:=key i ky p hi; exact ⟨e,g1,g2,g3⟩
 ·obtain ⟨e,g1,g2,g3,g4⟩:=key i ky _ hi; rw [← g3]; exact g4
 ·obtain ⟨e,g1,g2,g3,vs,g4,g5⟩:=key i ky _ hi
  rw [← g3,g4]
  exact ⟨rfl,g5.1⟩
 ·obtain ⟨e,g1,g2,g3,vs,g4,g5⟩:=key i ky _ hi
  rw [← g3,g4]
  have hlt:j<vs.size:=by rw [g5.1]; exact lt_of_get hj
  have:(Value.agg vs).cells.getD j undef=vs[j]:=by simp [Value.cells,Array.getD,hlt]
  rw [this]
  exact g5.2 j d _ hj (by simp [hlt])
theorem toB_rel {H:List O} (h:HRel P ρ H w):∀ (n:Nat) {c:C} {d:D} {v:Value},toB n H c=some d→CRel P (ctx ρ H w) c v→DRel (allB w) w d v
 | 0,c,d,v,hd,hc=>toD_all h hd hc
 | n+1,c,d,v,hd,hc=>by
  have ptr:∀ r off d v,toB (n+1) H (.ptr r off)=some d→CRel P (ctx ρ H w) (.ptr r off) v→DRel (allB w) w d v:=by
   intro r off d v hd hc
   simp only [toB] at hd
   split at hd
   ·rename_i cs hcs
    split at hd
    ·rename_i ds hds
     injection hd with hd; subst hd
     obtain ⟨_,b,hb,rfl⟩:=hc
     have hb':ρ r=some b:=hb
     obtain ⟨a,cc,e,h1,h2,h3⟩:=h.objs r _ hcs
     rw [hb'] at h1; injection h1 with h1; subst h1
     obtain ⟨g1,g2⟩:=mapO_get hds
     have key:∀ (j:Nat) d,ds[j]? = some d→∃ u,w.cell? ⟨b,off+j,none⟩=some u∧u=cc.getD (off+j) undef∧DRel (allB w) w d u:=by
      intro j d hj
      have hjl:j<(cs.drop off).length:=by rw [← g1]; exact lt_of_get hj
      have hx:(cs.drop off)[j]? = some (cs.drop off)[j]:=by simp [hjl]
      have hx2:cs[off+j]? = some (cs.drop off)[j]:=by rw [← hx,List.getElem?_drop]
      obtain ⟨u,hu,hr⟩:=csrel_get h3 hx2
      refine ⟨u,?_,?_,toB_rel h n (g2 j _ d hx hj) hr⟩
      ·have h2':w.heap[b]? = some (.cells cc e (0,0)):=h2
       simp only [World.cell?,h2']; exact hu
      ·rw [Array.getD_eq_getD_getElem?,hu]; rfl
     refine DRel.ip ds b off (fun j=>cc.getD (off+j) undef) ((h.small r b hb').2) ((h.small r b hb').2) (fun j d hj=>?_) (fun j d hj=>?_)
     ·obtain ⟨u,q1,q2,_⟩:=key j d hj; rw [← q2]; exact q1
     ·obtain ⟨u,q1,q2,q3⟩:=key j d hj; rw [← q2]; exact q3
    ·cases hd
   ·cases hd
  have ep:∀ r sz i off v sz' xs d,(H[r]? = some (.row sz' xs)∨H[r]? = some (.frow sz' xs))→(if sz'=sz∧i<xs.length then some (D.ip ((nth xs i).drop off)) else none)=some d→CRel P (ctx ρ H w) (.eptr r sz i off) v→DRel (allB w) w d v:=by
   intro r sz i off v sz' xs d hr hd hc
   split at hd
   ·rename_i hcc
    obtain ⟨rfl,hi⟩:=hcc
    injection hd with hd; subst hd
    obtain ⟨_,b,hb,rfl⟩:=hc
    have hb':ρ r=some b:=hb
    have hrow:∃ (c:Array Value) (e:TypeId) (fz:Nat×Nat),w.heap[b]? = some (.cells c e fz)∧RowRel (stab ρ H w) w c sz' xs:=by
     rcases hr with hr | hr
     ·obtain ⟨_,hor⟩:=h.objs r _ hr
      rcases hor with ⟨h1,_⟩ | ⟨a0,c,e,h1,h2,h3⟩
      ·rw [hb'] at h1; cases h1
      ·rw [hb'] at h1; injection h1 with h1; subst h1
       exact ⟨c,e,(0,0),h2,h3⟩
     ·obtain ⟨_,hor⟩:=h.objs r _ hr
      rcases hor with ⟨h1,_⟩ | ⟨a0,c,e,fz,h1,_,h2,h3⟩
      ·rw [hb'] at h1; cases h1
      ·rw [hb'] at h1; injection h1 with h1; subst h1
       exact ⟨c,e,fz,h2,h3⟩
    obtain ⟨c,e,fz,h2,h3⟩:=hrow
    have hg:=nth_get hi
    have key:∀ (j:Nat) d,((nth xs i).drop off)[j]? = some d→∃ u,c[i*sz'+off+j]? = some u∧u=c.getD (i*sz'+off+j) undef∧DRel (allB w) w d u:=by
     intro j d hj
     rw [List.getElem?_drop] at hj
     obtain ⟨u,hu,hdu⟩:=h3.2.2 i _ (off+j) d hg hj
     rw [← Nat.add_assoc] at hu
     exact ⟨u,hu,by rw [Array.getD_eq_getD_getElem?,hu]; rfl,hdu.mono (step_all H)⟩
    refine DRel.ip _ b _ (fun j=>c.getD (i*sz'+off+j) undef) ((h.small r b hb').2) ((h.small r b hb').2) (fun j d hj=>?_) (fun j d hj=>?_)
    ·obtain ⟨u,q1,q2,_⟩:=key j d hj
     simp only [World.cell?,h2]; rw [← q2]; exact q1
    ·obtain ⟨u,q1,q2,q3⟩:=key j d hj; rw [← q2]; exact q3
   ·cases hd
  cases c with
  | ptr r off=>exact ptr r off d v hd hc
  | eptr r sz i off =>
   simp only [toB] at hd
   split at hd
   ·rename_i sz' xs hr; exact ep r sz i off v sz' xs d (.inl hr) hd hc
   ·rename_i sz' xs hr; exact ep r sz i off v sz' xs d (.inr hr) hd hc
   ·cases hd
  | mp r =>
   simp only [toB] at hd
   split at hd
   ·rename_i kt es hr
    injection hd with hd; subst hd
    obtain ⟨_,b,hb,rfl⟩:=hc
    exact map_all h hr hb
   ·cases hd
  | fn f caps =>
   simp only [toB] at hd
   split at hd
   ·rename_i ds hds
    injection hd with hd; subst hd
    obtain ⟨cv,rfl,h2,h3⟩:=hc
    obtain ⟨g1,g2⟩:=mapO_get hds
    refine DRel.fn f ds cv (by rw [h2,g1]) (fun i d hi=>?_)
    have hil:i<caps.length:=by rw [← g1]; exact lt_of_get hi
    have hx:caps[i]? = some (caps[i].1,caps[i].2):=by simp [hil]
    obtain ⟨q1,b,q2,q3⟩:=h3 i _ _ hx
    rw [Array.getD_eq_getD_getElem?,q3]
    have:=g2 i _ d hx hi
    cases n with
    | zero=>simp [toB,toD] at this
    | succ m=>exact toB_rel h (m+1) this ⟨q1,b,q2,rfl⟩
   ·cases hd
  | d x=>exact toD_all h hd hc
  | os r sz off len=>exact toD_all (H:=H) h (by simpa only [toB] using hd) hc
  | fx f caps =>
   simp only [toB] at hd
   split at hd
   ·rename_i ds hds
    injection hd with hd; subst hd
    obtain ⟨cv,rfl,h2,h3,h4⟩:=hc
    obtain ⟨g1,g2⟩:=mapO_get hds
    refine DRel.fn f ds cv (by rw [h2,g1]) (fun i d hi=>?_)
    have hil:i<caps.length:=by rw [← g1]; exact lt_of_get hi
    have hx0:caps[i]? = some caps[i]:=by simp [hil]
    have hg:=g2 i _ d hx0 hi
    cases hcap:caps[i] with
    | r r off =>
     rw [hcap] at hx0 hg
     obtain ⟨q1,b,q2,q3⟩:=h3 i r off hx0
     rw [Array.getD_eq_getD_getElem?,q3]
     have hg:toB n H (.ptr r off)=some d:=hg
     cases n with
     | zero=>simp [toB,toD] at hg
     | succ m=>exact toB_rel h (m+1) hg ⟨q1,b,q2,rfl⟩
    | d x =>
     rw [hcap] at hx0 hg
     have hg:some x=some d:=hg
     injection hg with hg
     subst hg
     exact (h4 i x hx0).mono (step_all H)
   ·cases hd
  | ifc=>exact toD_all (H:=H) h (by simpa only [toB] using hd) hc
  | top=>exact toD_all (H:=H) h (by simpa only [toB] using hd) hc
theorem toBV_rel {H:List O} (h:HRel P ρ H w) {u:V} {p:PV} {v:Value} (hp:toBV H u=some p) (hu:VRel P (ctx ρ H w) u v):PRel (allB w) w p v:=by
 cases u with
 | any=>cases hp
 | c x =>
  simp only [toBV] at hp
  split at hp
  ·rename_i d hd
   injection hp with hp; subst hp
   exact toB_rel h 8 hd hu
  ·cases hp
 | agg cs =>
  simp only [toBV] at hp
  split at hp
  ·rename_i ds hd
   injection hp with hp; subst hp
   obtain ⟨vs,rfl,hc⟩:=hu
   obtain ⟨g1,g2⟩:=mapO_get hd
   refine ⟨vs,rfl,by rw [hc.1,g1],fun i d v hi hv=>?_⟩
   have hil:i<cs.length:=by rw [← g1]; exact lt_of_get hi
   have hx:cs[i]? = some cs[i]:=by simp [hil]
   exact toB_rel h 8 (g2 i _ d hx hi) (hc.2 i _ v hx hv)
  ·cases hp
theorem prel_vrel {k:K} {p:PV} {v:Value} (h:PRel k.S k.w p v):VRel P k p.toV v:=pv_rel (P:=P) h
theorem HRel.grow {H:List O} {w':World} (h:HRel P ρ H w) (hs:Step (allB w) w (allB w') w'):HRel P ρ H w'∧(ctx ρ H w).le (ctx ρ H w'):=by
 have le:(ctx ρ H w).le (ctx ρ H w'):=⟨fun _ _ h=>h,Nat.le_refl _,fun b hb=>⟨Nat.lt_of_lt_of_le hb.1 hs.size,hb.2⟩,fun b hb=>hs.keep b hb.1,hs.size,hs.shape,hs.os,hs.tape,hs.output⟩
 refine ⟨⟨fun r o hr=>?_,h.inj,fun r b hb=>⟨(h.small r b hb).1,Nat.lt_of_lt_of_le (h.small r b hb).2 hs.size⟩⟩,le⟩
 exact ORel.mono (h.objs r o hr) le fun _ a ha=>hs.keep a (h.small r a ha).2
def scC:C→Bool
 | .d (.v _)=>true
 | _=>false
def scV:V→Bool
 | .c c=>scC c
 | .agg cs=>cs.all scC
 | .any=>false
def scT:T→Bool
 | .v u=>scV u
 | .tup vs=>vs.all scV
theorem crel_sc {k k':K} {c:C} {v:Value} (hc:scC c=true) (h:CRel P k c v):CRel P k' c v:=by
 unfold scC at hc
 split at hc
 ·have:=drel_v h; subst this
  exact DRel.v _ (drel_one h)
 ·cases hc
theorem vrel_sc {k k':K} {u:V} {v:Value} (hu:scV u=true) (h:VRel P k u v):VRel P k' u v:=by
 cases u with
 | c x=>exact crel_sc (P:=P) (k:=k) hu h
 | agg cs =>
  obtain ⟨vs,e,hl,hr⟩:=h
  exact ⟨vs,e,hl,fun i c v hi hv=>crel_sc (List.all_eq_true.1 hu c (List.mem_of_getElem? hi)) (hr i c v hi hv)⟩
 | any=>cases hu
theorem trel_sc {k k':K} {t:T} {v:Value} (ht:scT t=true) (h:TRel P k t v):TRel P k' t v:=by
 cases t with
 | v u=>exact vrel_sc (P:=P) (k:=k) ht h
 | tup us =>
  obtain ⟨vs,e,hl,hr⟩:=h
  exact ⟨vs,e,hl,fun i c v hi hv=>vrel_sc (List.all_eq_true.1 ht c (List.mem_of_getElem? hi)) (hr i c v hi hv)⟩
theorem acalls_lend {f:Nat} {vs:List V} {ps:List PV} {H:List O} {t:T} (hp:toBVs H vs=some ps) (ht:scT t=true)
  (h:ACalls P G f (ps.map PV.toV) [] fun t' H'=>t'=t∧H'=[]):ACalls P G f vs H fun t' H'=>t'=t∧H'=H:=by
 refine ⟨h.1,fun ρ w args hH hG hv=>?_⟩
 obtain ⟨g1,g2⟩:=mapO_get hp
 have h0:HRel P (fun _=>none) [] w:=⟨fun r o hr=>by simp at hr,fun r r' o o' b hr=>by simp at hr,fun r b hb=>by cases hb⟩
 have hG0:GRel G (stab (fun _=>none) [] w) w:=by rw [stab_nil]; exact hG.mono (step_all H)
 have hv0:VsRel P (ctx (fun _=>none) [] w) (ps.map PV.toV) args:=by
  refine ⟨by rw [List.length_map,g1]; exact hv.1,fun i c v hi hvi=>?_⟩
  rw [List.getElem?_map] at hi
  cases hq:ps[i]? with
  | none=>rw [hq] at hi; cases hi
  | some p =>
   rw [hq] at hi
   simp at hi
   subst hi
   have hil:i<vs.length:=by rw [← g1]; exact lt_of_get hq
   have hx:vs[i]? = some vs[i]:=by simp [hil]
   have:=toBV_rel hH (g2 i _ p hx hq) (hv.2 i _ v hx hvi)
   refine prel_vrel (k:=ctx (fun _=>none) [] w) ?_
   show PRel (stab (fun _=>none) [] w) w p v
   rw [stab_nil]; exact this
 refine (h.2 _ w args h0 hG0 hv0).mono fun e w' ⟨v,t',ρ',H',e1,⟨et,eh⟩,e3,e4,e5⟩=>?_
 subst et
 have hstep:Step (allB w) w (allB w') w':=by
  have:=e5.step
  have e6:(ctx (fun _=>none) [] w).S=allB w:=stab_nil w
  rw [e6] at this
  exact this.more fun b hb=>hb.1
 obtain ⟨k1,k2⟩:=hH.grow hstep
 exact ⟨v,t',ρ,H,e1,⟨rfl,rfl⟩,k1,trel_sc ht e4,k2⟩
end
structure XE where
 sc:Bool
 g:List PV→Option (Prop×T)
inductive XV where
 | x (e:XE)
 | own (q0 sz:Nat) (g:List PV→Option (Prop×List (List D)))
instance:Coe XE XV:=⟨XV.x⟩
abbrev XT:=List (Nat×XV)
def xget:XT→Nat→Option XV
 | [],_=>none
 | (f,e) :: r,n=>if f=n then some e else xget r n
def Contract (P:Program) (G:Gl) (f:Nat) (e:XE):Prop:=∀ ps ob t,e.g ps=some (ob,t)→ob →
 if e.sc=true then scT t=true∧ACalls P G f (ps.map PV.toV) [] (fun t' H'=>t'=t∧H'=[]) else ∀ H,ACalls P G f (ps.map PV.toV) H fun t' H'=>t'=t∧H'=H
def ContractO (P:Program) (G:Gl) (f sz:Nat) (g:List PV→Option (Prop×List (List D))):Prop:=∀ ps ob rows,g ps=some (ob,rows)→ob →
 ∀ H,ACalls P G f (ps.map PV.toV) H fun t' H'=>t' = .v (.c (.os H.length sz 0 rows.length))∧H'=H ++ [.row sz rows]
def GoodV (P:Program) (G:Gl) (f:Nat):XV→Prop
 | .x e=>Contract P G f e
 | .own _ sz g=>ContractO P G f sz g
def GoodX (P:Program) (G:Gl):XT→Prop
 | []=>True
 | (f,e) :: r=>GoodV P G f e∧GoodX P G r
theorem goodX_get {P:Program} {G:Gl}:∀ {X:XT} {f:Nat} {e:XV},GoodX P G X→xget X f=some e→GoodV P G f e
 | [],_,_,_,h=>by cases h
 | (f',e') :: r,f,e,hg,h=>by
  simp only [xget] at h
  split at h
  ·rename_i hf; injection h with h; subst h; subst hf; exact hg.1
  ·exact goodX_get hg.2 h
def capL (f:C→List Nat):Cap→List Nat
 | .r r o=>f (.ptr r o)
 | .d _=>[]
def borC:Nat→List O→C→List Nat
 | 0,H,c=>osR [c]
 | n+1,H,c=>match c with
  | .ptr r off=>r :: (match H[r]? with
   | some (.cells cs)=>(cs.drop off).flatMap (borC n H)
   | _=>[])
  | .eptr r _ _ _=>[r]
  | .mp r=>[r]
  | .fn _ caps=>caps.flatMap fun p=>borC n H (.ptr p.1 p.2)
  | .fx _ caps=>caps.flatMap (capL (borC n H))
  | c=>osR [c]
def borV (H:List O) (u:V):List Nat:=u.cells.flatMap (borC 8 H)
def borVs (H:List O) (vs:List V):List Nat:=vs.flatMap (borV H)
def osVs (vs:List V):List Nat:=vs.flatMap fun u=>osR u.cells
structure SR where
 rd:List Nat
 wr:List Nat
 ob:Prop
 val:T
 hp:List O
def holeF (H:List O) (q:Nat):Nat→Nat→Option Nat
 | _,0=>none
 | k,n+1=>match H[q+k]? with
  | some .hole=>some (q+k)
  | some _=>holeF H q (k+1) n
  | none=>none
def upTo (q:Nat):Nat→List Nat
 | 0=>[]
 | n+1=>q :: upTo (q+1) n
def callF (X:XT) (H:List O) (f:Nat) (vs:List V):Option SR :=
 match xget X f with
 | some (.own q0 sz g)=>match osVs vs,toPVs H vs with
  | [],some ps=>match g ps,holeF H q0 0 8 with
   | some (ob,rows),some q=>some ⟨upTo q0 (q+1-q0),[q],ob,.v (.c (.os q sz 0 rows.length)),H.set q (.row sz rows)⟩
   | _,_=>none
  | _,_=>none
 | some (.x e)=>match e.sc with
  | true=>match toBVs H vs with
   | some ps=>match e.g ps with
    | some (ob,t)=>some ⟨borVs H vs,[],ob,t,H⟩
    | none=>none
   | none=>none
  | false=>match toPVs H vs with
   | some ps=>match e.g ps with
    | some (ob,t)=>some ⟨[],osVs vs,ob,t,frzVs H vs⟩
    | none=>none
   | none=>none
 | none=>none
def ordB (cl:List (List Nat)) (j i:Nat):Bool:=(cl.getD i []).contains j
def tmpsOf (o:AOper):List Nat:=(o.op.opers.filterMap fun x=>match x with | .tmp t=>some t | _=>none) ++ (match o.guard with | some (t,_)=>[t] | none=>[])
def slotsOk (cl:List (List Nat)) (ops:List AOper):Bool:=(List.range ops.length).all fun i=>(List.range i).all fun j=>ordB cl j i || (match ops[i]?,ops[j]? with
 | some a,some b=>(match b.dst with | some d=>!(tmpsOf a).contains d && a.dst != some d | none=>true) && (match a.dst with | some d=>!(tmpsOf b).contains d | none=>true)
 | _,_=>true)
def drawOk (cl:List (List Nat)) (ops:List AOper) (after:List (List Nat)):Bool:=after.length == ops.length && acyc after && slotsOk cl ops
def apW (cl:List (List Nat)) (i:Nat):List Nat→List (Nat×List Nat)→Prop
 | [],_=>True
 | _ :: _,[]=>True
 | q :: rw,(j,wr) :: h=>(ordB cl j i=true∨∀ x∈wr,x ∉ q :: rw)∧apW cl i (q :: rw) h
def addH (i:Nat):List Nat→List (Nat×List Nat)→List (Nat×List Nat)
 | [],h=>h
 | q :: l,h=>(i,q :: l) :: h
section
variable (P:Program) (G:Gl) (X:XT)
def calleeOf (s:Nat→T):A→Option (Nat×List V)
 | .call f args=>match argsOf (args.map (ev G s)) with
  | some vs=>some (f,vs)
  | none=>none
 | .callv f args=>match ev G s f,argsOf (args.map (ev G s)) with
  | .v (.c (.fn f caps)),some vs=>some (f,vs ++ caps.map fun c=>.c (.ptr c.1 c.2))
  | .v (.c (.d (.fn f caps))),some vs=>some (f,vs ++ caps.map fun c=>.c (.d c))
  | _,_=>none
 | _=>none
def stepX (B:Nat) (st:St) (a:A):Option SR :=
 match a with
 | .call f args=>match calleeOf G st.sl (.call f args) with
  | some (f,vs)=>callF X st.hp f vs
  | none=>none
 | .callv f args=>match calleeOf G st.sl (.callv f args) with
  | some (f,vs)=>callF X st.hp f vs
  | none=>none
 | a=>match fop B st.hp (ev G st.sl) a with
  | some r=>some ⟨(foot B (ev G st.sl) a).1,(foot B (ev G st.sl) a).2,r.ob,r.val,r.hp⟩
  | none=>none
def callX (f:Nat) (vs:List V) (st:St) (κ:Kt):Prop :=
 match callF X st.hp f vs with
 | some r=>r.ob∧κ r.val ⟨st.sl,r.hp⟩
 | none=>ACalls P G f vs st.hp (callK st.sl κ)
def wopX (B:Nat) (a:A) (st:St) (κ:Kt):Prop :=
 match a with
 | .call f args=>match argsOf (args.map (ev G st.sl)) with
  | some vs=>callX P G X f vs st κ
  | none=>False
 | .callv f args=>match ev G st.sl f,argsOf (args.map (ev G st.sl)) with
  | .v (.c (.fn f caps)),some vs=>callX P G X f (vs ++ caps.map fun c=>.c (.ptr c.1 c.2)) st κ
  | .v (.c (.d (.fn f caps))),some vs=>callX P G X f (vs ++ caps.map fun c=>.c (.d c)) st κ
  | _,_=>False
 | .pick c a b=>condP (ev G st.sl c) (κ (ev G st.sl a) st) (κ (ev G st.sl b) st)
 | .eqN ng k x=>match k,ev G st.sl x with
  | .sl,.v (.c (.d (.sl xs)))=>∀ b,(xs≠[]→b=false)→κ (.bool (if ng then !b else b)) st
  | .sl,.v (.c (.os _ _ _ len))=>∀ b,(len≠0→b=false)→κ (.bool (if ng then !b else b)) st
  | k,_=>match fop B st.hp (ev G st.sl) (.eqN ng k x) with
   | some r=>r.ob∧κ r.val ⟨st.sl,r.hp⟩
   | none=>False
 | .rng j kt x=>rngW B j kt (ev G st.sl x) st κ
 | .nxt x=>nxtW (ev G st.sl x) st κ
 | .ent x=>entW (ev G st.sl x) st κ
 | a=>match fop B st.hp (ev G st.sl) a with
  | some r=>r.ob∧κ r.val ⟨st.sl,r.hp⟩
  | none=>False
def wopsX (B:Nat):List AOper→St→(St→Prop)→Prop
 | [],st,k=>k st
 | o :: r,st,k=>match o.guard with
  | none=>wopX P G X B o.op st fun t s=>wopsX B r (s.put o.dst t) k
  | some (t,want)=>condW (st.sl t) want (wopX P G X B o.op st fun t s=>wopsX B r (s.put o.dst t) k) (wopsX B r (st.put o.dst (.tup [])) k)
def wlex (B:Nat) (cl:List (List Nat)):Nat→List AOper→List (Nat×List Nat)→List (Nat×List Nat)→St→(St→Prop)→Prop
 | i,[],_,_,st,k=>k st
 | i,o :: r,Ws,Rs,st,k =>
  match o.guard with
  | none=>match stepX G X B st o.op with
   | some s=>s.ob∧apW cl i (s.rd ++ s.wr) Ws∧apW cl i s.wr Rs∧wlex B cl (i+1) r (addH i s.wr Ws) (addH i s.rd Rs) ((St.mk st.sl s.hp).put o.dst s.val) k
   | none=>False
  | some (t,want)=>condW (st.sl t) want
   (match stepX G X B st o.op with
   | some s=>s.ob∧apW cl i (s.rd ++ s.wr) Ws∧apW cl i s.wr Rs∧wlex B cl (i+1) r (addH i s.wr Ws) (addH i s.rd Rs) ((St.mk st.sl s.hp).put o.dst s.val) k
   | none=>False)
   (wlex B cl (i+1) r Ws Rs (st.put o.dst (.tup [])) k)
def wcodeX (N0:Nat):AC→St→Qt→Prop
 | .skip,st,Q=>Q .normal st
 | .region n ops,st,Q=>wopsX P G X st.hp.length ops (holes n st) (normQ Q)
 | .dregion n ops after,st,Q=>drawOk (clos after) ops after=true∧wlex G X st.hp.length (clos after) 0 ops [] [] (holes n st) (normQ Q)
 | .seq x y,st,Q=>wcodeX N0 x st (thenQ (wcodeX N0 y) Q)
 | .cond c x y,st,Q=>condP (ev G st.sl c) (wcodeX N0 x st Q) (wcodeX N0 y st Q)
 | .block id x,st,Q=>wcodeX N0 x st (blockQ id Q)
 | .loop x,st,Q=>loopW P G N0 (wcodeX N0 x) st Q
 | .exit id,st,Q=>Q (.exit id) st
 | .ret,st,Q=>Q .ret st
end
section
variable {P:Program} {G:Gl} {X:XT}
theorem acalls_frz {f:Nat} {vs:List V} {ps:List PV} {H:List O} {t:T} (hp:toPVs H vs=some ps)
  (h:ACalls P G f (ps.map PV.toV) (frzVs H vs) fun t' H'=>t'=t∧H'=frzVs H vs):ACalls P G f vs H fun t' H'=>t'=t∧H'=frzVs H vs:=by
 refine ⟨h.1,fun ρ w args hH hG hv=>?_⟩
 obtain ⟨h1,l1,_⟩:=frzVs_rel vs hH
 obtain ⟨g1,g2⟩:=toPVs_rel vs (vs:=args.toList) hH hp (by simpa using hv.1) (fun i c v hc hv'=>hv.2 i c v hc (by simpa using hv'))
 refine (h.2 ρ w args h1 (hG.mono l1.step) ⟨by rw [List.length_map,g1]; exact hv.1,fun i c v hi hvi=>?_⟩).mono fun e w' ⟨v,t',ρ',H',e1,e2,e3,e4,e5⟩=>⟨v,t',ρ',H',e1,e2,e3,e4,l1.trans e5⟩
 rw [List.getElem?_map] at hi
 cases hq:ps[i]? with
 | none=>rw [hq] at hi; cases hi
 | some p =>
  rw [hq] at hi
  simp at hi
  subst hi
  exact prel_vrel (k:=ctx ρ (frzVs H vs) w) (g2 i p v hq (by simpa using hvi))
theorem holeF_get {H:List O} {q:Nat}:∀ {n k i:Nat},holeF H q k n=some i→H[i]? = some .hole∧q+k≤i∧∀ j,q+k≤j→j≤i→∃ o,H[j]? = some o
 | 0,k,i,h=>by cases h
 | n+1,k,i,h=>by
  simp only [holeF] at h
  split at h
  ·rename_i e
   injection h with h; subst h
   exact ⟨e,Nat.le_refl _,fun j h1 h2=>⟨.hole,by
    have:j=q+k:=by omega
    subst this; exact e⟩⟩
  ·rename_i o _ e
   obtain ⟨h1,h2,h3⟩:=holeF_get h
   refine ⟨h1,by omega,fun j g1 g2=>?_⟩
   by_cases hj:j=q+k
   ·exact ⟨o,by rw [hj]; exact e⟩
   ·exact h3 j (by omega) g2
  ·cases h
theorem holeF_local {H H':List O} {q:Nat}:∀ {n k i:Nat},holeF H q k n=some i→(∀ j,q+k≤j→j≤i→H'[j]? = H[j]?)→holeF H' q k n=some i
 | 0,k,i,h,_=>by cases h
 | n+1,k,i,h,ha=>by
  have hle:=(holeF_get h).2.1
  simp only [holeF] at h ⊢
  rw [ha (q+k) (Nat.le_refl _) hle]
  cases hq:H[q+k]? with
  | none=>rw [hq] at h; cases h
  | some o =>
   rw [hq] at h
   cases o <;> first | exact h | exact holeF_local h fun j h1 h2=>ha j (by omega) h2
theorem mem_upTo {j:Nat}:∀ {n q:Nat},j∈upTo q n↔q≤j∧j<q+n
 | 0,q=>by simp [upTo]
 | n+1,q=>by
  simp only [upTo,List.mem_cons,mem_upTo (n:=n)]
  constructor
  ·rintro (rfl | h) <;> omega
  ·intro h; omega
theorem setB_again' {w:World} {b:Nat} {o:Obj} (h:w.heap[b]? = some o):setB w b o=w:=by
 have:w.heap.setIfInBounds b o=w.heap:=by
  apply Array.ext_getElem?
  intro i
  by_cases q:b=i
  ·subst q
   rw [Array.getElem?_setIfInBounds_self_of_lt (Array.getElem?_eq_some_iff.1 h).1,h]
  ·rw [Array.getElem?_setIfInBounds_ne q]
 show { w with heap:=w.heap.setIfInBounds b o }=w
 rw [this]
theorem fill_nil {ρ:Nat→Option Nat} {H:List O} {w:World} {q sz:Nat} (hsz:0<sz) (hH:HRel P ρ H w) (hq:H[q]? = some .hole) :
  HRel P ρ (H.set q (.row sz [])) w∧(ctx ρ H w).le (ctx ρ (H.set q (.row sz [])) w):=by
 have hn:ρ q=none:=hH.objs q _ hq
 have le:(ctx ρ H w).le (ctx ρ (H.set q (.row sz [])) w):=by
  refine ⟨fun _ _ h=>h,by simp [ctx],⟨fun b hb=>⟨hb.1,fun r' o1 h1 l1=>?_⟩,fun _ _=>rfl,Nat.le_refl _,fun _ _ _ h=>h,rfl,rfl,rfl⟩⟩
  rcases getElem?_set' _ _ _ _ _ h1 with ⟨rfl,rfl⟩ | ⟨hne,h1'⟩
  ·rw [hn]; simp
  ·exact hb.2 r' o1 h1' l1
 refine ⟨hH.change le (fun r' o1 h1=>?_) (fun r1 r2 o1 o2 x h1 h2 l1 l2 e1 e2=>?_) (fun r' x hx=>?_),le⟩
 ·rcases getElem?_set' _ _ _ _ _ h1 with ⟨rfl,rfl⟩ | ⟨hne,h1'⟩
  ·exact .inl ⟨hsz,.inl ⟨hn,rfl⟩⟩
  ·exact .inr ⟨h1',rfl,fun _ _ _=>rfl⟩
 ·rcases getElem?_set' _ _ _ _ _ h1 with ⟨rfl,rfl⟩ | ⟨n1,g1⟩
  ·rw [hn] at e1; cases e1
  ·rcases getElem?_set' _ _ _ _ _ h2 with ⟨rfl,rfl⟩ | ⟨n2,g2⟩
   ·rw [hn] at e2; cases e2
   ·exact hH.inj r1 r2 o1 o2 x g1 g2 l1 l2 e1 e2
 ·rw [List.length_set]; exact hH.small r' x hx
theorem acalls_hole {f:Nat} {vs:List V} {H:List O} {q sz:Nat} {rows:List (List D)} (hq:H[q]? = some .hole)
  (h:ACalls P G f vs H fun t' H'=>t' = .v (.c (.os H.length sz 0 rows.length))∧H'=H ++ [.row sz rows]) :
  ACalls P G f vs H fun t' H'=>t' = .v (.c (.os q sz 0 rows.length))∧H'=H.set q (.row sz rows):=by
 refine ⟨h.1,fun ρ w args hH hG hv=>(h.2 ρ w args hH hG hv).mono fun e w' ⟨v,t',ρ',H',e1,e2,e3,e4,e5⟩=>?_⟩
 obtain ⟨rfl,rfl⟩:=e2
 have hql:q<H.length:=lt_of_get hq
 have hr:(H ++ [O.row sz rows])[H.length]? = some (.row sz rows):=by simp
 have hq2:(H ++ [O.row sz rows])[q]? = some .hole:=by rw [List.getElem?_append_left hql]; exact hq
 have hobj:=e3.objs _ _ hr
 have hsz:0<sz:=hobj.1
 have hwf:Wf (H.set q (.row sz rows)):=by
  intro o ho
  rw [List.length_set]
  rcases List.mem_or_eq_of_mem_set ho with ho | rfl
  ·exact wf_of hH o ho
  ·trivial
 have hset:((H ++ [O.row sz rows]).set H.length .dead).set q (.row sz rows)=H.set q (.row sz rows) ++ [.dead]:=by
  rw [List.set_append_right _ _ (Nat.le_refl _),Nat.sub_self,List.set_append_left _ _ (by simpa using hql)]
  rfl
 obtain ⟨ρ2,g,le,ht⟩:∃ ρ2,HRel P ρ2 (H.set q (.row sz rows) ++ [.dead]) w'∧(ctx ρ' (H ++ [O.row sz rows]) w').le (ctx ρ2 (H.set q (.row sz rows) ++ [.dead]) w') ∧
   CRel P (ctx ρ2 (H.set q (.row sz rows) ++ [.dead]) w') (.os q sz 0 rows.length) v:=by
  have e4:CRel P (ctx ρ' (H ++ [O.row sz rows]) w') (.os H.length sz 0 rows.length) v:=e4
  rcases hobj.2 with ⟨hn,hnil⟩ | ⟨b,c,e,hb,hc,hrow⟩
  ·subst hnil
   have g0:=e3.drop H.length .dead rfl trivial
   have l0:(ctx ρ' (H ++ [O.row sz []]) w').le (ctx ρ' ((H ++ [O.row sz []]).set H.length .dead) w'):=le_drop H.length .dead rfl
   have hq3:((H ++ [O.row sz []]).set H.length .dead)[q]? = some .hole:=by rw [List.getElem?_set_ne (by omega)]; exact hq2
   obtain ⟨g1,l1⟩:=fill_nil hsz g0 hq3
   rw [hset] at g1 l1
   refine ⟨ρ',g1,l0.trans l1,⟨by simp [ctx]; omega,?_⟩⟩
   rcases e4.2 with h | ⟨b,cap,e,n,h1,_⟩
   ·exact .inl h
   ·have h1:ρ' H.length=some b:=h1
    rw [hn] at h1; cases h1
  ·have hb:ρ' H.length=some b:=hb
   have hc:w'.heap[b]? = some (.cells c e (0,0)):=hc
   obtain ⟨lm,hm⟩:=e3.move hr rfl hb hq2 (o':=.row sz rows) rfl hc rfl
   rw [hset,setB_again' hc] at hm lm
   refine ⟨_,hm ⟨hsz,.inr ⟨b,c,e,rfl,hc,hrow.mono lm.step⟩⟩,lm,⟨by simp [ctx]; omega,?_⟩⟩
   rcases e4.2 with h | ⟨b',cap,e',n,h1,h2⟩
   ·exact .inl h
   ·have h1:ρ' H.length=some b':=h1
    rw [hb] at h1; injection h1 with h1; subst h1
    exact .inr ⟨b,cap,e',n,upd_same _ _ _,h2⟩
 have hlq:q<(H.set q (O.row sz rows)).length:=by simpa using hql
 obtain ⟨t2,H2,hw,hR⟩:=fin_pre (P:=P) (R:=fun t' H'=>t' = .v (.c (.os q sz 0 rows.length))∧H'=H.set q (.row sz rows)) (t:=.v (.c (.os q sz 0 rows.length))) (H:=H.set q (.row sz rows)) (L:=[.dead]) [] hwf rfl
  ⟨by
   show T.v (V.c (C.ren _ _))=_
   have:phiP (H.set q (O.row sz rows)).length [] q=some q:=by simp [phiP,hql]
   simp only [C.ren,this],by simp⟩
 obtain ⟨ρ3,a1,a2,a3,a4⟩:=hw.2 ρ2 w' v g ht
 have le2:=e5.trans le
 refine ⟨v,t2,ρ3,H2,e1,hR,a1,a2,⟨fun r b hr=>?_,?_,⟨fun b hb=>a4 b (le2.step.sub b hb),le2.step.keep,le2.step.size,le2.step.shape,le2.step.os,le2.step.tape,le2.step.output⟩⟩⟩
 ·have hlt:=(hH.small r b hr).1
  show ρ3 r=some b
  rw [a3 r (by simpa using hlt)]
  exact le2.ρ r b hr
 ·have:=hw.1
  rw [List.length_set] at this
  exact this
theorem acalls_frzR' {f:Nat} {vs:List V} {ps:List PV} {H:List O} {R:T→List O→Prop} (hp:toPVs H vs=some ps) (h:ACalls P G f (ps.map PV.toV) (frzVs H vs) R):ACalls P G f vs H R:=by
 refine ⟨h.1,fun ρ w args hH hG hv=>?_⟩
 obtain ⟨h1,l1,_⟩:=frzVs_rel vs hH
 obtain ⟨g1,g2⟩:=toPVs_rel vs (vs:=args.toList) hH hp (by simpa using hv.1) (fun i c v hc hv'=>hv.2 i c v hc (by simpa using hv'))
 refine (h.2 ρ w args h1 (hG.mono l1.step) ⟨by rw [List.length_map,g1]; exact hv.1,fun i c v hi hvi=>?_⟩).mono fun e w' ⟨v,t',ρ',H',e1,e2,e3,e4,e5⟩=>⟨v,t',ρ',H',e1,e2,e3,e4,l1.trans e5⟩
 rw [List.getElem?_map] at hi
 cases hq:ps[i]? with
 | none=>rw [hq] at hi; cases hi
 | some p =>
  rw [hq] at hi
  simp at hi
  subst hi
  exact prel_vrel (k:=ctx ρ (frzVs H vs) w) (g2 i p v hq (by simpa using hvi))
theorem frz_nil:∀ {cs:List C} {H:List O},osR cs=[]→frz H cs=H
 | [],_,_=>rfl
 | c :: r,H,h=>by
  cases c <;> first
   | (simp only [osR] at h; cases h; done)
   | (simp only [osR] at h; simp only [frz,frz1]; exact frz_nil h)
theorem frzVs_nil:∀ {vs:List V} {H:List O},osVs vs=[]→frzVs H vs=H
 | [],_,_=>rfl
 | u :: r,H,h=>by
  simp only [osVs,List.flatMap_cons,List.append_eq_nil_iff] at h
  simp only [frzVs,frz_nil h.1]
  exact frzVs_nil h.2
theorem callF_sound (hX:GoodX P G X) {H:List O} {f:Nat} {vs:List V} {r:SR} (h:callF X H f vs=some r) (hob:r.ob) :
  ACalls P G f vs H fun t' H'=>t'=r.val∧H'=r.hp:=by
 unfold callF at h
 split at h
 ·rename_i q0 sz g he
  have hc:ContractO P G f sz g:=goodX_get hX he
  split at h
  ·rename_i ps hos hps
   split at h
   ·rename_i ob rows q hg hh
    injection h with h; subst h
    have hfz:frzVs H vs=H:=frzVs_nil hos
    have h1:=hc ps ob rows hg hob H
    refine acalls_hole (holeF_get hh).1 (acalls_frzR' hps ?_)
    rw [hfz]
    exact h1
   ·cases h
  ·cases h
 ·rename_i e he
  have hc:Contract P G f e:=goodX_get hX he
  split at h
  ·rename_i hsc
   split at h
   ·rename_i ps hps
    split at h
    ·rename_i ob t hg
     injection h with h; subst h
     have:=hc ps ob t hg hob
     rw [if_pos hsc] at this
     exact acalls_lend hps this.1 this.2
    ·cases h
   ·cases h
  ·rename_i hsc
   split at h
   ·rename_i ps hps
    split at h
    ·rename_i ob t hg
     injection h with h; subst h
     have:=hc ps ob t hg hob
     rw [if_neg (by rw [hsc]; simp)] at this
     exact acalls_frz hps (this _)
    ·cases h
   ·cases h
 ·cases h
theorem callX_sound (hX:GoodX P G X) {f:Nat} {vs:List V} {st:St} {κ:Kt} (h:callX P G X f vs st κ):ACalls P G f vs st.hp (callK st.sl κ):=by
 unfold callX at h
 split at h
 ·rename_i r hr
  refine (callF_sound hX hr h.1).mono fun t H ⟨h1,h2⟩=>?_
  subst h1; subst h2
  exact h.2
 ·exact h
theorem wopX_same {B:Nat} {a:A} {st:St} {κ:Kt} (h:a.isCall=false):wopX P G X B a st κ=wop P G B a st κ:=by
 cases a <;> first | rfl | cases h
theorem wopX_sound (hX:GoodX P G X) {B:Nat} {a:A} {st:St} {κ:Kt} (h:wopX P G X B a st κ):wop P G B a st κ:=by
 cases a
 case call f args =>
  simp only [wopX] at h
  simp only [wop]
  split at h
  ·rename_i vs e1
   rw [e1]
   exact callX_sound hX h
  ·exact h.elim
 case callv f args =>
  simp only [wopX] at h
  simp only [wop]
  split at h
  ·rename_i f' caps vs e1 e2
   rw [e1,e2]
   exact callX_sound hX h
  ·rename_i f' caps vs e1 e2
   rw [e1,e2]
   exact callX_sound hX h
  ·exact h.elim
 all_goals exact h
theorem wopX_mono {B:Nat} {a:A} {st:St} {κ κ':Kt} (hk:∀ t s,κ t s→κ' t s) (h:wopX P G X B a st κ):wopX P G X B a st κ':=by
 have cx:∀ f vs,callX P G X f vs st κ→callX P G X f vs st κ':=by
  intro f vs h
  unfold callX at h ⊢
  split at h
  ·exact ⟨h.1,hk _ _ h.2⟩
  ·exact ACalls.mono h fun t H q=>hk _ _ q
 by_cases hc:a.isCall=false
 ·rw [wopX_same hc] at h ⊢
  exact wop_mono hk h
 cases a <;> first | (exfalso; exact hc rfl) | skip
 case call f args =>
  simp only [wopX] at h ⊢
  split at h
  ·exact cx _ _ h
  ·exact h
 case callv f args =>
  simp only [wopX] at h ⊢
  split at h
  ·exact cx _ _ h
  ·exact cx _ _ h
  ·exact h
theorem wopsX_sound (hX:GoodX P G X) {B:Nat}:∀ {l:List AOper} {st:St} {k:St→Prop},wopsX P G X B l st k→wops P G B l st k
 | [],st,k,h=>h
 | o :: r,st,k,h=>by
  simp only [wopsX] at h
  simp only [wops]
  split at h
  ·rename_i e
   rw [e]
   exact wop_mono (fun t s q=>wopsX_sound hX q) (wopX_sound hX h)
  ·rename_i t want e
   rw [e]
   exact condW_mono h (fun h=>wop_mono (fun t s q=>wopsX_sound hX q) (wopX_sound hX h)) (wopsX_sound hX)
end
structure Rec where
 rd:List Nat
 wr:List Nat
 val:T
 pre:St
 post:St
structure Step1 (P:Program) (G:Gl) (B:Nat) (o:AOper) (c:Rec):Prop where
 slot:∀ t,c.post.sl t=if o.dst=some t then c.val else c.pre.sl t
 len:c.post.hp.length=c.pre.hp.length
 out:∀ q,q ∉ c.wr→c.post.hp[q]? = c.pre.hp[q]?
 loc:∀ st:St,(∀ t∈tmpsOf o,st.sl t=c.pre.sl t)→st.hp.length=c.pre.hp.length→(∀ q,q∈c.rd∨q∈c.wr→st.hp[q]? = c.pre.hp[q]?)→∀ κ:St→Prop,
  (∀ st':St,(∀ t,o.dst=some t→st'.sl t=c.val)→(∀ t,o.dst≠some t→st'.sl t=st.sl t)→st'.hp.length=c.pre.hp.length →
   (∀ q∈c.wr,st'.hp[q]? = c.post.hp[q]?)→(∀ q,q ∉ c.wr→st'.hp[q]? = st.hp[q]?)→κ st')→wone P G B o st κ
section
variable {P:Program} {G:Gl} {X:XT} {B:Nat}
theorem put_slot (st:St) (d:Option Nat) (v:T) (t:Nat):(st.put d v).sl t=if d=some t then v else st.sl t:=by
 cases d with
 | none=>simp [St.put]
 | some d =>
  simp only [St.put,putS,Option.some.injEq]
  by_cases e:t=d
  ·rw [if_pos e,if_pos e.symm]
  ·rw [if_neg e,if_neg fun x=>e x.symm]
theorem put_hp (st:St) (d:Option Nat) (v:T):(st.put d v).hp=st.hp:=by cases d <;> rfl
theorem mapO_congr {α β:Type} {f g:α→Option β}:∀ {l:List α},(∀ a∈l,f a=g a)→mapO f l=mapO g l
 | [],_=>rfl
 | a :: r,h=>by simp only [mapO,h a List.mem_cons_self,mapO_congr fun x hx=>h x (List.mem_cons_of_mem _ hx)]
theorem toB_local {H H':List O}:∀ (n:Nat) {c:C},(∀ q∈borC n H c,H'[q]? = H[q]?)→toB n H' c=toB n H c
 | 0,c,h=>toD_local h
 | n+1,c,h=>by
  have ptr:∀ r off,(∀ q∈borC (n+1) H (.ptr r off),H'[q]? = H[q]?)→toB (n+1) H' (.ptr r off)=toB (n+1) H (.ptr r off):=by
   intro r off h
   simp only [toB]
   simp only [borC] at h
   rw [h r List.mem_cons_self]
   cases hq:H[r]? with
   | none=>rfl
   | some o =>
    cases o with
    | cells cs =>
     rw [hq] at h
     dsimp only
     rw [mapO_congr (f:=toB n H') (g:=toB n H) fun c hc=>toB_local n fun q hq'=>h q (List.mem_cons_of_mem _ (List.mem_flatMap.2 ⟨c,hc,hq'⟩))]
    | _=>rfl
  cases c with
  | ptr r off=>exact ptr r off h
  | eptr r sz i off =>
   simp only [toB]
   rw [h r (by simp [borC])]
  | mp r =>
   simp only [toB]
   rw [h r (by simp [borC])]
  | fn f caps =>
   simp only [toB]
   rw [mapO_congr (f:=fun p:Nat×Nat=>toB n H' (.ptr p.1 p.2)) (g:=fun p=>toB n H (.ptr p.1 p.2)) fun p hp=>toB_local n fun q hq=>h q (by simp only [borC]; exact List.mem_flatMap.2 ⟨p,hp,hq⟩)]
  | fx f caps =>
   simp only [toB]
   rw [mapO_congr (f:=capD (toB n H')) (g:=capD (toB n H)) fun p hp=>by
    cases p with
    | r r o=>exact toB_local n fun q hq=>h q (by simp only [borC]; exact List.mem_flatMap.2 ⟨_,hp,hq⟩)
    | d x=>rfl]
  | d x=>simp only [toB]; exact toD_local (by simpa only [borC] using h)
  | os r sz off len=>simp only [toB]; exact toD_local (by simpa only [borC] using h)
  | ifc=>simp only [toB]; exact toD_local (by simpa only [borC] using h)
  | top=>simp only [toB]; exact toD_local (by simpa only [borC] using h)
theorem toBV_local {H H':List O} {u:V} (h:∀ q∈borV H u,H'[q]? = H[q]?):toBV H' u=toBV H u:=by
 cases u with
 | any=>rfl
 | c x =>
  have:toB 8 H' x=toB 8 H x:=toB_local 8 fun q hq=>h q (by simp only [borV,V.cells,List.flatMap_cons,List.flatMap_nil,List.append_nil]; exact hq)
  simp only [toBV,this]
 | agg cs =>
  have:mapO (toB 8 H') cs=mapO (toB 8 H) cs:=mapO_congr fun c hc=>toB_local 8 fun q hq=>h q (by simp only [borV,V.cells]; exact List.mem_flatMap.2 ⟨c,hc,hq⟩)
  simp only [toBV,this]
theorem toPV_local {H H':List O} {u:V} (hd:∀ q∈osR u.cells,H'[q]? = H[q]?):toPV H' u=toPV H u:=by
 cases u with
 | any=>rfl
 | c x=>simp only [toPV,toD_local (c:=x) hd]
 | agg cs=>simp only [toPV,toDs_local (cs:=cs) hd]
theorem toPVs_local:∀ {vs:List V} {H H':List O},H'.length=H.length→(∀ q∈osVs vs,H'[q]? = H[q]?)→toPVs H' vs=toPVs H vs ∧
  (frzVs H' vs).length=H.length∧(∀ q∈osVs vs,(frzVs H' vs)[q]? = (frzVs H vs)[q]?)∧∀ q,q ∉ osVs vs→(frzVs H' vs)[q]? = H'[q]? ∧ (frzVs H vs)[q]? = H[q]?
 | [],H,H',hl,h=>⟨rfl,hl,fun q hq=>(by cases hq),fun q hq=>⟨rfl,rfl⟩⟩
 | u :: r,H,H',hl,h=>by
  have hu:∀ q∈osR u.cells,H'[q]? = H[q]? := fun q hq=>h q (by simp only [osVs,List.flatMap_cons]; exact List.mem_append_left _ hq)
  obtain ⟨a1,a2,a3⟩:=frz_local hl hu
  have hl1:(frz H u.cells).length=H.length:=(frz_local (H:=H) rfl fun q _=>rfl).1
  have hag:∀ q∈osVs r,(frz H' u.cells)[q]? = (frz H u.cells)[q]? := by
   intro q hq
   by_cases hx:q∈osR u.cells
   ·exact a2 q hx
   ·rw [(a3 q hx).1,(a3 q hx).2]; exact h q (by simp only [osVs,List.flatMap_cons]; exact List.mem_append_right _ hq)
  obtain ⟨b0,b1,b2,b3⟩:=toPVs_local (vs:=r) (H:=frz H u.cells) (H':=frz H' u.cells) (by rw [a1,hl1]) hag
  refine ⟨by simp only [toPVs,toPV_local hu,b0],by simp only [frzVs]; rw [b1,hl1],fun q hq=>?_,fun q hq=>?_⟩
  ·simp only [frzVs]
   have hq':q∈osR u.cells ++ osVs r:=by simpa only [osVs,List.flatMap_cons] using hq
   by_cases hx:q∈osVs r
   ·exact b2 q hx
   ·rw [(b3 q hx).1,(b3 q hx).2]
    exact a2 q ((List.mem_append.1 hq').resolve_right hx)
  ·have hq':q ∉ osR u.cells ++ osVs r:=by simpa only [osVs,List.flatMap_cons] using hq
   have h1:q ∉ osR u.cells:=fun x=>hq' (List.mem_append_left _ x)
   have h2:q ∉ osVs r:=fun x=>hq' (List.mem_append_right _ x)
   simp only [frzVs]
   rw [(b3 q h2).1,(b3 q h2).2,(a3 q h1).1,(a3 q h1).2]
   exact ⟨rfl,rfl⟩
theorem callF_local {H H':List O} {f:Nat} {vs:List V} {r:SR} (h:callF X H f vs=some r) (hl:H'.length=H.length) (hag:∀ q,q∈r.rd∨q∈r.wr→H'[q]? = H[q]?) :
  r.hp.length=H.length∧(∀ q,q ∉ r.wr→r.hp[q]? = H[q]?) ∧
  ∃ r',callF X H' f vs=some r'∧(r.ob→r'.ob)∧r'.val=r.val∧r'.hp.length=H.length∧(∀ q∈r.wr,r'.hp[q]? = r.hp[q]?)∧∀ q,q ∉ r.wr→r'.hp[q]? = H'[q]? := by
 unfold callF at h ⊢
 split at h
 ·rename_i q0 sz g he
  split at h
  ·rename_i ps hos hps
   split at h
   ·rename_i ob rows q hg hh
    injection h with h; subst h
    obtain ⟨h1,h2,h3⟩:=holeF_get hh
    have hq:q<H.length:=lt_of_get h1
    obtain ⟨b0,b1,b2,b3⟩:=toPVs_local (vs:=vs) (H:=H) (H':=H') hl (fun x hx=>by rw [hos] at hx; cases hx)
    have hh':=holeF_local (H':=H') hh fun j g1 g2=>hag j (.inl (mem_upTo.2 ⟨by omega,by omega⟩))
    refine ⟨by simp,fun x hx=>?_,?_⟩
    ·have:x≠q:=fun e=>hx (by rw [e]; exact List.mem_cons_self)
     exact List.getElem?_set_ne (Ne.symm this)
    ·simp only [hos,b0,hps,hg,hh']
     refine ⟨_,rfl,id,rfl,by simpa using hl,fun x hx=>?_,fun x hx=>?_⟩
     ·have:x=q:=by simpa using hx
      subst this
      rw [List.getElem?_set_self hq,List.getElem?_set_self (by omega)]
     ·have:x≠q:=fun e=>hx (by rw [e]; exact List.mem_cons_self)
      exact List.getElem?_set_ne (Ne.symm this)
   ·cases h
  ·cases h
 ·rename_i e he
  split at h
  ·rename_i hsc
   split at h
   ·rename_i ps hps
    split at h
    ·rename_i ob t hg
     injection h with h; subst h
     have hb:toBVs H' vs=some ps:=by
      rw [← hps]
      exact mapO_congr fun u hu=>toBV_local fun q hq=>hag q (.inl (List.mem_flatMap.2 ⟨u,hu,hq⟩))
     refine ⟨rfl,fun q _=>rfl,?_⟩
     simp only [hb,hg]
     exact ⟨_,rfl,id,rfl,hl,fun q hq=>(by cases hq),fun q _=>rfl⟩
    ·cases h
   ·cases h
  ·rename_i hsc
   split at h
   ·rename_i ps hps
    split at h
    ·rename_i ob t hg
     injection h with h; subst h
     obtain ⟨b0,b1,b2,b3⟩:=toPVs_local (vs:=vs) hl fun q hq=>hag q (.inr hq)
     obtain ⟨_,c1,_,c3⟩:=toPVs_local (vs:=vs) (H:=H) (H':=H) rfl fun q _=>rfl
     refine ⟨c1,fun q hq=>(c3 q hq).1,?_⟩
     rw [b0,hps]
     simp only [hg]
     exact ⟨_,rfl,id,rfl,b1,b2,fun q hq=>(b3 q hq).1⟩
    ·cases h
   ·cases h
 ·cases h
theorem calleeOf_local {s s':Nat→T} {a:A} (h:∀ x∈a.opers,ev G s' x=ev G s x):calleeOf G s' a=calleeOf G s a:=by
 cases a
 case call f args =>
  have h':∀ x∈args,ev G s' x=ev G s x:=h
  simp only [calleeOf,map_congr' h']
 case callv f args =>
  have h1:ev G s' f=ev G s f:=h f List.mem_cons_self
  have h':∀ x∈args,ev G s' x=ev G s x:=fun x hx=>h x (List.mem_cons_of_mem _ hx)
  simp only [calleeOf,h1,map_congr' h']
 all_goals rfl
theorem wop_of_fop {a:A} {st:St} {κ:Kt} {r:R} (h:fop B st.hp (ev G st.sl) a=some r) (hob:r.ob) (hk:κ r.val ⟨st.sl,r.hp⟩):wop P G B a st κ:=by
 by_cases hp:a.plain=true
 ·rw [wop_plain hp,h]; exact ⟨hob,hk⟩
 cases a <;> first | (exfalso; exact hp rfl) | skip
 case call=>cases h
 case callv=>cases h
 case rng=>cases h
 case nxt=>cases h
 case ent=>cases h
 case pick c x y =>
  simp only [fop] at h
  split at h
  ·rename_i t e1
   injection h with h; subst h
   simp only [wop,e1,condP]
   cases t
   ·exact ⟨fun e=>by simp at e,fun _=>hk⟩
   ·exact ⟨fun _=>hk,fun e=>by simp at e⟩
  ·cases h
 case eqN ng k x =>
  have h2:=h
  simp only [wop]
  split
  ·rename_i xs e1; simp only [fop,e1] at h; cases h
  ·rename_i r0 sz off len e1; simp only [fop,e1] at h; cases h
  ·rw [h2]; exact ⟨hob,hk⟩
theorem wop_of_call {a:A} {st:St} {κ:Kt} {f:Nat} {vs:List V} (h:calleeOf G st.sl a=some (f,vs)) (hk:ACalls P G f vs st.hp (callK st.sl κ)):wop P G B a st κ:=by
 cases a
 case call f' args =>
  simp only [calleeOf] at h
  split at h
  ·rename_i vs' e
   injection h with h; injection h with h1 h2; subst h1; subst h2
   simp only [wop,e]; exact hk
  ·cases h
 case callv f' args =>
  simp only [calleeOf] at h
  split at h
  ·rename_i f2 caps vs' e1 e2
   injection h with h; injection h with h1 h2; subst h1; subst h2
   simp only [wop,e1,e2]; exact hk
  ·rename_i f2 caps vs' e1 e2
   injection h with h; injection h with h1 h2; subst h1; subst h2
   simp only [wop,e1,e2]; exact hk
  ·cases h
 all_goals cases h
theorem ev_same {s s':Nat→T} {l:List Operand} (h:∀ t∈(l.filterMap fun x=>match x with | .tmp t=>some t | _=>none),s' t=s t):∀ x∈l,ev G s' x=ev G s x:=by
 intro x hx
 cases x with
 | tmp t=>exact h t (List.mem_filterMap.2 ⟨_,hx,rfl⟩)
 | const v=>rfl
 | global g=>rfl
 | func f=>rfl
theorem stepX_other {st:St} {a:A} (h:a.isCall=false):stepX G X B st a=match fop B st.hp (ev G st.sl) a with
  | some r=>some ⟨(foot B (ev G st.sl) a).1,(foot B (ev G st.sl) a).2,r.ob,r.val,r.hp⟩
  | none=>none:=by
 cases a <;> first | rfl | cases h
theorem stepX_call {st:St} {a:A} (h:a.isCall=true):stepX G X B st a=match calleeOf G st.sl a with
  | some (f,vs)=>callF X st.hp f vs
  | none=>none:=by
 cases a <;> first | rfl | cases h
theorem stepX_step1 (hX:GoodX P G X) {o:AOper} {st:St} {s:SR} (h:stepX G X B st o.op=some s) (hob:s.ob)
  (hg:∀ t want,o.guard=some (t,want)→st.sl t = .v (.c (.d (.v (.bool want))))) :
  Step1 P G B o ⟨s.rd,s.wr,s.val,st,(St.mk st.sl s.hp).put o.dst s.val⟩:=by
 have core:s.hp.length=st.hp.length∧(∀ q,q ∉ s.wr→s.hp[q]? = st.hp[q]?)∧∀ st2:St,(∀ x∈o.op.opers,ev G st2.sl x=ev G st.sl x)→st2.hp.length=st.hp.length→(∀ q,q∈s.rd∨q∈s.wr→st2.hp[q]? = st.hp[q]?) →
   ∀ κ:Kt,(∀ H2:List O,H2.length=st.hp.length→(∀ q∈s.wr,H2[q]? = s.hp[q]?)→(∀ q,q ∉ s.wr→H2[q]? = st2.hp[q]?)→κ s.val ⟨st2.sl,H2⟩)→wop P G B o.op st2 κ:=by
  by_cases hc:o.op.isCall=true
  ·rw [stepX_call hc] at h
   split at h
   ·rename_i f vs hcal
    obtain ⟨l1,l2,_⟩:=callF_local h rfl fun q _=>rfl
    refine ⟨l1,l2,fun st2 he hl hag κ hk=>?_⟩
    obtain ⟨_,_,r',g1,g2,g3,g4,g5,g6⟩:=callF_local h hl hag
    refine wop_of_call ((calleeOf_local he).trans hcal) ((callF_sound hX g1 (g2 hob)).mono fun t H2 ⟨e1,e2⟩=>?_)
    subst e1; subst e2
    rw [g3]
    exact hk _ g4 g5 g6
   ·cases h
  ·rw [stepX_other (by simpa using hc)] at h
   split at h
   ·rename_i r hr
    injection h with h; subst h
    obtain ⟨r0,q1,q2,q3,q4,q5,q6⟩:=fop_local hr rfl fun q _=>rfl
    rw [hr] at q1; injection q1 with q1; subst q1
    refine ⟨q4,q6,fun st2 he hl hag κ hk=>?_⟩
    obtain ⟨r',g1,g2,g3,g4,g5,g6⟩:=fop_local hr hl hag
    rw [← fop_opers he] at g1
    exact wop_of_fop g1 (g2 hob) (by rw [g3]; exact hk _ g4 g5 g6)
   ·cases h
 obtain ⟨l1,l2,loc⟩:=core
 refine ⟨fun t=>by rw [put_slot],by rw [put_hp]; exact l1,fun q hq=>by rw [put_hp]; exact l2 q hq,fun st2 ht hl hag κ hk=>?_⟩
 have he:∀ x∈o.op.opers,ev G st2.sl x=ev G st.sl x:=ev_same fun t h'=>ht t (List.mem_append_left _ h')
 have run:wop P G B o.op st2 fun t s'=>κ (s'.put o.dst t):=loc st2 he hl hag _ fun H2 a1 a2 a3=>hk _ (fun t hd=>by rw [put_slot,if_pos hd]) (fun t hd=>by rw [put_slot,if_neg hd]) (by rw [put_hp]; exact a1)
  (fun q hq=>by rw [put_hp,put_hp]; exact a2 q hq) (fun q hq=>by rw [put_hp]; exact a3 q hq)
 unfold wone
 split
 ·exact run
 ·rename_i t want hgd
  have:st2.sl t = .v (.c (.d (.v (.bool want)))):=by
   rw [ht t (by unfold tmpsOf; rw [hgd]; simp)]; exact hg t want hgd
  unfold condW
  rw [this]
  exact ⟨fun _=>run,fun e=>by cases want <;> simp at e⟩
theorem skip_step1 {o:AOper} {st:St} {t:Nat} {want b:Bool} (hgd:o.guard=some (t,want)) (ht:st.sl t = .v (.c (.d (.v (.bool b))))) (hb:b≠want) :
  Step1 P G B o ⟨[],[],.tup [],st,st.put o.dst (.tup [])⟩:=by
 refine ⟨fun t=>by rw [put_slot],by rw [put_hp],fun q hq=>by rw [put_hp],fun st2 hs hl hag κ hk=>?_⟩
 have h2:st2.sl t = .v (.c (.d (.v (.bool b)))):=by
  rw [hs t (by unfold tmpsOf; rw [hgd]; simp)]; exact ht
 unfold wone
 rw [hgd]
 show condW _ _ _ _
 unfold condW
 rw [h2]
 refine ⟨fun e=>absurd e hb,fun e=>hk _ (fun t hd=>by rw [put_slot,if_pos hd]) (fun t hd=>by rw [put_slot,if_neg hd]) (by rw [put_hp]; exact hl) (fun q hq=>by cases hq) (fun q hq=>by rw [put_hp])⟩
theorem skip_stepU {o:AOper} {st:St} {t:Nat} {want:Bool} (hgd:o.guard=some (t,want)) (ht:st.sl t = .tup []) :
  Step1 P G B o ⟨[],[],.tup [],st,st.put o.dst (.tup [])⟩:=by
 refine ⟨fun t=>by rw [put_slot],by rw [put_hp],fun q hq=>by rw [put_hp],fun st2 hs hl hag κ hk=>?_⟩
 have h2:st2.sl t = .tup []:=by
  rw [hs t (by unfold tmpsOf; rw [hgd]; simp)]; exact ht
 unfold wone
 rw [hgd]
 show condW _ _ _ _
 unfold condW
 rw [h2]
 exact hk _ (fun t hd=>by rw [put_slot,if_pos hd]) (fun t hd=>by rw [put_slot,if_neg hd]) (by rw [put_hp]; exact hl) (fun q hq=>by cases hq) (fun q hq=>by rw [put_hp])
def Runs (P:Program) (G:Gl) (B:Nat) (cl:List (List Nat)):Nat→List AOper→List (Nat×List Nat)→List (Nat×List Nat)→St→List Rec→St→Prop
 | _,[],_,_,st,L,sE=>L=[]∧sE=st
 | i,o :: r,Ws,Rs,st,L,sE=>∃ c L',L=c :: L'∧c.pre=st∧Step1 P G B o c∧apW cl i (c.rd ++ c.wr) Ws∧apW cl i c.wr Rs∧Runs P G B cl (i+1) r (addH i c.wr Ws) (addH i c.rd Rs) c.post L' sE
theorem apW_nil (cl:List (List Nat)) (i:Nat) (h:List (Nat×List Nat)):apW cl i [] h:=by cases h <;> trivial
theorem wlex_runs (hX:GoodX P G X) {cl:List (List Nat)}:∀ {ops:List AOper} {i:Nat} {Ws Rs:List (Nat×List Nat)} {st:St} {k:St→Prop},wlex G X B cl i ops Ws Rs st k→∃ L sE,k sE∧Runs P G B cl i ops Ws Rs st L sE
 | [],i,Ws,Rs,st,k,h=>⟨[],st,h,rfl,rfl⟩
 | o :: r,i,Ws,Rs,st,k,h=>by
  have go:∀ (hg:∀ t want,o.guard=some (t,want)→st.sl t = .v (.c (.d (.v (.bool want))))),(match stepX G X B st o.op with
   | some s=>s.ob∧apW cl i (s.rd ++ s.wr) Ws∧apW cl i s.wr Rs∧wlex G X B cl (i+1) r (addH i s.wr Ws) (addH i s.rd Rs) ((St.mk st.sl s.hp).put o.dst s.val) k
   | none=>False)→∃ L sE,k sE∧Runs P G B cl i (o :: r) Ws Rs st L sE:=by
   intro hg h
   split at h
   ·rename_i s hs
    obtain ⟨hob,h1,h2,h3⟩:=h
    obtain ⟨L,sE,hk,hr⟩:=wlex_runs hX h3
    exact ⟨_,sE,hk,_,L,rfl,rfl,stepX_step1 hX hs hob hg,h1,h2,hr⟩
   ·exact h.elim
  simp only [wlex] at h
  split at h
  ·rename_i hgd
   exact go (fun t want e=>by rw [hgd] at e; cases e) h
  ·rename_i t want hgd
   unfold condW at h
   split at h
   ·rename_i b hb
    by_cases e:b=want
    ·subst e
     exact go (fun t' want' e'=>by rw [hgd] at e'; injection e' with e'; injection e' with e1 e2; subst e1; subst e2; exact hb) (h.1 rfl)
    ·have h':=h.2 (by cases b <;> cases want <;> simp_all)
     obtain ⟨L,sE,hk,hr⟩:=wlex_runs hX h'
     exact ⟨_,sE,hk,_,L,rfl,rfl,skip_step1 hgd hb e,apW_nil _ _ _,apW_nil _ _ _,hr⟩
   ·rename_i hb
    obtain ⟨L,sE,hk,hr⟩:=wlex_runs hX h
    exact ⟨_,sE,hk,_,L,rfl,rfl,skip_stepU hgd hb,apW_nil _ _ _,apW_nil _ _ _,hr⟩
   ·exact h.elim
theorem apW_mem {cl:List (List Nat)} {i:Nat}:∀ {rw:List Nat} {h:List (Nat×List Nat)},apW cl i rw h→∀ {j:Nat} {wr:List Nat},(j,wr)∈h→ordB cl j i=true∨∀ x∈wr,x ∉ rw
 | [],h,_,j,wr,hm=>.inr fun x _ hx=>(by cases hx)
 | q :: rw,(j',wr') :: h,⟨h1,h2⟩,j,wr,hm=>by
  rcases List.mem_cons.1 hm with e | hm
  ·injection e with e1 e2; subst e1; subst e2; exact h1
  ·exact apW_mem h2 hm
theorem mem_addH {i j:Nat} {l wr:List Nat} {h:List (Nat×List Nat)}:(j,wr)∈h→(j,wr)∈addH i l h:=by
 intro hm; cases l with
 | nil=>exact hm
 | cons q l=>exact List.mem_cons_of_mem _ hm
theorem self_addH {i:Nat} {l:List Nat} {h:List (Nat×List Nat)}:l=[]∨(i,l)∈addH i l h:=by
 cases l with
 | nil=>exact .inl rfl
 | cons q l=>exact .inr List.mem_cons_self
theorem runs_spec {cl:List (List Nat)}:∀ {ops:List AOper} {i:Nat} {Ws Rs:List (Nat×List Nat)} {st:St} {L:List Rec} {sE:St},Runs P G B cl i ops Ws Rs st L sE →
  L.length=ops.length∧(∀ (m:Nat) o c,ops[m]? = some o→L[m]? = some c→Step1 P G B o c) ∧
  (∀ (m:Nat) c,L[m]? = some c→(∀ j wr,(j,wr)∈Ws→ordB cl j (i+m)=true∨∀ x∈wr,x ∉ c.rd ++ c.wr)∧(∀ j wr,(j,wr)∈Rs→ordB cl j (i+m)=true∨∀ x∈wr,x ∉ c.wr)) ∧
  (∀ (m m':Nat) c c',m'<m→L[m]? = some c→L[m']? = some c'→ordB cl (i+m') (i+m)=true∨((∀ x∈c'.wr,x ∉ c.rd ++ c.wr)∧∀ x∈c'.rd,x ∉ c.wr)) ∧
  (∀ c,L[0]? = some c→c.pre=st)∧(∀ (m:Nat) c c',L[m]? = some c→L[m+1]? = some c'→c'.pre=c.post)∧(∀ c,L.getLast? = some c→sE=c.post)∧(L=[]→sE=st)
 | [],i,Ws,Rs,st,L,sE,⟨h1,h2⟩=>by
  subst h1; subst h2
  exact ⟨rfl,fun m o c h=>by simp at h,fun m c h=>by simp at h,fun m m' c c' _ h=>by simp at h,fun c h=>by simp at h,fun m c c' h=>by simp at h,fun c h=>by simp at h,fun _=>rfl⟩
 | o :: r,i,Ws,Rs,st,L,sE,⟨c,L',hL,hpre,hs,ha,hb,hr⟩=>by
  subst hL
  obtain ⟨g1,g2,g3,g4,g5,g6,g7,g8⟩:=runs_spec hr
  refine ⟨by simp [g1],fun m o' c' ho hc=>?_,fun m c' hc=>?_,fun m m' c1 c2 hlt h1 h2=>?_,fun c' hc=>?_,fun m c1 c2 h1 h2=>?_,fun c' hc=>?_,fun e=>by cases e⟩
  ·cases m with
   | zero=>simp at ho hc; subst ho; subst hc; exact hs
   | succ m=>exact g2 m o' c' (by simpa using ho) (by simpa using hc)
  ·cases m with
   | zero =>
    simp at hc; subst hc
    exact ⟨fun j wr hm=>apW_mem ha hm,fun j wr hm=>apW_mem hb hm⟩
   | succ m =>
    obtain ⟨q1,q2⟩:=g3 m c' (by simpa using hc)
    rw [show i+(m+1)=i+1+m by omega]
    exact ⟨fun j wr hm=>q1 j wr (mem_addH hm),fun j wr hm=>q2 j wr (mem_addH hm)⟩
  ·cases m with
   | zero=>omega
   | succ m =>
    have h1':L'[m]? = some c1:=by simpa using h1
    cases m' with
    | zero =>
     simp at h2; subst h2
     obtain ⟨q1,q2⟩:=g3 m c1 h1'
     rw [show i+(m+1)=i+1+m by omega,Nat.add_zero]
     have e1:ordB cl i (i+1+m)=true∨∀ x∈c.wr,x ∉ c1.rd ++ c1.wr:=by
      rcases self_addH (i:=i) (l:=c.wr) (h:=Ws) with e | e
      ·exact .inr fun x hx=>by rw [e] at hx; cases hx
      ·exact q1 _ _ e
     have e2:ordB cl i (i+1+m)=true∨∀ x∈c.rd,x ∉ c1.wr:=by
      rcases self_addH (i:=i) (l:=c.rd) (h:=Rs) with e | e
      ·exact .inr fun x hx=>by rw [e] at hx; cases hx
      ·exact q2 _ _ e
     rcases e1 with e1 | e1
     ·exact .inl e1
     ·rcases e2 with e2 | e2
      ·exact .inl e2
      ·exact .inr ⟨e1,e2⟩
    | succ m' =>
     have:=g4 m m' c1 c2 (by omega) h1' (by simpa using h2)
     rw [show i+(m+1)=i+1+m by omega,show i+(m'+1)=i+1+m' by omega]
     exact this
  ·simp at hc; subst hc; exact hpre
  ·cases m with
   | zero =>
    simp at h1; subst h1
    exact g5 c2 (by simpa using h2)
   | succ m=>exact g6 m c1 c2 (by simpa using h1) (by simpa using h2)
  ·cases L' with
   | nil=>simp at hc; subst hc; exact g8 rfl
   | cons x l =>
    rw [List.getLast?_cons_cons] at hc
    exact g7 c' hc
theorem wlex_sound (hX:GoodX P G X) {ops:List AOper} {after:List (List Nat)} {s0:St} {k:St→Prop} (hok:drawOk (clos after) ops after=true)
  (h:wlex G X B (clos after) 0 ops [] [] s0 k):wAny P G B ops after after.length [] s0 k:=by
 obtain ⟨L,sE,hk,hr⟩:=wlex_runs hX h
 obtain ⟨g1,g2,_,g4,g5,g6,g7,g8⟩:=runs_spec hr
 unfold drawOk at hok
 simp only [Bool.and_eq_true,beq_iff_eq] at hok
 obtain ⟨⟨hl,hac⟩,hsl⟩:=hok
 let E:Eff:=⟨fun i=>(ops[i]?).bind (·.dst),fun i=>match L[i]? with | some c=>c.val | none=>.v .any,fun i q=>∃ c,L[i]? = some c∧q∈c.wr,fun i q=>match L[i]? with | some c=>c.post.hp[q]? | none=>none⟩
 have hat:∀ i,i≤ops.length→(∀ c,L[i]? = some c→(∀ t,slAt E s0 (fun _=>True) i t=c.pre.sl t)∧(∀ q,hpAt E s0 (fun _=>True) i q=c.pre.hp[q]?)∧c.pre.hp.length=s0.hp.length) ∧
   (i=ops.length→(∀ t,slAt E s0 (fun _=>True) i t=sE.sl t)∧(∀ q,hpAt E s0 (fun _=>True) i q=sE.hp[q]?)∧sE.hp.length=s0.hp.length):=by
  intro i
  induction i with
  | zero =>
   intro _
   refine ⟨fun c hc=>?_,fun e=>?_⟩
   ·rw [g5 c hc]; exact ⟨fun t=>rfl,fun q=>rfl,rfl⟩
   ·have:L=[]:=List.eq_nil_of_length_eq_zero (by rw [g1]; exact e.symm)
    rw [g8 this]; exact ⟨fun t=>rfl,fun q=>rfl,rfl⟩
  | succ i ih =>
   intro hi
   have hil:i<ops.length:=by omega
   have hLi:L[i]? = some (L[i]'(by omega)):=by simp
   have hoi:ops[i]? = some ops[i]:=by simp
   obtain ⟨p1,p2,p3⟩:=(ih (by omega)).1 _ hLi
   have hs:=g2 i _ _ hoi hLi
   have post:(∀ t,slAt E s0 (fun _=>True) (i+1) t=(L[i]'(by omega)).post.sl t)∧(∀ q,hpAt E s0 (fun _=>True) (i+1) q=(L[i]'(by omega)).post.hp[q]?)∧(L[i]'(by omega)).post.hp.length=s0.hp.length:=by
    refine ⟨fun t=>?_,fun q=>?_,by rw [hs.len]; exact p3⟩
    ·unfold slAt
     rw [hs.slot t,p1 t]
     have e:E.dst i=ops[i].dst:=by simp [E,hoi]
     have e2:E.val i=(L[i]'(by omega)).val:=by simp [E,hLi]
     rw [e,e2]
     by_cases q:ops[i].dst=some t
     ·rw [if_pos ⟨trivial,q⟩,if_pos q]
     ·rw [if_neg (fun x=>q x.2),if_neg q]
    ·unfold hpAt
     have e:E.wr i q↔q∈(L[i]'(by omega)).wr:=by simp only [E,hLi]; exact ⟨fun ⟨c,h1,h2⟩=>by injection h1 with h1; rw [h1]; exact h2,fun h=>⟨_,rfl,h⟩⟩
     have e2:E.obj i q=(L[i]'(by omega)).post.hp[q]? := by simp [E,hLi]
     by_cases hq:q∈(L[i]'(by omega)).wr
     ·rw [if_pos ⟨trivial,e.2 hq⟩,e2]
     ·rw [if_neg (fun x=>hq (e.1 x.2)),p2 q,hs.out q hq]
   refine ⟨fun c hc=>?_,fun e=>?_⟩
   ·rw [g6 i _ c hLi hc]; exact post
   ·have:L.getLast? = some (L[i]'(by omega)):=by
     have e9:L.length-1=i:=by omega
     rw [List.getLast?_eq_getElem?,e9]; exact hLi
    rw [g7 _ this]; exact post
 let rs:Nat→Nat→Prop:=fun i t=>∃ o,ops[i]? = some o∧t∈tmpsOf o
 let rd:Nat→Nat→Prop:=fun i q=>∃ c,L[i]? = some c∧q∈c.rd
 have hbo:∀ j i,before after j i=ordB (clos after) j i:=fun j i=>rfl
 have calm:Calm P G B ops after s0 E rs rd:=by
  refine ⟨fun i j hji hi hb=>?_,fun i o ho st hst hlen hhp κ hκ=>?_⟩
  ·have hoi:ops[i]? = some ops[i]:=by simp
   have hoj:ops[j]? = some (ops[j]'(by omega)):=by simp
   have hLi:L[i]? = some (L[i]'(by omega)):=by simp
   have hLj:L[j]? = some (L[j]'(by omega)):=by simp
   have h1:=List.all_eq_true.1 hsl i (by simpa using hi)
   have h2:=List.all_eq_true.1 h1 j (by simpa using hji)
   rw [← hbo,hb,hoi,hoj] at h2
   simp only [Bool.false_or,Bool.and_eq_true] at h2
   have h3:=g4 i j _ _ hji hLi hLj
   rw [Nat.zero_add,Nat.zero_add,← hbo,hb] at h3
   have h3:=h3.resolve_left (by simp)
   have ed:∀ m (hm:m<ops.length),E.dst m=ops[m].dst:=fun m hm=>by simp [E,hm]
   refine ⟨fun t ht=>?_,fun t ht=>?_,fun q hq=>?_,fun q hq=>?_⟩
   ·rw [ed j (by omega)] at ht
    have q:=h2.1
    rw [ht] at q
    simp only [Bool.and_eq_true,Bool.not_eq_true',bne_iff_ne,ne_eq] at q
    refine ⟨fun ⟨o,ho,hm⟩=>?_,by rw [ed i hi]; exact q.2⟩
    rw [hoi] at ho; injection ho with ho; subst ho
    have:=q.1
    rw [List.contains_eq_mem,decide_eq_false_iff_not] at this
    exact this hm
   ·rw [ed i hi] at ht
    have q:=h2.2
    rw [ht] at q
    simp only [Bool.not_eq_true'] at q
    rintro ⟨o,ho,hm⟩
    rw [hoj] at ho; injection ho with ho; subst ho
    rw [List.contains_eq_mem,decide_eq_false_iff_not] at q
    exact q hm
   ·obtain ⟨c,hc,hm⟩:=hq
    rw [hLj] at hc; injection hc with hc; subst hc
    have:=h3.1 q hm
    refine ⟨fun ⟨c,hc,hm'⟩=>?_,fun ⟨c,hc,hm'⟩=>?_⟩
    ·rw [hLi] at hc; injection hc with hc; subst hc
     exact this (List.mem_append_left _ hm')
    ·rw [hLi] at hc; injection hc with hc; subst hc
     exact this (List.mem_append_right _ hm')
   ·obtain ⟨c,hc,hm⟩:=hq
    rw [hLi] at hc; injection hc with hc; subst hc
    rintro ⟨c,hc,hm'⟩
    rw [hLj] at hc; injection hc with hc; subst hc
    exact h3.2 q hm' hm
  ·have hi:i<ops.length:=lt_of_get ho
   have hLi:L[i]? = some (L[i]'(by omega)):=by simp
   obtain ⟨p1,p2,p3⟩:=(hat i (by omega)).1 _ hLi
   have hs:=g2 i o _ ho hLi
   have ed:E.dst i=o.dst:=by simp [E,ho]
   have ev':E.val i=(L[i]'(by omega)).val:=by simp [E,hLi]
   refine hs.loc st (fun t ht=>by rw [hst t ⟨o,ho,ht⟩,p1 t]) (by rw [hlen,p3]) (fun q hq=>?_) κ fun st' a1 a2 a3 a4 a5=>?_
   ·rw [hhp q ?_,p2 q]
    rcases hq with hq | hq
    ·exact .inl ⟨_,hLi,hq⟩
    ·exact .inr ⟨_,hLi,hq⟩
   ·refine hκ st' (fun t ht=>?_) (fun t ht=>?_) (by rw [a3,p3]) (fun q hq=>?_) (fun q hq=>?_)
    ·rw [ev']; exact a1 t (by rw [← ed]; exact ht)
    ·exact a2 t (by rw [← ed]; exact ht)
    ·obtain ⟨c,hc,hm⟩:=hq
     rw [hLi] at hc; injection hc with hc; subst hc
     rw [a4 q hm]; simp [E,hLi]
    ·exact a5 q fun hm=>hq ⟨_,hLi,hm⟩
 have hfin:∀ st,At E s0 ops.length (fun _=>True) st→k st:=by
  intro st hA
  obtain ⟨p1,p2,p3⟩:=(hat ops.length (Nat.le_refl _)).2 rfl
  have:st=sE:=by
   have e1:st.sl=sE.sl:=funext fun t=>by rw [hA.sl t,p1 t]
   have e2:st.hp=sE.hp:=List.ext_getElem? fun q=>by rw [hA.hp q,p2 q]
   cases st; cases sE; simp only at e1 e2; rw [e1,e2]
  rw [this]; exact hk
 refine calm_any calm hl hac hfin after.length [] s0 ⟨fun t=>?_,rfl,fun r=>?_⟩ (fun x hx=>by cases hx) List.nodup_nil (fun x hx=>by cases hx) (by simpa using hl)
 ·have:∀ n,slAt E s0 (fun i=>i∈([]:List Nat)) n t=s0.sl t:=fun n=>by
   rw [slAt_top (i:=0) n (by omega) (fun j _ _ hj=>by cases hj)]; rfl
  rw [this]
 ·have:∀ n,hpAt E s0 (fun i=>i∈([]:List Nat)) n r=s0.hp[r]? := fun n=>by
   rw [hpAt_top (i:=0) n (by omega) (fun j _ _ hj=>by cases hj)]; rfl
  rw [this]
theorem wcodeX_sound (hX:GoodX P G X) {N0:Nat}:∀ {c:AC} {st:St} {Q:Qt},wcodeX P G X N0 c st Q→wcode P G N0 c st Q
 | .skip,st,Q,h=>h
 | .region n ops,st,Q,h=>wopsX_sound hX h
 | .dregion n ops after,st,Q,h=>wlex_sound hX h.1 h.2
 | .seq x y,st,Q,h=>wcode_mono (c:=x) (Q:=thenQ (wcodeX P G X N0 y) Q) (fun e s q=>by
   cases e with
   | normal=>exact wcodeX_sound hX (c:=y) q
   | exit i=>exact q
   | ret=>exact q) (wcodeX_sound hX (c:=x) h)
 | .cond c x y,st,Q,h=>condP_mono h (wcodeX_sound hX) (wcodeX_sound hX)
 | .block id x,st,Q,h=>wcodeX_sound hX (c:=x) h
 | .loop x,st,Q,h=>by
   obtain ⟨I,μ,h1,h2⟩:=h
   exact ⟨I,μ,h1,fun s hs=>wcodeX_sound hX (c:=x) (h2 s hs)⟩
 | .exit id,st,Q,h=>h
 | .ret,st,Q,h=>h
end
section
variable {P:Program} {G:Gl} {X:XT}
theorem wopsX_mono {B:Nat}:∀ {l:List AOper} {st:St} {k k':St→Prop},(∀ s,k s→k' s)→wopsX P G X B l st k→wopsX P G X B l st k'
 | [],st,k,k',hk,h=>hk _ h
 | o :: r,st,k,k',hk,h=>by
  simp only [wopsX] at h ⊢
  cases hg:o.guard with
  | none=>rw [hg] at h; exact wopX_mono (fun t s q=>wopsX_mono hk q) h
  | some p=>rw [hg] at h; exact condW_mono h (wopX_mono fun t s q=>wopsX_mono hk q) (wopsX_mono hk)
theorem wlex_mono {B:Nat} {cl:List (List Nat)}:∀ {l:List AOper} {i:Nat} {Ws Rs:List (Nat×List Nat)} {st:St} {k k':St→Prop},(∀ s,k s→k' s)→wlex G X B cl i l Ws Rs st k→wlex G X B cl i l Ws Rs st k'
 | [],i,Ws,Rs,st,k,k',hk,h=>hk _ h
 | o :: r,i,Ws,Rs,st,k,k',hk,h=>by
  have go:(match stepX G X B st o.op with
   | some s=>s.ob∧apW cl i (s.rd ++ s.wr) Ws∧apW cl i s.wr Rs∧wlex G X B cl (i+1) r (addH i s.wr Ws) (addH i s.rd Rs) ((St.mk st.sl s.hp).put o.dst s.val) k
   | none=>False)→(match stepX G X B st o.op with
   | some s=>s.ob∧apW cl i (s.rd ++ s.wr) Ws∧apW cl i s.wr Rs∧wlex G X B cl (i+1) r (addH i s.wr Ws) (addH i s.rd Rs) ((St.mk st.sl s.hp).put o.dst s.val) k'
   | none=>False):=by
   intro h
   cases hs:stepX G X B st o.op with
   | none=>rw [hs] at h; exact h.elim
   | some s=>rw [hs] at h; exact ⟨h.1,h.2.1,h.2.2.1,wlex_mono hk h.2.2.2⟩
  simp only [wlex] at h ⊢
  cases hg:o.guard with
  | none=>rw [hg] at h; exact go h
  | some p=>rw [hg] at h; exact condW_mono h go (wlex_mono hk)
theorem wcodeX_mono {N0:Nat}:∀ {c:AC} {st:St} {Q Q':Qt},(∀ e s,Q e s→Q' e s)→wcodeX P G X N0 c st Q→wcodeX P G X N0 c st Q'
 | .skip,st,Q,Q',hq,h=>hq _ _ h
 | .region n ops,st,Q,Q',hq,h=>wopsX_mono (fun s q=>hq _ _ q) h
 | .dregion n ops after,st,Q,Q',hq,h=>⟨h.1,wlex_mono (fun s q=>hq _ _ q) h.2⟩
 | .seq x y,st,Q,Q',hq,h=>by
   show wcodeX P G X N0 x st (thenQ (wcodeX P G X N0 y) Q')
   refine wcodeX_mono (c:=x) (Q:=thenQ (wcodeX P G X N0 y) Q) (fun e s q=>?_) h
   cases e with
   | normal=>exact wcodeX_mono (c:=y) hq q
   | exit i=>exact hq _ _ q
   | ret=>exact hq _ _ q
 | .cond c x y,st,Q,Q',hq,h=>condP_mono h (wcodeX_mono hq) (wcodeX_mono hq)
 | .block id x,st,Q,Q',hq,h=>by
   show wcodeX P G X N0 x st (blockQ id Q')
   refine wcodeX_mono (c:=x) (Q:=blockQ id Q) (fun e s q=>?_) h
   cases e with
   | normal=>exact hq _ _ q
   | exit i =>
    show if i=id then Q' .normal s else Q' (.exit i) s
    have q:if i=id then Q .normal s else Q (.exit i) s:=q
    split
    ·rename_i e; rw [if_pos e] at q; exact hq _ _ q
    ·rename_i e; rw [if_neg e] at q; exact hq _ _ q
   | ret=>exact hq _ _ q
 | .loop x,st,Q,Q',hq,h=>by
   obtain ⟨I,μ,h1,h2⟩:=h
   refine ⟨I,μ,h1,fun s hs=>wcodeX_mono (fun e s' q=>?_) (h2 s hs)⟩
   cases e with
   | normal=>exact q
   | exit i=>exact hq _ _ q
   | ret=>exact hq _ _ q
 | .exit id,st,Q,Q',hq,h=>hq _ _ h
 | .ret,st,Q,Q',hq,h=>hq _ _ h
open Classical in
theorem loopX {N0:Nat} {x:AC} {st:St} {Q:Qt} (I:Nat→St→Prop) (h0:wk P G N0 st fun s=>∃ k,I k s)
  (h:∀ k s,I k s→wcodeX P G X N0 x s (loopN P G N0 I k Q)):wcodeX P G X N0 (.loop x) st Q:=by
 let J:St→Prop:=fun s=>∃ k,I k s
 have hleast:∀ s,J s→∃ k,I k s∧∀ k',I k' s→k≤k':=by
  rintro s ⟨k,hk⟩
  induction k using Nat.strongRecOn with
  | _ k ih =>
   by_cases hx:∃ k',k'<k∧I k' s
   ·obtain ⟨k',h1,h2⟩:=hx; exact ih k' h1 h2
   ·refine ⟨k,hk,fun k' hk'=>Nat.le_of_not_lt fun hl=>hx ⟨k',hl,hk'⟩⟩
 let μ:St→Nat:=fun s=>if hs:J s then Classical.choose (hleast s hs) else 0
 have hμ:∀ s,J s→I (μ s) s∧∀ k',I k' s→μ s≤k':=fun s hs=>by
  have:=Classical.choose_spec (hleast s hs)
  simp only [μ,dif_pos hs]; exact this
 show loopW P G N0 (wcodeX P G X N0 x) st Q
 refine ⟨J,μ,h0,fun s hs=>?_⟩
 refine wcodeX_mono (fun e s' q=>?_) (h (μ s) s (hμ s hs).1)
 cases e with
 | normal=>exact wk_mono (fun s'' ⟨k',h1,h2⟩=>⟨⟨k',h2⟩,Nat.lt_of_le_of_lt ((hμ s'' ⟨k',h2⟩).2 k' h2) h1⟩) q
 | exit i=>exact q
 | ret=>exact q
theorem acallsX {tt:TT} (hX:GoodX P G X) (htab:tabB P tt=true) (hmix:P.follows .mixedOrders=true) {f:Nat} {fn:Func} {af:AF} (hf:P.funcs[f]? = some fn) (hc:compF tt fn=some af) {args:List V} {H:List O} {R:T→List O→Prop} (hn:Nat.ble args.length af.n=true)
  (h:Wf H→wcodeX P G X H.length af.body ⟨argSl args,H⟩ (retQ P H.length af.res R)):ACalls P G f args H R :=
 acalls_pre htab hmix hf hc hn fun hw=>wcodeX_sound hX (h hw)
end
variable {P:Program} {G:Gl}
theorem callable_of {f:Nat} {fn:Func} (hf:P.funcs[f]? = some fn) (h1:fn.body.isNone=false) (h2:(fn.name == "runtime.NumGoroutine")=false):Callable P f:=⟨fn,hf,h1,h2⟩
theorem fin_here {N0:Nat} {R:T→List O→Prop} {t:T} {H:List O} (hN:N0≤H.length) (h:R t H):Fin P N0 R t H :=
 ⟨t,H,⟨hN,fun ρ w v hH ht=>⟨ρ,hH,ht,fun _ _=>rfl,fun _ h=>h⟩⟩,h⟩
section
variable {P:Program} {G:Gl} {X:XT} {N0:Nat}
theorem wX_skip {st:St} {Q:Qt}:wcodeX P G X N0 .skip st Q=Q .normal st:=rfl
theorem wX_region {n:Nat} {ops:List AOper} {st:St} {Q:Qt}:wcodeX P G X N0 (.region n ops) st Q=wopsX P G X st.hp.length ops (holes n st) (normQ Q):=rfl
theorem wX_dregion {n:Nat} {ops:List AOper} {after:List (List Nat)} {st:St} {Q:Qt} :
  wcodeX P G X N0 (.dregion n ops after) st Q=(drawOk (clos after) ops after=true∧wlex G X st.hp.length (clos after) 0 ops [] [] (holes n st) (normQ Q)):=rfl
theorem wX_seq {x y:AC} {st:St} {Q:Qt}:wcodeX P G X N0 (.seq x y) st Q=wcodeX P G X N0 x st (thenQ (wcodeX P G X N0 y) Q):=rfl
def condC (P:Program) (G:Gl) (X:XT) (N0:Nat) (v:T) (x y:AC) (st:St) (Q:Qt):Prop:=condP v (wcodeX P G X N0 x st Q) (wcodeX P G X N0 y st Q)
theorem wX_cond {c:Operand} {x y:AC} {st:St} {Q:Qt}:wcodeX P G X N0 (.cond c x y) st Q=condC P G X N0 (ev G st.sl c) x y st Q:=rfl
@[simp] theorem condC_t {x y:AC} {st:St} {Q:Qt}:condC P G X N0 (.v (.c (.d (.v (.bool true))))) x y st Q=wcodeX P G X N0 x st Q:=by simp [condC,condP]
@[simp] theorem condC_f {x y:AC} {st:St} {Q:Qt}:condC P G X N0 (.v (.c (.d (.v (.bool false))))) x y st Q=wcodeX P G X N0 y st Q:=by simp [condC,condP]
theorem condC_b {b:Bool} {x y:AC} {st:St} {Q:Qt}:condC P G X N0 (.v (.c (.d (.v (.bool b))))) x y st Q=((b=true→wcodeX P G X N0 x st Q)∧(b=false→wcodeX P G X N0 y st Q)):=by simp [condC,condP]
theorem wX_block {id:Nat} {x:AC} {st:St} {Q:Qt}:wcodeX P G X N0 (.block id x) st Q=wcodeX P G X N0 x st (blockQ id Q):=rfl
theorem wX_exit {id:Nat} {st:St} {Q:Qt}:wcodeX P G X N0 (.exit id) st Q=Q (.exit id) st:=rfl
theorem wX_ret {st:St} {Q:Qt}:wcodeX P G X N0 .ret st Q=Q .ret st:=rfl
theorem thenQ_n {F:St→Qt→Prop} {Q:Qt} {s:St}:thenQ F Q .normal s=F s Q:=rfl
theorem thenQ_x {F:St→Qt→Prop} {Q:Qt} {s:St} {i:Nat}:thenQ F Q (.exit i) s=Q (.exit i) s:=rfl
theorem thenQ_r {F:St→Qt→Prop} {Q:Qt} {s:St}:thenQ F Q .ret s=Q .ret s:=rfl
theorem blockQ_n {id:Nat} {Q:Qt} {s:St}:blockQ id Q .normal s=Q .normal s:=rfl
theorem blockQ_x {id i:Nat} {Q:Qt} {s:St}:blockQ id Q (.exit i) s=if i=id then Q .normal s else Q (.exit i) s:=rfl
theorem blockQ_r {id:Nat} {Q:Qt} {s:St}:blockQ id Q .ret s=Q .ret s:=rfl
theorem loopN_x {I:Nat→St→Prop} {k i:Nat} {Q:Qt} {s:St}:loopN P G N0 I k Q (.exit i) s=Q (.exit i) s:=rfl
theorem loopN_r {I:Nat→St→Prop} {k:Nat} {Q:Qt} {s:St}:loopN P G N0 I k Q .ret s=Q .ret s:=rfl
theorem loopN_n {I:Nat→St→Prop} {k:Nat} {Q:Qt} {s:St}:loopN P G N0 I k Q .normal s=wk P G N0 s fun s''=>∃ k',k'<k∧I k' s'':=rfl
theorem wk_pre {H L:List O} {sl:Nat→T} {K:St→Prop} (ids keep:List Nat) (hw:Wf H) (hm:selB ids L.length=true)
  (h:K ⟨ofL (keep.map fun t=>(t,(sl t).ren (phiP H.length ids))),H ++ ids.map fun i=>(L.getD i .dead).ren (phiP H.length ids)⟩):wk P G H.length ⟨sl,H ++ L⟩ K :=
 ⟨_,weak_pre ids keep hw hm,h⟩
theorem wk_nil {L:List O} {sl:Nat→T} {K:St→Prop} (ids keep:List Nat) (hm:selB ids L.length=true)
  (h:K ⟨ofL (keep.map fun t=>(t,(sl t).ren (phi ids))),ids.map fun i=>(L.getD i .dead).ren (phi ids)⟩):wk P G 0 ⟨sl,L⟩ K :=
 ⟨_,weak_sel (N0:=0) (st:=⟨sl,L⟩) ids keep hm (keeps_zero _) (Nat.zero_le _),h⟩
theorem wk_weak {s s':St} {K:St→Prop} (hw:Weak P G N0 s s') (h:wk P G N0 s' K):wk P G N0 s K:=by
 obtain ⟨s2,a,b⟩:=h; exact ⟨s2,hw.trans a,b⟩
theorem app_get0 {H L:List O}:(H ++ L)[H.length]? = L[0]? := by rw [List.getElem?_append_right (Nat.le_refl _),Nat.sub_self]
theorem app_get {H L:List O} (k:Nat):(H ++ L)[H.length+k]? = L[k]? := by rw [List.getElem?_append_right (by omega),Nat.add_sub_cancel_left]
theorem app_set0 {H L:List O} {o:O}:(H ++ L).set H.length o=H ++ L.set 0 o:=by rw [List.set_append_right _ _ (Nat.le_refl _),Nat.sub_self]
theorem app_set {H L:List O} {o:O} (k:Nat):(H ++ L).set (H.length+k) o=H ++ L.set k o:=by rw [List.set_append_right _ _ (by omega),Nat.add_sub_cancel_left]
theorem phiP_0 {N:Nat} {ids:List Nat}:phiP N ids N=match phi ids 0 with | some i=>some (N+i) | none=>none:=by simp only [phiP,Nat.lt_irrefl,if_false,Nat.sub_self] <;> cases phi ids 0 <;> rfl
theorem phiP_k {N:Nat} {ids:List Nat} (k:Nat):phiP N ids (N+k)=match phi ids k with | some i=>some (N+i) | none=>none:=by
 unfold phiP; rw [if_neg (by omega),Nat.add_sub_cancel_left] <;> cases phi ids k <;> rfl
theorem fin_nil {R:T→List O→Prop} {t:T} {H:List O} (h:R (t.ren (phi [])) []):Fin P 0 R t H :=
 fin_sel (N0:=0) [] rfl (keeps_zero _) (Nat.zero_le _) h
theorem ofL_c {d:Nat} {t:T} {r:List (Nat×T)} {i:Nat}:ofL ((d,t) :: r) i=if i=d then t else ofL r i:=rfl
theorem ofL_n {i:Nat}:ofL [] i = .v .any:=rfl
theorem nth_map {α β:Type} [Inhabited α] [Inhabited β] (f:α→β) {l:List α} {i:Nat} (h:i<l.length):nth (l.map f) i=f (nth l i):=by
 simp [nth,List.getD_eq_getElem?_getD,h]
theorem nth_eq {α:Type} [Inhabited α] {l:List α} {i:Nat} (h:i<l.length):nth l i=l[i]:=by simp [nth,List.getD_eq_getElem?_getD,h]
theorem wrap64 {n:Int} (h1:-9223372036854775808≤n) (h2:n≤9223372036854775807):IntKind.i64.wrap n=n:=by
 simp [IntKind.wrap,IntKind.bits,IntKind.signed]; omega
end
@[simp] theorem toD_v {H:List O} {x:Value}:toD H (.d (.v x))=match x with | .slice none 0 _=>some (.sl []) | x=>some (.v x):=by
 unfold toD; split <;> first | rfl | simp_all
 ·rename_i e; subst e; split <;> simp_all
@[simp] theorem toD_sl {H:List O} {x:List (List D)}:toD H (.d (.sl x))=some (.sl x):=by simp [toD]
@[simp] theorem toD_ip {H:List O} {x:List D}:toD H (.d (.ip x))=some (.ip x):=by simp [toD]
@[simp] theorem toD_mp {H:List O} {k:KT} {x:List (Value×PVo D)}:toD H (.d (.mp k x))=some (.mp k x):=by simp [toD]
@[simp] theorem toD_fn {H:List O} {f:Nat} {x:List D}:toD H (.d (.fn f x))=some (.fn f x):=by simp [toD]
@[simp] theorem toD_os {H:List O} {r sz off len:Nat}:toD H (.os r sz off len)=match H[r]? with
  | some (.row sz' xs)=>if sz'=sz∧off+len≤xs.length then some (.sl ((xs.drop off).take len)) else none
  | some (.frow sz' xs)=>if sz'=sz∧off+len≤xs.length then some (.sl ((xs.drop off).take len)) else none
  | _=>none:=by
 first | rfl | (simp only [toD]; done) | (simp only [toD]; rfl)
@[simp] theorem toB_d {n:Nat} {H:List O} {x:D}:toB n H (.d x)=toD H (.d x):=by cases n <;> simp only [toB]
@[simp] theorem toB_os {n:Nat} {H:List O} {r sz off len:Nat}:toB n H (.os r sz off len)=toD H (.os r sz off len):=by cases n <;> simp only [toB]
@[simp] theorem toB_ptr {n:Nat} {H:List O} {r off:Nat}:toB (n+1) H (.ptr r off)=match H[r]? with
  | some (.cells cs)=>(match mapO (toB n H) (cs.drop off) with | some ds=>some (.ip ds) | none=>none)
  | _=>none:=by
 first | rfl | (simp only [toB]; done) | (simp only [toB]; rfl)
@[simp] theorem toB_eptr {n:Nat} {H:List O} {r sz i off:Nat}:toB (n+1) H (.eptr r sz i off)=match H[r]? with
   | some (.row sz' xs)=>if sz'=sz∧i<xs.length then some (.ip ((nth xs i).drop off)) else none
   | some (.frow sz' xs)=>if sz'=sz∧i<xs.length then some (.ip ((nth xs i).drop off)) else none
   | _=>none:=by
 first | rfl | (simp only [toB]; done) | (simp only [toB]; rfl)
@[simp] theorem toB_mp {n:Nat} {H:List O} {r:Nat}:toB (n+1) H (.mp r)=match H[r]? with
   | some (.map kt es)=>some (.mp kt es)
   | _=>none:=by
 first | rfl | (simp only [toB]; done) | (simp only [toB]; rfl)
@[simp] theorem toB_fx {n:Nat} {H:List O} {f:Nat} {caps:List Cap}:toB (n+1) H (.fx f caps)=match mapO (capD (toB n H)) caps with
   | some ds=>some (.fn f ds)
   | none=>none:=by
 first | rfl | (simp only [toB]; done) | (simp only [toB]; rfl)
@[simp] theorem borC_fx {n:Nat} {H:List O} {f:Nat} {caps:List Cap}:borC (n+1) H (.fx f caps)=caps.flatMap (capL (borC n H)):=by
 first | rfl | (simp only [borC]; done) | (simp only [borC]; rfl)
@[simp] theorem capD_r {f:C→Option D} {r o:Nat}:capD f (.r r o)=f (.ptr r o):=rfl
@[simp] theorem capD_d {f:C→Option D} {x:D}:capD f (.d x)=some x:=rfl
@[simp] theorem capL_r {f:C→List Nat} {r o:Nat}:capL f (.r r o)=f (.ptr r o):=rfl
@[simp] theorem capL_d {f:C→List Nat} {x:D}:capL f (.d x)=[]:=rfl
@[simp] theorem toB_fn {n:Nat} {H:List O} {f:Nat} {caps:List (Nat×Nat)}:toB (n+1) H (.fn f caps)=match mapO (fun p:Nat×Nat=>toB n H (.ptr p.1 p.2)) caps with
   | some ds=>some (.fn f ds)
   | none=>none:=by
 first | rfl | (simp only [toB]; done) | (simp only [toB]; rfl)
@[simp] theorem borC_d {n:Nat} {H:List O} {x:D}:borC n H (.d x)=[]:=by cases n <;> simp [borC,osR]
@[simp] theorem borC_os {n:Nat} {H:List O} {r sz off len:Nat}:borC n H (.os r sz off len)=[r]:=by cases n <;> simp [borC,osR]
@[simp] theorem borC_eptr {n:Nat} {H:List O} {r sz off len:Nat}:borC (n+1) H (.eptr r sz off len)=[r]:=by simp [borC]
@[simp] theorem borC_mp {n:Nat} {H:List O} {r:Nat}:borC (n+1) H (.mp r)=[r]:=by simp [borC]
@[simp] theorem borC_ptr {n:Nat} {H:List O} {r off:Nat}:borC (n+1) H (.ptr r off)=r :: (match H[r]? with
   | some (.cells cs)=>(cs.drop off).flatMap (borC n H)
   | _=>[]):=by
 first | rfl | (simp only [borC]; done) | (simp only [borC]; rfl)
@[simp] theorem borC_fn {n:Nat} {H:List O} {f:Nat} {caps:List (Nat×Nat)}:borC (n+1) H (.fn f caps)=caps.flatMap fun p=>borC n H (.ptr p.1 p.2):=by
 first | rfl | (simp only [borC]; done) | (simp only [borC]; rfl)
section
variable {P:Program} {G:Gl} {X:XT} {N0 B:Nat}
def onR (r:Option R) (sl:Nat→T) (κ:Kt):Prop:=match r with
 | some r=>r.ob∧κ r.val ⟨sl,r.hp⟩
 | none=>False
@[simp ↓] theorem onR_some {ob:Prop} {v:T} {H:List O} {sl:Nat→T} {κ:Kt}:onR (some ⟨ob,v,H⟩) sl κ=(ob∧κ v ⟨sl,H⟩):=rfl
def fixS (st:St) (t:Nat) (b:Bool):St:=⟨putS st.sl t (.v (.c (.d (.v (.bool b))))),st.hp⟩
theorem fixS_same {st:St} {t:Nat} {b:Bool} (h:st.sl t = .v (.c (.d (.v (.bool b))))):fixS st t b=st:=by
 cases st with
 | mk sl hp =>
  unfold fixS
  congr 1
  funext i
  unfold putS
  split
  ·rename_i e; subst e; exact h.symm
  ·rfl
def condG (v:T) (t:Nat) (want:Bool) (Y N:St→Prop) (st:St):Prop:=match v with
 | .v (.c (.d (.v (.bool b))))=>(b=want→Y (fixS st t want))∧(b = !want→N (fixS st t (!want)))
 | .tup []=>N st
 | _=>False
theorem condG_no {v:T} {t:Nat} {want:Bool} {Y N:St→Prop} {st:St} {A B:Prop} (hv:∀ b,v≠.v (.c (.d (.v (.bool b))))) (hu:v≠.tup []):condG v t want Y N st=False∧condW v want A B=False:=by
 constructor
 ·unfold condG; split
  ·exact absurd rfl (hv _)
  ·exact absurd rfl hu
  ·rfl
 ·unfold condW; split
  ·exact absurd rfl (hv _)
  ·exact absurd rfl hu
  ·rfl
theorem condG_eq {t:Nat} {want:Bool} {Y N:St→Prop} {st:St}:condG (st.sl t) t want Y N st=condW (st.sl t) want (Y st) (N st):=by
 by_cases h:∃ b,st.sl t = .v (.c (.d (.v (.bool b))))
 ·obtain ⟨b,hb⟩:=h
  have e1:condG (st.sl t) t want Y N st=((b=want→Y (fixS st t want))∧(b = !want→N (fixS st t (!want)))):=by rw [hb]; rfl
  have e2:condW (st.sl t) want (Y st) (N st)=((b=want→Y st)∧(b = !want→N st)):=by rw [hb]; rfl
  rw [e1,e2]
  apply propext
  constructor
  ·rintro ⟨h1,h2⟩
   exact ⟨fun e=>by have:=h1 e; rwa [fixS_same (e▸hb)] at this,fun e=>by have:=h2 e; rwa [fixS_same (e▸hb)] at this⟩
  ·rintro ⟨h1,h2⟩
   exact ⟨fun e=>by rw [fixS_same (e▸hb)]; exact h1 e,fun e=>by rw [fixS_same (e▸hb)]; exact h2 e⟩
 ·have hv:∀ b,st.sl t≠.v (.c (.d (.v (.bool b)))):=fun b e=>h ⟨b,e⟩
  by_cases hu:st.sl t = .tup []
  ·rw [hu]; rfl
  ·rw [(condG_no (A:=Y st) (B:=N st) hv hu).1,(condG_no (t:=t) (Y:=Y) (N:=N) (st:=st) hv hu).2]
theorem condG_tt {t:Nat} {Y N:St→Prop} {st:St}:condG (.v (.c (.d (.v (.bool true))))) t true Y N st=Y ⟨putS st.sl t (.v (.c (.d (.v (.bool true))))),st.hp⟩:=by simp [condG,fixS]
theorem condG_ff {t:Nat} {Y N:St→Prop} {st:St}:condG (.v (.c (.d (.v (.bool false))))) t false Y N st=Y ⟨putS st.sl t (.v (.c (.d (.v (.bool false))))),st.hp⟩:=by simp [condG,fixS]
theorem condG_tf {t:Nat} {Y N:St→Prop} {st:St}:condG (.v (.c (.d (.v (.bool true))))) t false Y N st=N ⟨putS st.sl t (.v (.c (.d (.v (.bool true))))),st.hp⟩:=by simp [condG,fixS]
theorem condG_ft {t:Nat} {Y N:St→Prop} {st:St}:condG (.v (.c (.d (.v (.bool false))))) t true Y N st=N ⟨putS st.sl t (.v (.c (.d (.v (.bool false))))),st.hp⟩:=by simp [condG,fixS]
theorem condG_b {t:Nat} {want b:Bool} {Y N:St→Prop} {st:St}:condG (.v (.c (.d (.v (.bool b))))) t want Y N st =
  ((b=want→Y ⟨putS st.sl t (.v (.c (.d (.v (.bool want))))),st.hp⟩)∧(b = !want→N ⟨putS st.sl t (.v (.c (.d (.v (.bool (!want)))))),st.hp⟩)):=by simp [condG,fixS]
@[simp] theorem condP_t {Y N:Prop}:condP (.v (.c (.d (.v (.bool true))))) Y N=Y:=by simp [condP]
@[simp] theorem condP_f {Y N:Prop}:condP (.v (.c (.d (.v (.bool false))))) Y N=N:=by simp [condP]
theorem condP_b {b:Bool} {Y N:Prop}:condP (.v (.c (.d (.v (.bool b))))) Y N=((b=true→Y)∧(b=false→N)):=by simp [condP]
def putO (sl:Nat→T) (d:Option Nat) (t:T):Nat→T:=match d with
 | some d=>putS sl d t
 | none=>sl
theorem put_eq {st:St} {d:Option Nat} {t:T}:st.put d t=⟨putO st.sl d t,st.hp⟩:=by cases d <;> rfl
@[simp] theorem putO_some {sl:Nat→T} {d:Nat} {t:T}:putO sl (some d) t=putS sl d t:=by unfold putO; rfl
@[simp] theorem putO_none {sl:Nat→T} {t:T}:putO sl none t=sl:=by unfold putO; rfl
@[simp ↓] theorem wopsX_nil {st:St} {k:St→Prop}:wopsX P G X B [] st k=k st:=rfl
def contX (P:Program) (G:Gl) (X:XT) (B:Nat) (d:Option Nat) (r:List AOper) (k:St→Prop):Kt:=fun t s=>wopsX P G X B r ⟨putO s.sl d t,s.hp⟩ k
@[simp ↓] theorem contX_app {d:Option Nat} {r:List AOper} {k:St→Prop} {t:T} {sl:Nat→T} {H:List O}:contX P G X B d r k t ⟨sl,H⟩=wopsX P G X B r ⟨putO sl d t,H⟩ k:=rfl
@[simp ↓] theorem wopsX_cons {d:Option Nat} {a:A} {r:List AOper} {st:St} {k:St→Prop}:wopsX P G X B (⟨d,a,none⟩ :: r) st k=wopX P G X B a st (contX P G X B d r k):=by
 show wopX P G X B a st (fun t s=>wopsX P G X B r (s.put d t) k)=_
 simp only [put_eq]; rfl
def gopX (P:Program) (G:Gl) (X:XT) (B:Nat) (v:T) (t:Nat) (want:Bool) (d:Option Nat) (a:A) (r:List AOper) (st:St) (k:St→Prop):Prop :=
 condG v t want (fun st=>wopX P G X B a st (contX P G X B d r k)) (fun st=>wopsX P G X B r ⟨putO st.sl d (.tup []),st.hp⟩ k) st
@[simp ↓] theorem wopsX_g {d:Option Nat} {a:A} {t:Nat} {want:Bool} {r:List AOper} {st:St} {k:St→Prop}:wopsX P G X B (⟨d,a,some (t,want)⟩ :: r) st k =
  gopX P G X B (st.sl t) t want d a r st k:=by
 unfold gopX
 rw [condG_eq]
 show condW _ _ (wopX P G X B a st (fun t s=>wopsX P G X B r (s.put d t) k)) (wopsX P G X B r (st.put d (.tup [])) k)=_
 simp only [put_eq]; rfl
section
variable {d:Option Nat} {a:A} {t:Nat} {r:List AOper} {st:St} {k:St→Prop}
@[simp] theorem gopX_tt:gopX P G X B (.v (.c (.d (.v (.bool true))))) t true d a r st k=wopX P G X B a ⟨putS st.sl t (.v (.c (.d (.v (.bool true))))),st.hp⟩ (contX P G X B d r k):=by simp only [gopX,condG_tt]
@[simp] theorem gopX_ff:gopX P G X B (.v (.c (.d (.v (.bool false))))) t false d a r st k=wopX P G X B a ⟨putS st.sl t (.v (.c (.d (.v (.bool false))))),st.hp⟩ (contX P G X B d r k):=by simp only [gopX,condG_ff]
@[simp] theorem gopX_tf:gopX P G X B (.v (.c (.d (.v (.bool true))))) t false d a r st k=wopsX P G X B r ⟨putO (putS st.sl t (.v (.c (.d (.v (.bool true)))))) d (.tup []),st.hp⟩ k:=by simp only [gopX,condG_tf]
@[simp] theorem gopX_u {want:Bool}:gopX P G X B (.tup []) t want d a r st k=wopsX P G X B r ⟨putO st.sl d (.tup []),st.hp⟩ k:=rfl
@[simp] theorem gopX_ft:gopX P G X B (.v (.c (.d (.v (.bool false))))) t true d a r st k=wopsX P G X B r ⟨putO (putS st.sl t (.v (.c (.d (.v (.bool false)))))) d (.tup []),st.hp⟩ k:=by simp only [gopX,condG_ft]
theorem gopX_b {want b:Bool}:gopX P G X B (.v (.c (.d (.v (.bool b))))) t want d a r st k =
  ((b=want→wopX P G X B a ⟨putS st.sl t (.v (.c (.d (.v (.bool want))))),st.hp⟩ (contX P G X B d r k))∧(b = !want→wopsX P G X B r ⟨putO (putS st.sl t (.v (.c (.d (.v (.bool (!want))))))) d (.tup []),st.hp⟩ k)):=by simp only [gopX,condG_b]
end
theorem wopX_on {a:A} {st:St} {κ:Kt} (h:a.plain=true):wopX P G X B a st κ=onR (fop B st.hp (ev G st.sl) a) st.sl κ:=by
 rw [wopX_same (by cases a <;> first | rfl | cases h),wop_plain h]; rfl
@[simp ↓] theorem wopX_mov {x:Operand} {st:St} {κ:Kt}:wopX P G X B (.mov x) st κ=onR (fop B st.hp (ev G st.sl) (.mov x)) st.sl κ:=wopX_on rfl
@[simp ↓] theorem wopX_box {j:Nat} {x:Operand} {st:St} {κ:Kt}:wopX P G X B (.box j x) st κ=onR (fop B st.hp (ev G st.sl) (.box j x)) st.sl κ:=wopX_on rfl
@[simp ↓] theorem wopX_zero {j:Nat} {z:List D} {st:St} {κ:Kt}:wopX P G X B (.zero j z) st κ=onR (fop B st.hp (ev G st.sl) (.zero j z)) st.sl κ:=wopX_on rfl
@[simp ↓] theorem wopX_build {z:List D} {parts:List (Nat×Nat×Operand)} {st:St} {κ:Kt}:wopX P G X B (.build z parts) st κ=onR (fop B st.hp (ev G st.sl) (.build z parts)) st.sl κ:=wopX_on rfl
@[simp ↓] theorem wopX_bsl {j sz:Nat} {z:List D} {len:Nat} {parts:List (Nat×Operand)} {st:St} {κ:Kt}:wopX P G X B (.bsl j sz z len parts) st κ=onR (fop B st.hp (ev G st.sl) (.bsl j sz z len parts)) st.sl κ:=wopX_on rfl
@[simp ↓] theorem wopX_load {agg:Bool} {n:Nat} {x:Operand} {st:St} {κ:Kt}:wopX P G X B (.load agg n x) st κ=onR (fop B st.hp (ev G st.sl) (.load agg n x)) st.sl κ:=wopX_on rfl
@[simp ↓] theorem wopX_store {n:Nat} {x v:Operand} {st:St} {κ:Kt}:wopX P G X B (.store n x v) st κ=onR (fop B st.hp (ev G st.sl) (.store n x v)) st.sl κ:=wopX_on rfl
@[simp ↓] theorem wopX_chk {x:Operand} {st:St} {κ:Kt}:wopX P G X B (.chk x) st κ=onR (fop B st.hp (ev G st.sl) (.chk x)) st.sl κ:=wopX_on rfl
@[simp ↓] theorem wopX_binI {op:BinOp} {k:IntKind} {x y:Operand} {st:St} {κ:Kt}:wopX P G X B (.binI op k x y) st κ=onR (fop B st.hp (ev G st.sl) (.binI op k x y)) st.sl κ:=wopX_on rfl
@[simp ↓] theorem wopX_shf {op:BinOp} {k:IntKind} {x y:Operand} {st:St} {κ:Kt}:wopX P G X B (.shf op k x y) st κ=onR (fop B st.hp (ev G st.sl) (.shf op k x y)) st.sl κ:=wopX_on rfl
@[simp ↓] theorem wopX_binS {op:BinOp} {x y:Operand} {st:St} {κ:Kt}:wopX P G X B (.binS op x y) st κ=onR (fop B st.hp (ev G st.sl) (.binS op x y)) st.sl κ:=wopX_on rfl
@[simp ↓] theorem wopX_eqB {neg:Bool} {x y:Operand} {st:St} {κ:Kt}:wopX P G X B (.eqB neg x y) st κ=onR (fop B st.hp (ev G st.sl) (.eqB neg x y)) st.sl κ:=wopX_on rfl
@[simp ↓] theorem wopX_eqA {neg:Bool} {ks:List SK} {x y:Operand} {st:St} {κ:Kt}:wopX P G X B (.eqA neg ks x y) st κ=onR (fop B st.hp (ev G st.sl) (.eqA neg ks x y)) st.sl κ:=wopX_on rfl
@[simp ↓] theorem wopX_not {x:Operand} {st:St} {κ:Kt}:wopX P G X B (.not x) st κ=onR (fop B st.hp (ev G st.sl) (.not x)) st.sl κ:=wopX_on rfl
@[simp ↓] theorem wopX_neg {k:IntKind} {x:Operand} {st:St} {κ:Kt}:wopX P G X B (.neg k x) st κ=onR (fop B st.hp (ev G st.sl) (.neg k x)) st.sl κ:=wopX_on rfl
@[simp ↓] theorem wopX_cpl {k:IntKind} {x:Operand} {st:St} {κ:Kt}:wopX P G X B (.cpl k x) st κ=onR (fop B st.hp (ev G st.sl) (.cpl k x)) st.sl κ:=wopX_on rfl
@[simp ↓] theorem wopX_conv {k:IntKind} {x:Operand} {st:St} {κ:Kt}:wopX P G X B (.conv k x) st κ=onR (fop B st.hp (ev G st.sl) (.conv k x)) st.sl κ:=wopX_on rfl
@[simp ↓] theorem wopX_mkfn {f:Nat} {caps:List Operand} {st:St} {κ:Kt}:wopX P G X B (.mkfn f caps) st κ=onR (fop B st.hp (ev G st.sl) (.mkfn f caps)) st.sl κ:=wopX_on rfl
@[simp ↓] theorem wopX_mkmap {j:Nat} {kt:KT} {st:St} {κ:Kt}:wopX P G X B (.mkmap j kt) st κ=onR (fop B st.hp (ev G st.sl) (.mkmap j kt)) st.sl κ:=wopX_on rfl
@[simp ↓] theorem wopX_mksl {j sz bytes:Nat} {z:List D} {l c:Operand} {st:St} {κ:Kt}:wopX P G X B (.mksl j sz bytes z l c) st κ=onR (fop B st.hp (ev G st.sl) (.mksl j sz bytes z l c)) st.sl κ:=wopX_on rfl
@[simp ↓] theorem wopX_sliceS {x:Operand} {lo hi:Option Operand} {st:St} {κ:Kt}:wopX P G X B (.sliceS x lo hi) st κ=onR (fop B st.hp (ev G st.sl) (.sliceS x lo hi)) st.sl κ:=wopX_on rfl
@[simp ↓] theorem wopX_slice {sz:Nat} {x:Operand} {lo hi:Option Operand} {st:St} {κ:Kt}:wopX P G X B (.slice sz x lo hi) st κ=onR (fop B st.hp (ev G st.sl) (.slice sz x lo hi)) st.sl κ:=wopX_on rfl
@[simp ↓] theorem wopX_faddr {off:Nat} {x:Operand} {st:St} {κ:Kt}:wopX P G X B (.faddr off x) st κ=onR (fop B st.hp (ev G st.sl) (.faddr off x)) st.sl κ:=wopX_on rfl
@[simp ↓] theorem wopX_field {agg:Bool} {n off:Nat} {x:Operand} {st:St} {κ:Kt}:wopX P G X B (.field agg n off x) st κ=onR (fop B st.hp (ev G st.sl) (.field agg n off x)) st.sl κ:=wopX_on rfl
@[simp ↓] theorem wopX_iaddr {sz:Nat} {x i:Operand} {st:St} {κ:Kt}:wopX P G X B (.iaddr sz x i) st κ=onR (fop B st.hp (ev G st.sl) (.iaddr sz x i)) st.sl κ:=wopX_on rfl
@[simp ↓] theorem wopX_index {x i:Operand} {st:St} {κ:Kt}:wopX P G X B (.index x i) st κ=onR (fop B st.hp (ev G st.sl) (.index x i)) st.sl κ:=wopX_on rfl
@[simp ↓] theorem wopX_look {kt:KT} {z:PV} {x k:Operand} {ok:Bool} {st:St} {κ:Kt}:wopX P G X B (.look kt z x k ok) st κ=onR (fop B st.hp (ev G st.sl) (.look kt z x k ok)) st.sl κ:=wopX_on rfl
@[simp ↓] theorem wopX_mapup {kt:KT} {m k v:Operand} {st:St} {κ:Kt}:wopX P G X B (.mapup kt m k v) st κ=onR (fop B st.hp (ev G st.sl) (.mapup kt m k v)) st.sl κ:=wopX_on rfl
@[simp ↓] theorem wopX_mapdel {kt:KT} {m k:Operand} {st:St} {κ:Kt}:wopX P G X B (.mapdel kt m k) st κ=onR (fop B st.hp (ev G st.sl) (.mapdel kt m k)) st.sl κ:=wopX_on rfl
@[simp ↓] theorem wopX_rng {j:Nat} {kt:KT} {x:Operand} {st:St} {κ:Kt}:wopX P G X B (.rng j kt x) st κ=rngW B j kt (ev G st.sl x) st κ:=rfl
@[simp ↓] theorem wopX_nxt {x:Operand} {st:St} {κ:Kt}:wopX P G X B (.nxt x) st κ=nxtW (ev G st.sl x) st κ:=rfl
@[simp ↓] theorem wopX_ent {x:Operand} {st:St} {κ:Kt}:wopX P G X B (.ent x) st κ=entW (ev G st.sl x) st κ:=rfl
@[simp ↓] theorem wopX_ext {x:Operand} {i:Nat} {st:St} {κ:Kt}:wopX P G X B (.ext x i) st κ=onR (fop B st.hp (ev G st.sl) (.ext x i)) st.sl κ:=wopX_on rfl
@[simp ↓] theorem wopX_str {x:Operand} {st:St} {κ:Kt}:wopX P G X B (.str x) st κ=onR (fop B st.hp (ev G st.sl) (.str x)) st.sl κ:=wopX_on rfl
@[simp ↓] theorem wopX_lenS {x:Operand} {st:St} {κ:Kt}:wopX P G X B (.lenS x) st κ=onR (fop B st.hp (ev G st.sl) (.lenS x)) st.sl κ:=wopX_on rfl
@[simp ↓] theorem wopX_lenL {x:Operand} {st:St} {κ:Kt}:wopX P G X B (.lenL x) st κ=onR (fop B st.hp (ev G st.sl) (.lenL x)) st.sl κ:=wopX_on rfl
@[simp ↓] theorem wopX_lenM {x:Operand} {st:St} {κ:Kt}:wopX P G X B (.lenM x) st κ=onR (fop B st.hp (ev G st.sl) (.lenM x)) st.sl κ:=wopX_on rfl
@[simp ↓] theorem wopX_app {p:Bool} {j sz bytes:Nat} {s x:Operand} {st:St} {κ:Kt}:wopX P G X B (.app p j sz bytes s x) st κ=onR (fop B st.hp (ev G st.sl) (.app p j sz bytes s x)) st.sl κ:=wopX_on rfl
@[simp ↓] theorem wopX_maxmin {mx:Bool} {k:IntKind} {x y:Operand} {st:St} {κ:Kt}:wopX P G X B (.maxmin mx k x y) st κ=onR (fop B st.hp (ev G st.sl) (.maxmin mx k x y)) st.sl κ:=wopX_on rfl
@[simp ↓] theorem wopX_clr {sz:Nat} {z:List D} {x:Operand} {st:St} {κ:Kt}:wopX P G X B (.clr sz z x) st κ=onR (fop B st.hp (ev G st.sl) (.clr sz z x)) st.sl κ:=wopX_on rfl
def pickK (c a b:T) (st:St) (κ:Kt):Prop:=condP c (κ a st) (κ b st)
@[simp ↓] theorem wopX_pick {c a b:Operand} {st:St} {κ:Kt}:wopX P G X B (.pick c a b) st κ=pickK (ev G st.sl c) (ev G st.sl a) (ev G st.sl b) st κ:=rfl
@[simp] theorem pickK_t {a b:T} {st:St} {κ:Kt}:pickK (.v (.c (.d (.v (.bool true))))) a b st κ=κ a st:=by simp [pickK,condP]
@[simp] theorem pickK_f {a b:T} {st:St} {κ:Kt}:pickK (.v (.c (.d (.v (.bool false))))) a b st κ=κ b st:=by simp [pickK,condP]
theorem pickK_b {x:Bool} {a b:T} {st:St} {κ:Kt}:pickK (.v (.c (.d (.v (.bool x))))) a b st κ=((x=true→κ a st)∧(x=false→κ b st)):=by simp [pickK,condP]
def onNil (ng:Bool) (k:NK) (v:T) (r:Option R) (st:St) (κ:Kt):Prop:=match k,v with
  | .sl,.v (.c (.d (.sl xs)))=>∀ b,(xs≠[]→b=false)→κ (.bool (if ng then !b else b)) st
  | .sl,.v (.c (.os _ _ _ len))=>∀ b,(len≠0→b=false)→κ (.bool (if ng then !b else b)) st
  | _,_=>onR r st.sl κ
@[simp ↓] theorem wopX_eqN {ng:Bool} {k:NK} {x:Operand} {st:St} {κ:Kt}:wopX P G X B (.eqN ng k x) st κ=onNil ng k (ev G st.sl x) (fop B st.hp (ev G st.sl) (.eqN ng k x)) st κ:=by
 simp only [wopX]; unfold onNil onR
 generalize ev G st.sl x=v
 cases k <;> first | rfl | skip
 cases v with
 | tup vs=>rfl
 | v u =>
  cases u with
  | any=>rfl
  | agg _=>rfl
  | c x=>cases x <;> first | rfl | (rename_i y; cases y <;> rfl)
@[simp ↓] theorem onNil_sl {ng:Bool} {xs:List (List D)} {r:Option R} {st:St} {κ:Kt}:onNil ng .sl (.v (.c (.d (.sl xs)))) r st κ = ∀ b,(xs≠[]→b=false)→κ (.bool (if ng then !b else b)) st:=rfl
@[simp ↓] theorem onNil_os {ng:Bool} {q sz off len:Nat} {r:Option R} {st:St} {κ:Kt}:onNil ng .sl (.v (.c (.os q sz off len))) r st κ = ∀ b,(len≠0→b=false)→κ (.bool (if ng then !b else b)) st:=rfl
@[simp ↓] theorem onNil_v {ng:Bool} {k:NK} {x:Value} {r:Option R} {st:St} {κ:Kt}:onNil ng k (.v (.c (.d (.v x)))) r st κ=onR r st.sl κ:=by cases k <;> rfl
@[simp ↓] theorem onNil_ifc {ng:Bool} {k:NK} {r:Option R} {st:St} {κ:Kt}:onNil ng k (.v (.c .ifc)) r st κ=onR r st.sl κ:=by cases k <;> rfl
@[simp ↓] theorem onNil_mp {ng:Bool} {k:NK} {q:Nat} {r:Option R} {st:St} {κ:Kt}:onNil ng k (.v (.c (.mp q))) r st κ=onR r st.sl κ:=by cases k <;> rfl
@[simp ↓] theorem onNil_ptr {ng:Bool} {k:NK} {q off:Nat} {r:Option R} {st:St} {κ:Kt}:onNil ng k (.v (.c (.ptr q off))) r st κ=onR r st.sl κ:=by cases k <;> rfl
def onCall (P:Program) (G:Gl) (X:XT) (c:Option (Nat×List V)) (st:St) (κ:Kt):Prop:=match c with
 | some (f,vs)=>callX P G X f vs st κ
 | none=>False
@[simp ↓] theorem wopX_call {f:Nat} {args:List Operand} {st:St} {κ:Kt}:wopX P G X B (.call f args) st κ=onCall P G X (calleeOf G st.sl (.call f args)) st κ:=by
 simp only [wopX,calleeOf]; unfold onCall; cases argsOf (args.map (ev G st.sl)) <;> rfl
@[simp ↓] theorem wopX_callv {f:Operand} {args:List Operand} {st:St} {κ:Kt}:wopX P G X B (.callv f args) st κ=onCall P G X (calleeOf G st.sl (.callv f args)) st κ:=by
 simp only [wopX,calleeOf]; unfold onCall
 split
 ·rfl
 ·rfl
 ·rfl
def onSR (P:Program) (G:Gl) (f:Nat) (vs:List V) (r:Option SR) (st:St) (κ:Kt):Prop:=match r with
 | some r=>r.ob∧κ r.val ⟨st.sl,r.hp⟩
 | none=>ACalls P G f vs st.hp (callK st.sl κ)
@[simp ↓] theorem onSR_some {f:Nat} {vs:List V} {rd wr:List Nat} {ob:Prop} {v:T} {H:List O} {st:St} {κ:Kt}:onSR P G f vs (some ⟨rd,wr,ob,v,H⟩) st κ=(ob∧κ v ⟨st.sl,H⟩):=rfl
@[simp ↓] theorem onSR_none {f:Nat} {vs:List V} {st:St} {κ:Kt}:onSR P G f vs none st κ=ACalls P G f vs st.hp (callK st.sl κ):=rfl
@[simp ↓] theorem onCall_some {f:Nat} {vs:List V} {st:St} {κ:Kt}:onCall P G X (some (f,vs)) st κ=onSR P G f vs (callF X st.hp f vs) st κ:=by
 show callX P G X f vs st κ=_
 unfold callX onSR; cases callF X st.hp f vs <;> rfl
@[simp ↓] theorem wlex_nil {cl:List (List Nat)} {i:Nat} {Ws Rs:List (Nat×List Nat)} {st:St} {k:St→Prop}:wlex G X B cl i [] Ws Rs st k=k st:=rfl
def nxL (G:Gl) (X:XT) (B:Nat) (cl:List (List Nat)) (i:Nat) (r:List AOper) (Ws Rs:List (Nat×List Nat)) (st:St) (k:St→Prop):Prop:=wlex G X B cl i r Ws Rs st k
@[simp] theorem nxL_go {cl:List (List Nat)} {i:Nat} {r:List AOper} {Ws Rs:List (Nat×List Nat)} {st:St} {k:St→Prop}:nxL G X B cl i r Ws Rs st k=wlex G X B cl i r Ws Rs st k:=rfl
def onLex (G:Gl) (X:XT) (B:Nat) (cl:List (List Nat)) (i:Nat) (d:Option Nat) (s:Option SR) (r:List AOper) (Ws Rs:List (Nat×List Nat)) (st:St) (k:St→Prop):Prop:=match s with
 | some s=>s.ob∧apW cl i (s.rd ++ s.wr) Ws∧apW cl i s.wr Rs∧wlex G X B cl (i+1) r (addH i s.wr Ws) (addH i s.rd Rs) ((St.mk st.sl s.hp).put d s.val) k
 | none=>False
@[simp ↓] theorem onLex_some {cl:List (List Nat)} {i:Nat} {d:Option Nat} {rd wr:List Nat} {ob:Prop} {v:T} {H:List O} {r:List AOper} {Ws Rs:List (Nat×List Nat)} {st:St} {k:St→Prop} :
  onLex G X B cl i d (some ⟨rd,wr,ob,v,H⟩) r Ws Rs st k=(ob∧apW cl i (rd ++ wr) Ws∧apW cl i wr Rs∧nxL G X B cl (i+1) r (addH i wr Ws) (addH i rd Rs) ⟨putO st.sl d v,H⟩ k):=by
 have:(St.mk st.sl H).put d v=⟨putO st.sl d v,H⟩:=put_eq
 rw [← this]; rfl
@[simp ↓] theorem wlex_cons {cl:List (List Nat)} {i:Nat} {d:Option Nat} {a:A} {r:List AOper} {Ws Rs:List (Nat×List Nat)} {st:St} {k:St→Prop} :
  wlex G X B cl i (⟨d,a,none⟩ :: r) Ws Rs st k=onLex G X B cl i d (stepX G X B st a) r Ws Rs st k:=by
 simp only [wlex]; unfold onLex; cases stepX G X B st a <;> rfl
def glexX (G:Gl) (X:XT) (B:Nat) (cl:List (List Nat)) (i:Nat) (v:T) (t:Nat) (want:Bool) (d:Option Nat) (a:A) (r:List AOper) (Ws Rs:List (Nat×List Nat)) (st:St) (k:St→Prop):Prop :=
 condG v t want (fun st=>onLex G X B cl i d (stepX G X B st a) r Ws Rs st k) (fun st=>wlex G X B cl (i+1) r Ws Rs ⟨putO st.sl d (.tup []),st.hp⟩ k) st
section
variable {cl:List (List Nat)} {i:Nat} {d:Option Nat} {a:A} {t:Nat} {r:List AOper} {Ws Rs:List (Nat×List Nat)} {st:St} {k:St→Prop}
@[simp ↓] theorem wlex_g {want:Bool}:wlex G X B cl i (⟨d,a,some (t,want)⟩ :: r) Ws Rs st k=glexX G X B cl i (st.sl t) t want d a r Ws Rs st k:=by
 unfold glexX
 rw [condG_eq]; simp only [← put_eq]; simp only [wlex]; unfold onLex; cases stepX G X B st a <;> rfl
@[simp] theorem glexX_tt:glexX G X B cl i (.v (.c (.d (.v (.bool true))))) t true d a r Ws Rs st k=onLex G X B cl i d (stepX G X B ⟨putS st.sl t (.v (.c (.d (.v (.bool true))))),st.hp⟩ a) r Ws Rs ⟨putS st.sl t (.v (.c (.d (.v (.bool true))))),st.hp⟩ k:=by simp only [glexX,condG_tt]
@[simp] theorem glexX_ff:glexX G X B cl i (.v (.c (.d (.v (.bool false))))) t false d a r Ws Rs st k=onLex G X B cl i d (stepX G X B ⟨putS st.sl t (.v (.c (.d (.v (.bool false))))),st.hp⟩ a) r Ws Rs ⟨putS st.sl t (.v (.c (.d (.v (.bool false))))),st.hp⟩ k:=by simp only [glexX,condG_ff]
@[simp] theorem glexX_tf:glexX G X B cl i (.v (.c (.d (.v (.bool true))))) t false d a r Ws Rs st k=wlex G X B cl (i+1) r Ws Rs ⟨putO (putS st.sl t (.v (.c (.d (.v (.bool true)))))) d (.tup []),st.hp⟩ k:=by simp only [glexX,condG_tf]
@[simp] theorem glexX_u {want:Bool}:glexX G X B cl i (.tup []) t want d a r Ws Rs st k=wlex G X B cl (i+1) r Ws Rs ⟨putO st.sl d (.tup []),st.hp⟩ k:=rfl
@[simp] theorem glexX_ft:glexX G X B cl i (.v (.c (.d (.v (.bool false))))) t true d a r Ws Rs st k=wlex G X B cl (i+1) r Ws Rs ⟨putO (putS st.sl t (.v (.c (.d (.v (.bool false)))))) d (.tup []),st.hp⟩ k:=by simp only [glexX,condG_ft]
theorem glexX_b {want b:Bool}:glexX G X B cl i (.v (.c (.d (.v (.bool b))))) t want d a r Ws Rs st k =
  ((b=want→onLex G X B cl i d (stepX G X B ⟨putS st.sl t (.v (.c (.d (.v (.bool want))))),st.hp⟩ a) r Ws Rs ⟨putS st.sl t (.v (.c (.d (.v (.bool want))))),st.hp⟩ k)∧(b = !want→wlex G X B cl (i+1) r Ws Rs ⟨putO (putS st.sl t (.v (.c (.d (.v (.bool (!want))))))) d (.tup []),st.hp⟩ k)):=by simp only [glexX,condG_b]
end
end
attribute [simp ↓] wX_skip wX_region wX_dregion wX_seq wX_cond wX_block wX_exit wX_ret thenQ_n thenQ_x thenQ_r blockQ_n blockQ_x blockQ_r loopN_x loopN_r loopN_n normQ
@[simp] theorem ev_tmp {G:Gl} {s:Nat→T} {t:Nat}:ev G s (.tmp t)=s t:=rfl
@[simp] theorem ev_const {G:Gl} {s:Nat→T} {v:Value}:ev G s (.const v)=cv v:=rfl
@[simp] theorem ev_func {G:Gl} {s:Nat→T} {f:Nat}:ev G s (.func f) = .v (.c (.fn f [])):=rfl
@[simp] theorem ev_global {G:Gl} {s:Nat→T} {g:Nat}:ev G s (.global g)=(match G g with | some cs=>.v (.c (.d (.ip cs))) | none=>.v .any):=rfl
attribute [simp] stepX calleeOf fop foot cv argSl holes St.put putS_eq ofL_c ofL_n binIF retQ resL resV resT argsOf nrm nrmC callF xget toBVs mapO toBV V.known V.cells ptrTo valOf fillR toDs frz frz1 apW addH osT osR borVs borV T.ren V.ren C.ren app_get0 app_get app_set0 app_set phiP_0 phiP_k
attribute [simp low] condP_b condC_b gopX_b glexX_b pickK_b
structure RowOk (sz:Nat) (y:List D):Prop where
 len:y.length=sz
 nn:∀ d∈y,∀ c,d≠.v (.slice none 0 c)
theorem osR_map (y:List D):osR (y.map .d)=[]:=by
 induction y with
 | nil=>rfl
 | cons d y ih=>simpa [osR] using ih
theorem frz_map (H:List O) (y:List D):frz H (y.map .d)=H:=by
 induction y with
 | nil=>rfl
 | cons d y ih=>simpa [frz,frz1] using ih
theorem toDs_of (y:List D) (h:∀ d∈y,∀ c,d≠.v (.slice none 0 c)) (H:List O):toDs H (y.map .d)=some y:=by
 induction y with
 | nil=>rfl
 | cons d y ih =>
  have hd:toD H (.d d)=some d:=by
   unfold toD
   split
   ·rename_i c e; exact absurd (by injection e) (h d List.mem_cons_self c)
   ·rename_i e; injection e with e; subst e; rfl
   ·rename_i e; cases e
   ·rename_i q _; exact absurd rfl (q d)
  simp only [List.map_cons,toDs,hd,ih fun d hd=>h d (List.mem_cons_of_mem _ hd)]
theorem RowOk.cl {sz:Nat} {y:List D} (h:RowOk sz y) (H:List O):toDs H (y.map .d)=some y:=toDs_of y h.nn H
theorem RowOk.tk {sz:Nat} {y:List D} (h:RowOk sz y) {β:Type} (g:D→β):(y.map g).take sz=y.map g:=List.take_of_length_le (by rw [List.length_map,h.len]; exact Nat.le_refl _)
theorem RowOk.nrm {sz:Nat} {y:List D} (h:RowOk sz y):y.map (nrmC ∘ C.d)=y.map C.d:=by
 refine List.map_congr_left fun d hd=>?_
 simp only [Function.comp]
 unfold nrmC
 split
 ·rename_i c e; exact absurd (by injection e) (h.nn d hd c)
 ·rfl
theorem RowOk.mapO {sz:Nat} {y:List D} (h:RowOk sz y) (n:Nat) (H:List O):Go.Aw.mapO (Go.Aw.toB n H) (y.map .d)=some y:=by
 have h0:=h.cl H
 have key:∀ (l:List D) m,toDs H (l.map .d)=some m→Go.Aw.mapO (Go.Aw.toB n H) (l.map .d)=some m:=by
  intro l
  induction l with
  | nil=>intro m hm; simpa [toDs,Go.Aw.mapO] using hm
  | cons d l ih =>
   intro m hm
   simp only [List.map_cons,toDs] at hm
   split at hm
   ·rename_i d' ds h1 h2
    injection hm with hm; subst hm
    have hb:Go.Aw.toB n H (.d d)=some d':=by
     cases n with
     | zero=>exact h1
     | succ n=>simpa only [toB] using h1
    simp only [List.map_cons,Go.Aw.mapO,hb,ih _ h2]
   ·cases hm
 exact key y y h0
theorem wk_keep {P:Program} {G:Gl} {N0:Nat} {sl:Nat→T} {hp:List O} {K:St→Prop} (keep:List Nat) (h:K ⟨ofL (keep.map fun t=>(t,sl t)),hp⟩):wk P G N0 ⟨sl,hp⟩ K:=by
 refine ⟨⟨ofL (keep.map fun t=>(t,sl t)),hp⟩,fun n b ρ a w hb1 hb2 hs=>⟨ρ,hs.heap,hs.size,hs.defers,fun t=>?_,hs.glob,hs.le⟩,h⟩
 show TRel P _ (ofL _ t) _
 rcases ofL_map sl keep t with h | h
 ·rw [h]; exact hs.slots t
 ·rw [h]; trivial
theorem borV_map (H:List O) (y:List D):borV H (.agg (y.map .d))=[]:=by
 simp only [borV,V.cells]
 induction y with
 | nil=>rfl
 | cons d y ih=>simp [borC,osR]
theorem borRow (n:Nat) (H:List O) (y:List D):(y.map C.d).flatMap (borC n H)=[]:=by
 induction y with
 | nil=>rfl
 | cons d y ih=>simp only [List.map_cons,List.flatMap_cons,borC_d,ih,List.nil_append]
theorem nth_set_ne {α:Type} [Inhabited α] {l:List α} {i k:Nat} {x:α} (h:i≠k):nth (l.set i x) k=nth l k:=by
 simp [nth,List.getD_eq_getElem?_getD,h]
theorem RowOk.spl {sz:Nat} {y z:List D} (h:RowOk sz y) (k:RowOk sz z):splice y 0 z=z:=by
 simp [splice,h.len,k.len]
theorem take_of_len {α:Type} {n:Nat} {l:List α} (h:l.length=n):l.take n=l:=by subst h; simp
def cutQ (J:St→Prop) (Q:Qt):Qt
 | .normal,s=>J s
 | e,s=>Q e s
@[simp ↓] theorem cutQ_n {J:St→Prop} {Q:Qt} {s:St}:cutQ J Q .normal s=J s:=rfl
@[simp ↓] theorem cutQ_x {J:St→Prop} {Q:Qt} {s:St} {i:Nat}:cutQ J Q (.exit i) s=Q (.exit i) s:=rfl
@[simp ↓] theorem cutQ_r {J:St→Prop} {Q:Qt} {s:St}:cutQ J Q .ret s=Q .ret s:=rfl
theorem seqX {P:Program} {G:Gl} {X:XT} {N0:Nat} {x y:AC} {st:St} {Q:Qt} (J:St→Prop) (h1:wcodeX P G X N0 x st (cutQ J Q)) (h2:∀ s,J s→wcodeX P G X N0 y s Q) :
  wcodeX P G X N0 (.seq x y) st Q:=by
 show wcodeX P G X N0 x st (thenQ (wcodeX P G X N0 y) Q)
 refine wcodeX_mono (fun e s q=>?_) h1
 cases e with
 | normal=>exact h2 s q
 | exit i=>exact q
 | ret=>exact q
theorem loopG {P:Program} {G:Gl} {X:XT} {N0:Nat} {x:AC} {st:St} {Q:Qt} (I:Nat→St→Prop) (h0:wk P G N0 st fun s=>∃ k,I k s)
  (h:∀ J:Nat→St→Prop,J=I→∀ k s,I k s→wcodeX P G X N0 x s (loopN P G N0 J k Q)):wcodeX P G X N0 (.loop x) st Q:=loopX I h0 (h I rfl)
def exitQ (id:Nat) (J:St→Prop) (Q:Qt):Qt
 | .exit i,s=>if i=id then J s else Q (.exit i) s
 | .normal,s=>Q .normal s
 | .ret,s=>Q .ret s
@[simp ↓] theorem exitQ_x {id i:Nat} {J:St→Prop} {Q:Qt} {s:St}:exitQ id J Q (.exit i) s=if i=id then J s else Q (.exit i) s:=rfl
@[simp ↓] theorem exitQ_n {id:Nat} {J:St→Prop} {Q:Qt} {s:St}:exitQ id J Q .normal s=Q .normal s:=rfl
@[simp ↓] theorem exitQ_r {id:Nat} {J:St→Prop} {Q:Qt} {s:St}:exitQ id J Q .ret s=Q .ret s:=rfl
theorem loopE {P:Program} {G:Gl} {X:XT} {N0 id:Nat} {x:AC} {st:St} {Q:Qt} (I:Nat→St→Prop) (E:St→Prop) (h0:wk P G N0 st fun s=>∃ k,I k s)
  (h:∀ (J:Nat→St→Prop) (L:St→Prop),J=I→L=E→∀ k s,I k s→wcodeX P G X N0 x s (loopN P G N0 J k (exitQ id L (blockQ id Q)))) (hE:∀ s,E s→Q .normal s) :
  wcodeX P G X N0 (.loop x) st (blockQ id Q):=by
 refine loopX I h0 fun k s hs=>?_
 refine wcodeX_mono (fun e s' q=>?_) (h I E rfl rfl k s hs)
 cases e with
 | normal=>exact q
 | ret=>exact q
 | exit i =>
  show if i=id then Q .normal s' else Q (.exit i) s'
  have q:if i=id then E s' else blockQ id Q (.exit i) s':=q
  by_cases hi:i=id
  ·rw [if_pos hi] at q ⊢; exact hE _ q
  ·rw [if_neg hi] at q ⊢
   have q:if i=id then Q .normal s' else Q (.exit i) s':=q
   rw [if_neg hi] at q; exact q
def ofLr:List (Nat×T)→(Nat→T)→Nat→T
 | [],f=>f
 | (d,t) :: r,f=>fun i=>if i=d then t else ofLr r f i
@[simp] theorem ofLr_c {d:Nat} {t:T} {r:List (Nat×T)} {f:Nat→T} {i:Nat}:ofLr ((d,t) :: r) f i=if i=d then t else ofLr r f i:=rfl
theorem ofLr_fix {f:Nat→T}:∀ {l:List (Nat×T)},(∀ p∈l,f p.1=p.2)→f=ofLr l f
 | [],_=>rfl
 | (d,t) :: r,h=>by
  funext i
  simp only [ofLr]
  split
  ·rename_i e; subst e; exact h _ List.mem_cons_self
  ·exact congrFun (ofLr_fix fun p hp=>h p (List.mem_cons_of_mem _ hp)) i
def AtS (l:List (Nat×T)) (H:List O) (s:St):Prop:=∃ f,s=⟨ofLr l f,H⟩
theorem at_mk {l:List (Nat×T)} {sl:Nat→T} {H H':List O} (h:∀ p∈l,sl p.1=p.2) (hH:H'=H):AtS l H ⟨sl,H'⟩:=⟨sl,by rw [← ofLr_fix h,hH]⟩
attribute [simp] elems optI maxLen47 fop.capsOf fop.capsX keyOf keyOf.scals
def AC.hd:AC→AC
 | .seq x _=>x
 | c=>c
def AC.tl:AC→AC
 | .seq _ y=>y
 | c=>c
def Own (H:List O) (sz:Nat) (rows:List (List D)):T→List O→Prop:=fun t H'=>t = .v (.c (.os H.length sz 0 rows.length))∧H'=H ++ [.row sz rows]
section
variable {P:Program} {G:Gl} {N0:Nat}
theorem fin_own {H L:List O} {k sz n:Nat} {rows:List (List D)} (hw:Wf H) (hk:L[k]? = some (.row sz rows)) (hn:n=rows.length) :
  Fin P H.length (Own H sz rows) (.v (.c (.os (H.length+k) sz 0 n))) (H ++ L):=by
 subst hn
 have hlt:k<L.length:=(List.getElem?_eq_some_iff.1 hk).1
 refine fin_pre [k] hw (by simp [selB,phi,hlt]) ?_
 have e1:phiP H.length [k] (H.length+k)=some H.length:=by simp [phiP,phi]; omega
 have e2:L.getD k .dead = .row sz rows:=by rw [List.getD_eq_getElem?_getD,hk]; rfl
 refine ⟨?_,?_⟩
 ·show T.v (V.c (C.ren _ _))=_
  simp only [C.ren,e1]
 ·simp only [List.map_cons,List.map_nil,e2]; rfl
end
def V.lt (n:Nat):V→Prop
 | .c x=>x.lt n
 | .agg cs=>∀ c∈cs,c.lt n
 | .any=>True
def T.lt (n:Nat):T→Prop
 | .v x=>x.lt n
 | .tup vs=>∀ v∈vs,v.lt n
theorem V.ren_id {φ:Nat→Option Nat} {n:Nat} (hφ:∀ r,r<n→φ r=some r) {v:V} (h:v.lt n):v.ren φ=v:=by
 cases v with
 | c c=>simp only [V.ren,C.ren_id hφ h]
 | agg cs =>
  simp only [V.ren]; congr 1
  conv=>rhs; rw [← List.map_id cs]
  exact List.map_congr_left fun c hc=>C.ren_id hφ (h c hc)
 | any=>rfl
theorem T.ren_id {φ:Nat→Option Nat} {n:Nat} (hφ:∀ r,r<n→φ r=some r) {t:T} (h:t.lt n):t.ren φ=t:=by
 cases t with
 | v v=>simp only [T.ren,V.ren_id hφ h]
 | tup vs =>
  simp only [T.ren]; congr 1
  conv=>rhs; rw [← List.map_id vs]
  exact List.map_congr_left fun c hc=>V.ren_id hφ (h c hc)
section
variable {P:Program} {G:Gl} {N0:Nat}
theorem phiP_low {n:Nat} {ids:List Nat}:∀ r,r<n→phiP n ids r=some r:=fun r h=>by simp [phiP,h]
theorem fin_junk {A L:List O} {t:T} {R:T→List O→Prop} (hw:Wf A) (hN:N0=A.length) (ht:t.lt A.length) (h:R t A):Fin P N0 R t (A ++ L):=by
 subst hN
 refine fin_pre [] hw rfl ?_
 rw [T.ren_id phiP_low ht,List.map_nil,List.append_nil]; exact h
section
variable {H L:List O} {r:Nat} {o o':O}
@[simp] theorem get_set_app (h:r<H.length):(H.set r o ++ L)[r]? = some o:=by
 rw [List.getElem?_append_left (by simpa using h),List.getElem?_set_self h]
@[simp] theorem get_set_app0:(H.set r o ++ L)[H.length]? = L[0]? := by
 rw [List.getElem?_append_right (by simp),List.length_set,Nat.sub_self]
@[simp] theorem get_set_appk (k:Nat):(H.set r o ++ L)[H.length+k]? = L[k]? := by
 rw [List.getElem?_append_right (by simp),List.length_set,Nat.add_sub_cancel_left]
@[simp] theorem set_set_app (h:r<H.length):(H.set r o ++ L).set r o'=H.set r o' ++ L:=by
 rw [List.set_append_left _ _ (by simpa using h),List.set_set]
@[simp] theorem set_set_app0:(H.set r o ++ L).set H.length o'=H.set r o ++ L.set 0 o':=by
 rw [List.set_append_right _ _ (by simp),List.length_set,Nat.sub_self]
@[simp] theorem set_set_appk (k:Nat):(H.set r o ++ L).set (H.length+k) o'=H.set r o ++ L.set k o':=by
 rw [List.set_append_right _ _ (by simp),List.length_set,Nat.add_sub_cancel_left]
end
end
section
variable {A B:Type} [DecidableEq A]
def alook:List (A×B)→A→Option B
 | [],_=>none
 | (k,v) :: r,a=>if k=a then some v else alook r a
def aput:List (A×B)→A→B→List (A×B)
 | [],a,b=>[(a,b)]
 | (k,v) :: r,a,b=>if k=a then (a,b) :: r else (k,v) :: aput r a b
def encM (ke:A→Value) (ve:B→PV) (m:List (A×B)):List (Value×PV):=m.map fun p=>(ke p.1,ve p.2)
theorem mfind_enc {ke:A→Value} {ve:B→PV} (hk:∀ a b,keyB (ke a) (ke b)=decide (a=b)) (a:A):∀ (m:List (A×B)),mfind (encM ke ve m) (ke a)=(alook m a).map ve
 | []=>rfl
 | (k,v) :: r=>by
  have ih:=mfind_enc (ve:=ve) hk a r
  simp only [encM,List.map_cons,mfind,alook,hk] at ih ⊢
  by_cases h:k=a
  ·subst h; simp
  ·have h':¬ a=k:=fun e=>h e.symm
   simp [h,h',ih]
theorem mput_enc {ke:A→Value} {ve:B→PV} (hk:∀ a b,keyB (ke a) (ke b)=decide (a=b)) (a:A) (b:B):∀ (m:List (A×B)),mput (encM ke ve m) (ke a) (ve b)=encM ke ve (aput m a b)
 | []=>rfl
 | (k,v) :: r=>by
  have ih:=mput_enc (ve:=ve) hk a b r
  simp only [encM,List.map_cons,mput,aput,hk] at ih ⊢
  by_cases h:k=a
  ·subst h; simp
  ·have h':¬ a=k:=fun e=>h e.symm
   simp [h,h',ih]
end
section
variable {P:Program} {G:Gl} {N0:Nat}
end
section
variable {P:Program} {G:Gl}
theorem acalls_fin {f:Nat} {vs:List V} {H:List O} {R R':T→List O→Prop} (h:ACalls P G f vs H R) (hf:Wf H→∀ t H',R t H'→Fin P H.length R' t H'):ACalls P G f vs H R':=by
 refine ⟨h.1,fun ρ w args hH hG hv=>(h.2 ρ w args hH hG hv).mono ?_⟩
 rintro e w' ⟨v,t,ρ',H',e1,e2,e3,e4,e5⟩
 obtain ⟨t2,H2,hw,hR⟩:=hf (wf_of hH) t H' e2
 obtain ⟨ρ2,a1,a2,a3,a4⟩:=hw.2 ρ' w' v e3 e4
 refine ⟨v,t2,ρ2,H2,e1,hR,a1,a2,⟨fun r b hr=>?_,hw.1,⟨fun b hb=>a4 b (e5.step.sub b hb),e5.step.keep,e5.step.size,e5.step.shape,e5.step.os,e5.step.tape,e5.step.output⟩⟩⟩
 have hlt:=(hH.small r b hr).1
 show ρ2 r=some b
 rw [a3 r hlt]; exact e5.ρ r b hr
theorem own_data {f:Nat} {vs:List V} {H:List O} {sz:Nat} {rows:List (List D)} (h:ACalls P G f vs H (Own H sz rows)):ACalls P G f vs H fun t H'=>t = .v (.c (.d (.sl rows)))∧H'=H:=by
 refine acalls_fin h fun hw t H' ⟨h1,h2⟩=>?_
 subst h1; subst h2
 refine fin_pre_pv (p:=.c (.sl rows)) (L':=[.frow sz rows]) hw ?_ ?_ ⟨rfl,rfl⟩
 ·simp [toPV]
 ·simp [frz,frz1]
theorem fin_tell {H L:List O} {R:T→List O→Prop} {r sz n:Nat} {rows:List (List D)} (hw:Wf H) (hr:H.length≤r) (hk:(H ++ L)[r]? = some (.row sz rows)) (hn:n=rows.length) (h:R (.v (.c (.d (.sl rows)))) H) :
  Fin P H.length R (.v (.c (.os r sz 0 n))) (H ++ L):=by
 subst hn
 refine fin_pre_pv (p:=.c (.sl rows)) (L':=L.set (r-H.length) (.frow sz rows)) hw ?_ ?_ h
 ·simp [toPV,hk]
 ·simp only [V.cells,frz,frz1,hk]
  rw [List.set_append_right _ _ hr]
def mkX {α:Type} (sc:Bool) (enc:α→List PV) (ok:α→Prop) (F:α→T):XE:=⟨sc,fun ps=>open Classical in if h:∃ a,enc a=ps∧ok a then some (True,F (Classical.choose h)) else none⟩
theorem mkX_g {α:Type} {sc:Bool} {enc:α→List PV} {ok:α→Prop} {F:α→T} (inj:∀ a b,enc a=enc b→a=b) (a:α) (h:ok a):(mkX sc enc ok F).g (enc a)=some (True,F a):=by
 have hex:∃ b,enc b=enc a∧ok b:=⟨a,rfl,h⟩
 show (open Classical in if h:∃ b,enc b=enc a∧ok b then some (True,F (Classical.choose h)) else none)=_
 rw [dif_pos hex,inj _ _ (Classical.choose_spec hex).1]
theorem mkX_scal {α:Type} {enc:α→List PV} {ok:α→Prop} {F:α→T} {f:Nat} (hs:∀ a,scT (F a)=true) (h:∀ a,ok a→ACalls P G f ((enc a).map PV.toV) [] fun t H=>t=F a∧H=[]):Contract P G f (mkX true enc ok F):=by
 intro ps ob t hg ho
 have hg:(open Classical in if h:∃ b,enc b=ps∧ok b then some (True,F (Classical.choose h)) else none)=some (ob,t):=hg
 split at hg
 ·rename_i hex
  injection hg with hg; injection hg with h1 h2; subst h2
  have hs':=Classical.choose_spec hex
  show if true=true then _ else _
  rw [if_pos rfl]
  refine ⟨hs _,?_⟩
  have:=h _ hs'.2
  rw [hs'.1] at this; exact this
 ·cases hg
theorem mkX_data {α:Type} {enc:α→List PV} {ok:α→Prop} {F:α→T} {f:Nat} (h:∀ a,ok a→∀ H,ACalls P G f ((enc a).map PV.toV) H fun t H'=>t=F a∧H'=H):Contract P G f (mkX false enc ok F):=by
 intro ps ob t hg ho
 have hg:(open Classical in if h:∃ b,enc b=ps∧ok b then some (True,F (Classical.choose h)) else none)=some (ob,t):=hg
 split at hg
 ·rename_i hex
  injection hg with hg; injection hg with h1 h2; subst h2
  have hs':=Classical.choose_spec hex
  show if false=true then _ else _
  rw [if_neg (by simp)]
  intro H
  have:=h _ hs'.2 H
  rw [hs'.1] at this; exact this
 ·cases hg
end
def bad:AC:=.cond (.const (.int .i64 0)) .skip .skip
def compC2 (tt:TT) (n:Nat):Code→Option AC
 | .region r ops draw=>match compC tt n (.region r ops draw) with
  | some x=>some x
  | none=>some bad
 | .seq a b=>match compC2 tt n a,compC2 tt n b with
  | some x,some y=>some (.seq x y)
  | _,_=>none
 | .cond c a b=>match compC2 tt n a,compC2 tt n b with
  | some x,some y=>some (.cond c x y)
  | _,_=>none
 | .block id a=>match compC2 tt n a with
  | some x=>some (.block id x)
  | none=>none
 | .loop a=>match compC2 tt n a with
  | some x=>some (.loop x)
  | none=>none
 | c=>compC tt n c
def compF2 (tt:TT) (fn:Func):Option AF :=
 match fn.body with
 | some c=>if fn.name == "runtime.NumGoroutine" then none else match compC2 tt fn.ntmps c,compR tt fn.results.toList with
  | some b,some r=>some ⟨fn.ntmps,r,b⟩
  | _,_=>none
 | none=>none
section
variable {P:Program} {G:Gl} {n:Nat} {b:Base} {ρ:Nat→Option Nat} {st:St} {a:Act} {w:World} {B:Nat} {tt:TT}
theorem bad_no {N0:Nat} {Q:Qt} (h:wcode P G N0 bad st Q):False:=h
theorem code_sound2 (htab:tabB P tt=true) (hmix:P.follows .mixedOrders=true) {N0:Nat} (hb:b.good N0):∀ (c:Code) (ac:AC),compC2 tt n c=some ac→∀ (Q:Qt) (ρ:Nat→Option Nat) (st:St) (a:Act) (w:World),wcode P G N0 ac st Q→Sim P G n b ρ st a w→c.wp P (post P G n b Q) a w:=by
 intro c
 induction c with
 | skip =>
  intro ac hc Q ρ st a w h hs
  simp only [compC2,compC,Option.some.injEq] at hc; subst hc
  exact wp_skip ⟨ρ,st,hs,h⟩
 | exit id =>
  intro ac hc Q ρ st a w h hs
  simp only [compC2,compC,Option.some.injEq] at hc; subst hc
  exact wp_exit ⟨ρ,st,hs,h⟩
 | ret =>
  intro ac hc Q ρ st a w h hs
  simp only [compC2,compC,Option.some.injEq] at hc; subst hc
  exact wp_ret ⟨ρ,st,hs,h⟩
 | region id ops draw =>
  intro ac hc Q ρ st a w h hs
  simp only [compC2] at hc
  split at hc
  ·rename_i x hx
   injection hc with hc; subst hc
   exact code_sound htab hmix hb _ _ hx Q ρ st a w h hs
  ·injection hc with hc; subst hc
   exact (bad_no h).elim
 | seq x y ihx ihy =>
  intro ac hc Q ρ st a w h hs
  simp only [compC2] at hc
  split at hc
  ·rename_i x' y' hx hy
   injection hc with hc; subst hc
   refine wp_seq (wp_mono (ihx x' hx _ ρ st a w h hs) ?_)
   intro e a' w' hp
   cases e with
   | normal =>
    obtain ⟨ρ',st',hs',h'⟩:=hp
    exact ihy y' hy Q ρ' st' a' w' h' hs'
   | exit id=>exact hp
   | ret=>exact hp
   | goto l=>exact hp
   | panic ch=>exact hp
   | outgrown=>exact hp
  ·cases hc
 | cond c x y ihx ihy =>
  intro ac hc Q ρ st a w h hs
  simp only [compC2] at hc
  split at hc
  ·rename_i x' y' hx hy
   injection hc with hc; subst hc
   simp only [wcode] at h
   unfold condP at h
   split at h
   ·rename_i t he
    exact wp_cond_split (ev_val hs he) (fun ht=>ihx x' hx Q ρ st a w (h.1 ht) hs) (fun ht=>ihy y' hy Q ρ st a w (h.2 ht) hs)
   ·exact h.elim
  ·cases hc
 | block id x ih =>
  intro ac hc Q ρ st a w h hs
  simp only [compC2] at hc
  split at hc
  ·rename_i x' hx
   injection hc with hc; subst hc
   refine wp_block (wp_mono (ih x' hx _ ρ st a w h hs) ?_)
   intro e a' w' hp
   cases e with
   | exit id' =>
    obtain ⟨ρ',st',hs',h'⟩:=hp
    simp only [blockQ] at h'
    simp only [Exit.inBlock]
    split
    ·rename_i e; rw [if_pos e] at h'; exact ⟨ρ',st',hs',h'⟩
    ·rename_i e; rw [if_neg e] at h'; exact ⟨ρ',st',hs',h'⟩
   | normal=>exact hp
   | ret=>exact hp
   | goto l=>exact hp
   | panic ch=>exact hp
   | outgrown=>exact hp
  ·cases hc
 | loop x ih =>
  intro ac hc Q ρ st a w h hs
  simp only [compC2] at hc
  split at hc
  ·rename_i x' hx
   injection hc with hc; subst hc
   obtain ⟨I,μ,⟨st1,hw1,hI⟩,hround⟩:=h
   obtain ⟨ρ1,hs1⟩:=hw1 n b ρ a w hb.1 hb.2 hs
   refine wp_loop_rel (fun s a w=>I s∧∃ ρ,Sim P G n b ρ s a w) μ (s₀:=st1) ⟨hI,ρ1,hs1⟩ ?_
   intro s a w ⟨hIs,ρs,hss⟩
   refine wp_mono (ih x' hx _ ρs s a w (hround s hIs) hss) ?_
   intro e a' w' hp
   cases e with
   | normal =>
    obtain ⟨ρ',st',hs',st2,hw2,h2,h3⟩:=hp
    obtain ⟨ρ2,hs2⟩:=hw2 n b ρ' a' w' hb.1 hb.2 hs'
    exact ⟨st2,⟨h2,ρ2,hs2⟩,h3⟩
   | exit id=>exact hp
   | ret=>exact hp
   | goto l=>exact hp
   | panic ch=>exact hp
   | outgrown=>exact hp
  ·cases hc
 | _=>intro ac hc; simp [compC2,compC] at hc
theorem acalls_intro2 (htab:tabB P tt=true) (hmix:P.follows .mixedOrders=true) {f:Nat} {fn:Func} {af:AF} (hf:P.funcs[f]? = some fn) (hc:compF2 tt fn=some af) {args:List V} {H:List O} {R:T→List O→Prop} (hn:Nat.ble args.length af.n=true)
  (h:wcode P G H.length af.body ⟨argSl args,H⟩ (retQ P H.length af.res R)):ACalls P G f args H R:=by
 unfold compF2 at hc
 split at hc
 ·rename_i c hb
  split at hc
  ·cases hc
  ·rename_i hname
   split at hc
   ·rename_i bd rs hbd hrs
    injection hc with hc; subst hc
    refine ⟨⟨fn,hf,by rw [hb]; rfl,by simpa using hname⟩,fun ρ w vs hH hG hv=>?_⟩
    refine calls_of_wp hf hb ?_
    let bs:Base:=⟨stab ρ H w,w,ρ,H.length⟩
    have hle:vs.size≤fn.ntmps:=by rw [hv.1]; exact Nat.le_of_ble_eq_true hn
    ·have hsim:Sim P G fn.ntmps bs ρ ⟨argSl args,H⟩ { tmps:=vs ++ Array.replicate (fn.ntmps-vs.size) undef,defers:=[] } w:=by
      refine ⟨hH,by simp; omega,rfl,fun t=>?_,hG,.refl _⟩
      show TRel P _ (argSl args t) _
      unfold argSl
      split
      ·rename_i x hx
       have hlt:t<vs.size:=by rw [hv.1]; exact lt_of_get hx
       refine hv.2 t x _ hx ?_
       rw [Array.getD_eq_getD_getElem?,Array.getElem?_append,if_pos hlt]
       simp [hlt]
      ·trivial
     have hgood:bs.good H.length:=⟨rfl,fun r x hr=>(hH.small r x hr).1⟩
     refine wp_mono (code_sound2 htab hmix hgood c bd hbd _ ρ _ _ w h hsim) ?_
     have fin:∀ ρ' st' a' w',Sim P G fn.ntmps bs ρ' st' a' w'→(match resL st' rs with | some l=>Fin P H.length R (resT l) st'.hp | none=>False) →
       a'.defers=[]∧∃ v,(results fn a'.tmps).run P w' = .ok v w'∧∃ v' t ρ'' H',Ending.returned v = .returned v'∧R t H'∧HRel P ρ'' H' w'∧TRel P (ctx ρ'' H' w') t v'∧(ctx ρ H w).le (ctx ρ'' H' w'):=by
      intro ρ' st' a' w' hs' hfin
      refine ⟨hs'.defers,?_⟩
      split at hfin
      ·rename_i l hl
       obtain ⟨vs',q1,q2,q3⟩:=res_run htab hs' fn.results.toList rs l hrs hl
       have hrel:TRel P (ctx ρ' st'.hp w') (resT l) (if h:vs'.toArray.size=1 then vs'.toArray[0] else .tuple vs'.toArray):=by
        unfold resT
        split
        ·rename_i v0
         match vs',q2,q3 with
         | [u],_,q3=>exact q3 0 _ _ rfl rfl
        ·rename_i hne
         have:¬ vs'.toArray.size=1:=by
          intro e
          rw [List.size_toArray,q2] at e
          obtain ⟨x,hx⟩:=List.length_eq_one_iff.1 e
          exact hne x hx
         rw [dif_neg this]
         exact ⟨_,rfl,by simpa using q2,fun i c v hi hv=>q3 i c v hi (by simpa using hv)⟩
       obtain ⟨t',H',⟨hN,hw⟩,hR⟩:=hfin
       obtain ⟨ρ'',g1,g2,g3,g4⟩:=hw ρ' w' _ hs'.heap hrel
       refine ⟨_,?_,_,t',ρ'',H',rfl,hR,g1,g2,fun r x hr=>?_,by simpa [ctx] using hN,hs'.le.step.more g4⟩
       ·unfold results
        rw [Sem.run_bind,Array.mapM_eq_mapM_toList,Sem.run_map]
        erw [q1]
        rfl
       ·show ρ'' r=some x
        rw [g3 r (hH.small r x hr).1]
        exact hs'.le.ρ r x hr
      ·exact hfin.elim
     intro e a' w' hp
     cases e with
     | normal=>obtain ⟨ρ',st',hs',h'⟩:=hp; exact fin ρ' st' a' w' hs' h'
     | ret=>obtain ⟨ρ',st',hs',h'⟩:=hp; exact fin ρ' st' a' w' hs' h'
     | exit id=>obtain ⟨ρ',st',hs',h'⟩:=hp; exact h'.elim
     | goto l=>exact hp.elim
     | panic ch=>exact hp.elim
     | outgrown=>exact hp.elim
   ·cases hc
 ·cases hc
theorem acalls_pre2 {tt:TT} (htab:tabB P tt=true) (hmix:P.follows .mixedOrders=true) {f:Nat} {fn:Func} {af:AF} (hf:P.funcs[f]? = some fn) (hc:compF2 tt fn=some af) {args:List V} {H:List O} {R:T→List O→Prop} (hn:Nat.ble args.length af.n=true)
  (h:Wf H→wcode P G H.length af.body ⟨argSl args,H⟩ (retQ P H.length af.res R)):ACalls P G f args H R:=by
 have hcal:Callable P f:=by
  have hc':=hc
  unfold compF2 at hc'
  split at hc'
  ·rename_i c hb
   split at hc'
   ·cases hc'
   ·rename_i hname
    exact ⟨fn,hf,by rw [hb]; rfl,by simpa using hname⟩
  ·cases hc'
 exact ⟨hcal,fun ρ w vs hH=>(acalls_intro2 htab hmix hf hc hn (h (wf_of hH))).2 ρ w vs hH⟩
theorem acallsX2 {X:XT} (hX:GoodX P G X) (htab:tabB P tt=true) (hmix:P.follows .mixedOrders=true) {f:Nat} {fn:Func} {af:AF} (hf:P.funcs[f]? = some fn) (hc:compF2 tt fn=some af) {args:List V} {H:List O} {R:T→List O→Prop} (hn:Nat.ble args.length af.n=true)
  (h:Wf H→wcodeX P G X H.length af.body ⟨argSl args,H⟩ (retQ P H.length af.res R)):ACalls P G f args H R :=
 acalls_pre2 htab hmix hf hc hn fun hw=>wcodeX_sound hX (h hw)
end
end Go.Aw
