
/- A call that is walked through where it stands; calls that answer lists in new memory that are only read; states told anew where facts are kept. No statement of the program. -/
import Derived.Test.YtkjeedlkkpgopaaZO
namespace Go.Proofs.Ytkjeedlkkpgopaa.Z
open Go Go.RowKit
set_option linter.unusedSimpArgs false
set_option linter.unusedVariables false

/-! ### values hang on their names alone -/
theorem den_same {p : Nat → Prop} {E E2 : Env} (h : ∀ x : Nm, p x.1 → Same E E2 x) {v : SV} (hv : v.okN p) : v.den E2 = v.den E := by
  have h1 : v.den E2 = (v.ren id).den E := sv_ren (σ := id) (fun x hx => h x hx) v hv
  have h2 : v.den E = (v.ren id).den E := sv_ren (σ := id) (fun x _ => ⟨rfl, rfl, rfl, rfl⟩) v hv
  rw [h1, h2]
theorem sc_same {p : Nat → Prop} {E E2 : Env} (h : ∀ x : Nm, p x.1 → Same E E2 x) {v : SC} (hv : v.okN p) : v.den E2 = v.den E := den_same (v := .c v) h hv
def okVs (p : Nat → Prop) : List SV → Prop
  | [] => True
  | v :: l => v.okN p ∧ okVs p l
theorem dens_same {p : Nat → Prop} {E E2 : Env} (h : ∀ x : Nm, p x.1 → Same E E2 x) : ∀ {l : List SV}, okVs p l → l.map (SV.den E2) = l.map (SV.den E)
  | [], _ => rfl
  | v :: l, hl => by rw [List.map_cons, List.map_cons, den_same h hl.1, dens_same h hl.2]

/-! ### a call that is walked through -/
/-- the names up to n0 stand for what they stand for in E0 -/
def AgF (n0 : Nat) (E0 : Env) : Env → World → Prop := fun E _ => AgreeD (· < n0) E0 E
/-- what the caller knows of its slots -/
structure TmpOk (E0 : Env) (a : Act) (S : St) : Prop where
  size : a.tmps.size = S.nt
  defers : a.defers = []
  tmps : ∀ E', AgreeD (· < S.nid) E0 E' → OneC E' → ∀ t v, look S.tmps t = some v → t < S.nt ∧ a.tmps.getD t undef = v.den E'
def InlR (C : Ctx) (S : St) (dst : Option Nat) (K : St → Prop) (E0 : Env) (a : Act) (e : Ending) (w' : World) : Prop :=
  ∃ u, e = .returned u ∧ ∃ E' S', SatA C.B C.W C.w0 E' S' (a.put dst u) w' ∧ K S'
def mkI (C : Ctx) (rs : List RS) (S : St) (dst : Option Nat) (K : St → Prop) (E0 : Env) (a : Act) : Ctx := ⟨C.P, C.tab, C.B, C.W, C.w0, rs, InlR C S dst K E0 a⟩
theorem mkI_rs (C : Ctx) (rs : List RS) (S : St) (dst : Option Nat) (K : St → Prop) (E0 : Env) (a : Act) : (mkI C rs S dst K E0 a).rs = rs := rfl

theorem call_inline {C : Ctx} {f : Nat} {vs : List SV} {dst : Option Nat} {S : St} {K : St → Prop} {fn : Func} {x : Code} {c : IR} {rs : List RS} {nt : Nat} (n : Nat) (hT : C.tab.Ok C.P) (hf : C.P.funcs[f]? = some fn) (hb : fn.body = some x) (hc : compC C.tab x = some c.strip) (hr : compR C.tab.T fn.results.toList = some rs) (hn : fn.ntmps = nt)
    (hvs : okVs (· < S.nid) vs) (hnt : vs.length ≤ nt)
    (hex : ∀ E0 a, TmpOk E0 a S → exec (mkI C rs S dst K E0 a) n [.code c] ⟨nt, enumT 0 vs, S.own, S.arrs, AgF S.nid E0 :: S.facts, S.nid⟩) : CallVC C f vs dst S K := by
  intro E a w hs
  subst hn
  have hok : TmpOk E a S := ⟨hs.sat.size, hs.sat.defers, fun E' h1 h2 t v ht => (hs.2 E' h1 h2).tmps t v ht⟩
  refine calls_of_exec (C := mkI C rs S dst K E a) (E := E) n hT hf hb hc hr ⟨hs.1, fun E' h1 h2 => ?_⟩ (hex E a hok)
  have hs' := hs.2 E' h1 h2
  have hvv : vs.map (SV.den E') = vs.map (SV.den E) := dens_same (p := (· < S.nid)) (fun x hx => h1 x hx) hvs
  refine ⟨by simp; omega, rfl, h2, fun t v ht => ?_, hs'.frame, ?_⟩
  · obtain ⟨j, rfl, hj⟩ := look_enumT vs 0 t v ht
    have hjl : j < vs.length := (List.getElem?_eq_some_iff.1 hj).1
    refine ⟨by simp only; omega, ?_⟩
    simp only [← hvv, Nat.zero_add, Array.getD_eq_getD_getElem?]
    rw [Array.getElem?_append_left (by simpa using hjl)]
    simp [hj]
  · obtain ⟨H, hH, hF⟩ := hs'.mem
    refine ⟨H, hH, fun w' hw' => ⟨(hF w' hw').1, fun φ hφ => ?_⟩⟩
    cases hφ with
    | head => exact h1
    | tail _ hφ => exact (hF w' hw').2 φ hφ
/-- the end of such a walk -/
theorem retI {C : Ctx} {rs : List RS} {S S2 : St} {dst : Option Nat} {K : St → Prop} {E0 : Env} {a : Act} {v : SV} (hok : TmpOk E0 a S) (fs : List (Env → World → Prop)) (hf : S2.facts = AgF S.nid E0 :: fs) (hle : S.nid ≤ S2.nid) (hv : v.okN (· < S2.nid))
    (hk : K ⟨S.nt, S.putT dst v, S2.own, S2.arrs, fs, S2.nid⟩) : RetVC (mkI C rs S dst K E0 a) v S2 := by
  intro E a2 w hs
  refine ⟨_, rfl, E, ⟨S.nt, S.putT dst v, S2.own, S2.arrs, fs, S2.nid⟩, ⟨hs.1, fun E' h1 h2 => ?_⟩, hk⟩
  have hs' := hs.2 E' h1 h2
  obtain ⟨H, hH, hF⟩ := hs'.mem
  have hag : AgreeD (· < S.nid) E0 E' := by
    have := (hF w fun _ _ _ => rfl).2 (AgF S.nid E0) (by rw [hf]; exact List.mem_cons_self)
    exact this
  have hvv : v.den E' = v.den E := den_same (p := (· < S2.nid)) (fun x hx => h1 x hx) hv
  refine ⟨by rw [put_size']; exact hok.size, by rw [put_defers']; exact hok.defers, h2, fun t u ht => ?_, hs'.frame, H, hH, fun w' hw' => ⟨(hF w' hw').1, fun φ hφ => (hF w' hw').2 φ (by rw [hf]; exact List.mem_cons_of_mem _ hφ)⟩⟩
  rw [← hvv]
  cases dst with
  | none => exact hok.tmps E' hag h2 t u ht
  | some d =>
    simp only [St.putT] at ht
    split at ht
    · next hd =>
      rw [look_setL] at ht
      split at ht
      · next e =>
        subst e
        simp only [Option.some.injEq] at ht
        subst ht
        exact ⟨hd, put_same' _ _ _ (by rw [hok.size]; exact hd)⟩
      · next e => 
        obtain ⟨g1, g2⟩ := hok.tmps E' hag h2 t u ht
        exact ⟨g1, by rw [put_other' _ _ _ _ e]; exact g2⟩
    · next hd =>
      obtain ⟨g1, g2⟩ := hok.tmps E' hag h2 t u ht
      exact ⟨g1, by rw [put_other' _ _ _ _ (fun e => hd (by subst e; exact g1))]; exact g2⟩

/-! ### a state told by other names, where facts are kept -/
/-- a fact that stands where the names are told so -/
def FStab (σ : Nm → Nm) (n : Nat) (φ : Env → World → Prop) : Prop := ∀ E E2 w, (∀ x : Nm, x.1 < n → SameR σ E E2 x) → φ E w → φ E2 w
theorem agF_stab {σ : Nm → Nm} {n n0 : Nat} {E0 : Env} (hn : n0 ≤ n) (hσ : ∀ x : Nm, x.1 < n0 → σ x = x) : FStab σ n (AgF n0 E0) := by
  intro E E2 w h hf x hx
  have h1 := h x (Nat.lt_of_lt_of_le hx hn)
  have h2 := hf x hx
  unfold SameR at h1
  rw [hσ x hx] at h1
  exact h2.trans h1
/-- a fact, told by other names -/
def FactLe (σ : Nm → Nm) (n : Nat) (fs : List (Env → World → Prop)) (φ : Env → World → Prop) : Prop := ∃ φ0 ∈ fs, ∀ E E2 w, (∀ x : Nm, x.1 < n → SameR σ E E2 x) → φ0 E w → φ E2 w
def FactsLe (σ : Nm → Nm) (n : Nat) (fs : List (Env → World → Prop)) : List (Env → World → Prop) → Prop
  | [] => True
  | φ :: l => FactLe σ n fs φ ∧ FactsLe σ n fs l
theorem factsLe_mem {σ : Nm → Nm} {n : Nat} {fs : List (Env → World → Prop)} : ∀ {l : List (Env → World → Prop)}, FactsLe σ n fs l → ∀ φ ∈ l, FactLe σ n fs φ
  | [], _, φ, h => by cases h
  | ψ :: l, hl, φ, h => by
    cases h with
    | head => exact hl.1
    | tail _ h => exact factsLe_mem hl.2 φ h
theorem fact_stab {σ : Nm → Nm} {n : Nat} {fs : List (Env → World → Prop)} {φ : Env → World → Prop} (h : φ ∈ fs) (hs : FStab σ n φ) : FactLe σ n fs φ := ⟨φ, h, hs⟩
structure RenF (σ : Nm → Nm) (S S' : St) : Prop where
  nt : S'.nt = S.nt
  facts : FactsLe σ S'.nid S.facts S'.facts
  tmps : TmpsLe (· < S'.nid) σ S.tmps S'.tmps
  own : OwnLe (· < S'.nid) σ S.own S'.own
  arrs : ArrsLe (· < S'.nid) σ S.arrs S'.arrs
  inj : InjN σ S'.own
theorem le_nmF {C : Ctx} {S S' : St} (σ : Nm → Nm) (h : RenF σ S S') : Le C S S' := by
  intro E a w hs
  refine ⟨E.via σ, fun x => hs.1 _, fun E2 hE2 ho2 => ?_⟩
  have hs := hs.sat
  have hR : ∀ x : Nm, x.1 < S'.nid → SameR σ E E2 x := fun x hx => hE2 x hx
  obtain ⟨H, hH, hF⟩ := hs.mem
  have hat : ∀ x b', atN S'.own x = some b' → x.1 < S'.nid ∧ ∃ b, atN S.own (σ x) = some b ∧ BlkLe (· < S'.nid) σ b b' := fun x b' hx => ownLe_at h.own hx
  refine ⟨hs.size.trans h.nt.symm, hs.defers, ho2, ?_, hs.frame, fun x => H (σ x), ⟨?_, ?_, ?_⟩, ?_⟩
  · intro t v ht
    obtain ⟨h1, h2⟩ := tmpsLe_at h.tmps ht
    obtain ⟨g1, g2⟩ := hs.tmps t _ h1
    exact ⟨by rw [h.nt]; exact g1, by rw [g2, sv_ren hR v h2]⟩
  · intro x b' hx
    obtain ⟨h1, b, h2, h3⟩ := hat x b' hx
    exact blk_le hR h1 h3 (hH.den _ _ h2)
  · intro x y b' c' hx hy hne n
    obtain ⟨_, b, h2, _⟩ := hat x b' hx
    obtain ⟨_, c, g2, _⟩ := hat y c' hy
    exact hH.disj _ _ b c h2 g2 (fun e => hne (h.inj x y b' c' hx hy e)) n
  · intro x b' hx n o hn
    obtain ⟨_, b, h2, _⟩ := hat x b' hx
    exact hH.sub _ b h2 n o hn
  · intro w' hw'
    have hold := hF w' (fun n hn hfr => hw' n hn (fun x b' hx => let ⟨_, b, h2, _⟩ := hat x b' hx; hfr _ b h2))
    refine ⟨fun x A' hA => ?_, fun φ hφ => let ⟨φ0, h0, h1⟩ := factsLe_mem h.facts φ hφ; h1 E E2 w' hR (hold.2 φ0 h0)⟩
    obtain ⟨h1, A, h2, h3, h4, h5, h6⟩ := arrsLe_at h.arrs hA
    obtain ⟨ba, cap, g1, g2, g3, g4⟩ := hold.1 _ A h2
    refine ⟨ba, cap, by rw [(hR x h1).2.2.2, g1, h3], by omega, g3, ?_⟩
    rcases g4 with g4 | ⟨b, off, rfl, gl, g4⟩
    · exact Or.inl (by omega)
    · refine Or.inr ⟨b, off, rfl, Nat.le_trans h6 gl, fun k hk => ?_⟩
      obtain ⟨f1, f2⟩ := g4 k (by omega)
      obtain ⟨e1, e2⟩ := h5 k hk
      rw [e1] at f1 f2
      refine ⟨by rw [renL_eq, List.length_map] at f1; omega, fun j u hu => ?_⟩
      have := f2 j _ (mem_renL hu)
      rw [den_ren hR u (okL_mem e2 hu), ← h4]
      exact this
theorem le_renF {C : Ctx} {S S' : St} (τ : Nat → Nat) (h1 : S'.nt = S.nt) (h2 : FactsLe (idσ τ) S'.nid S.facts S'.facts) (h3 : TmpsLe (· < S'.nid) (idσ τ) S.tmps S'.tmps) (h4 : OwnLe (· < S'.nid) (idσ τ) S.own S'.own) (h5 : ArrsLe (· < S'.nid) (idσ τ) S.arrs S'.arrs) (h6 : injL τ (keysL S'.own) = true) : Le C S S' :=
  le_nmF (idσ τ) ⟨h1, h2, h3, h4, h5, injN_id h6⟩
/-- the fact of a call that is walked through -/
theorem factA {τ : Nat → Nat} {n n0 : Nat} {E0 : Env} {fs : List (Env → World → Prop)} (h : AgF n0 E0 ∈ fs) (hn : n0 ≤ n) (hτ : ∀ i, i < n0 → τ i = i) : FactLe (idσ τ) n fs (AgF n0 E0) :=
  fact_stab h (agF_stab hn fun x hx => by unfold idσ; rw [hτ _ hx])

/-! ### functions that answer lists in new memory that are only read (where Pre holds still) -/
def RetB (w : World) (Pre : World → Prop) (nx : Nat) (T : Nat → SV) (A : Nat → List (Nat × Fm ArrF)) (e : Ending) (w' : World) : Prop :=
  ∃ v, e = .returned v ∧ Below w.heap.size w w' ∧ ∀ b, ∃ N : Env, OneC N ∧ ∀ E2, AgreeD (NewIds b nx) N E2 → v = (T b).den E2 ∧
    ∀ w'' : World, Pre w'' → (∀ n, w.heap.size ≤ n → n < w'.heap.size → w''.heap[n]? = w'.heap[n]?) → ∀ x A', atN (A b) x = some A' → ArrAt E2 w'' x A'
theorem cr_retB {C : Ctx} {S : St} {f : Nat} {vs : List SV} (nx : Nat) (T : Nat → SV) (A : Nat → List (Nat × Fm ArrF)) (ks : List Nat) (Pre : Env → World → Prop)
    (hp : ∀ E E2 w'', AgreeD (· ∈ ks) E E2 → Holds E2 S w'' → Pre E w'')
    (hc : ∀ E a w, Sat C.B C.W C.w0 E S a w → Calls C.P f (vs.map (SV.den E)).toArray w (RetB w (Pre E) nx T A)) : CR C f vs S ks (T S.nid) nx [] (A S.nid) := by
  intro E a w hs
  refine (hc E a w hs).mono ?_
  rintro e w' ⟨v, rfl, hb, hN⟩
  obtain ⟨N, hN1, hN2⟩ := hN S.nid
  refine ⟨v, rfl, N, hN1, fun E2 hs2 hk hag => ?_⟩
  obtain ⟨h1, h2⟩ := hN2 E2 hag
  refine ⟨h1, fun n => w.heap.size ≤ n ∧ n < w'.heap.size, fun n h => h, fun H hH => ⟨hb.os, hb.tape, hb.output, hb.size, fun n hn _ => hb.block n hn, fun _ => emp, fun x b h => (atN_nil h).elim, fun x y b c h => (atN_nil h).elim, fun x b h => (atN_nil h).elim⟩, fun w'' hw'' hG x A' hA' => ?_⟩
  exact h2 w'' (hp E E2 w'' hk hw'') (fun n h1 h2 => hG n ⟨h1, h2⟩) x A' hA'
theorem callB {C : Ctx} {S : St} {f : Nat} {vs : List SV} {dst : Option Nat} {K : St → Prop} (nx : Nat) (T : Nat → SV) (A : Nat → List (Nat × Fm ArrF))
    (hc : ∀ E a w, Sat C.B C.W C.w0 E S a w → Calls C.P f (vs.map (SV.den E)).toArray w (RetB w (fun _ => True) nx T A)) (h : K (S.call dst (T S.nid) nx [] (A S.nid))) : CallVC C f vs dst S K :=
  call_intro (cr_retB nx T A [] (fun _ _ => True) (fun _ _ _ _ _ => trivial) hc) (fun i hi => by cases hi) h
/-- lists that lie in memory from block B on -/
def NwL (B : Nat) (A : List (Nat × Fm ArrF)) : Env → World → Prop := fun E w => ∀ w'' : World, (∀ n, B ≤ n → n < w.heap.size → w''.heap[n]? = w.heap[n]?) → ∀ x A', atN A x = some A' → ArrAt E w'' x A'
theorem callF {C : Ctx} {S : St} {f : Nat} {vs : List SV} {dst : Option Nat} {K : St → Prop} (nx : Nat) (T : Nat → SV) (A : Nat → List (Nat × Fm ArrF)) (hid : ∀ x A', atN (A S.nid) x = some A' → NewIds S.nid nx x.1)
    (hc : ∀ E a w, Sat C.B C.W C.w0 E S a w → Calls C.P f (vs.map (SV.den E)).toArray w (RetB w (fun _ => True) nx T A))
    (h : K ⟨S.nt, S.putT dst (T S.nid), S.own, mergeL (A S.nid) S.arrs, NwL C.B (A S.nid) :: S.facts, S.nid + nx⟩) : CallVC C f vs dst S K := by
  intro E a w hs
  refine (hc E a w hs.sat).mono ?_
  rintro e w' ⟨v, rfl, hb, hN⟩
  obtain ⟨N, hN1, hN2⟩ := hN S.nid
  refine ⟨v, rfl, E.mix N S.nid nx, _, ⟨mix_one hs.1 hN1, fun E2 hE2 ho2 => ?_⟩, h⟩
  have hold : AgreeD (· < S.nid) E E2 := fun x hx => (mix_old (N := N) (nx := nx) (fun h => absurd h.1 (Nat.not_le_of_lt hx))).trans (hE2 x (Nat.lt_of_lt_of_le hx (Nat.le_add_right _ _)))
  have hnew : AgreeD (NewIds S.nid nx) N E2 := fun x hx => (mix_new hx).trans (hE2 x hx.2)
  have hs2 := hs.2 E2 hold ho2
  obtain ⟨hv, hA⟩ := hN2 E2 hnew
  obtain ⟨H, hH, hF⟩ := hs2.mem
  have hBw : C.B ≤ w.heap.size := hs2.frame.size
  refine ⟨by rw [put_size']; exact hs2.size, by rw [put_defers']; exact hs2.defers, ho2, ?_, ?_, H, ⟨hH.den, hH.disj, fun x b hx n o hn => ⟨?_, (hH.sub x b hx n o hn).2⟩⟩, fun w'' hw'' => ?_⟩
  · rw [hv]
    exact sat_put hs2 dst (T S.nid)
  · exact ⟨hb.os.trans hs2.frame.os, hb.tape.trans hs2.frame.tape, hb.output.trans hs2.frame.output, Nat.le_trans hBw hb.size, fun n hn hw => (hb.block n (Nat.lt_of_lt_of_le hn hBw)).trans (hs2.frame.keep n hn hw)⟩
  · rw [hb.block n (hH.lt hx hn)]
    exact (hH.sub x b hx n o hn).1
  have hnw : ∀ n, w.heap.size ≤ n → n < w'.heap.size → w''.heap[n]? = w'.heap[n]? := fun n h1 h2 => hw'' n h2 fun x b hx => by
    cases ho : H x n with
    | none => rfl
    | some o => exact absurd (hH.lt hx ho) (Nat.not_lt_of_le h1)
  have hold2 := hF w'' fun n hn hfr => (hw'' n (Nat.lt_of_lt_of_le hn hb.size) hfr).trans (hb.block n hn)
  refine ⟨fun x A' hx => ?_, fun φ hφ => ?_⟩
  · rw [atN_mergeL] at hx
    split at hx
    · exact hA w'' trivial hnw x A' hx
    · exact hold2.1 x A' hx
  · cases hφ with
    | head =>
      intro w3 hw3 x A' hx
      refine hA w3 trivial (fun n h1 h2 => ?_) x A' hx
      have hlt : n < w''.heap.size := by
        have := hnw n h1 h2
        rw [Array.getElem?_eq_getElem h2] at this
        exact (Array.getElem?_eq_some_iff.1 this).1
      rw [hw3 n (Nat.le_trans hBw h1) hlt]
      exact hnw n h1 h2
    | tail _ hφ => exact hold2.2 φ hφ

/-! ### lists that lie from a block on -/
def ArrF.lo (l : Nat) (A : ArrF) : ArrF := ⟨A.len, A.size, A.at_, l⟩
def loFm (l : Nat) : Fm ArrF → Fm ArrF
  | .one A => .one (A.lo l)
  | .fam n f => .fam n fun k => (f k).lo l
  | .fam2 n m f => .fam2 n m fun k j => (f k j).lo l
def lowL (l : Nat) : List (Nat × Fm ArrF) → List (Nat × Fm ArrF)
  | [] => []
  | (i, F) :: r => (i, loFm l F) :: lowL l r
theorem lo_arrOf {α : Type} (enc : α → List Value) (s : Nat) (xs : List α) (d : α) (l l' : Nat) : (arrOf enc s xs d l).lo l' = arrOf enc s xs d l' := rfl
theorem lo_len (l : Nat) (A : ArrF) : (A.lo l).len = A.len := rfl
theorem lo_size (l : Nat) (A : ArrF) : (A.lo l).size = A.size := rfl
theorem lo_at (l : Nat) (A : ArrF) : (A.lo l).at_ = A.at_ := rfl
theorem mkC_B (P : Program) (A : List Nat) (w : World) (rs : List RS) (R : Ending → World → Prop) : (mkC P A w rs R).B = w.heap.size := rfl
theorem mkI_B (C : Ctx) (rs : List RS) (S : St) (dst : Option Nat) (K : St → Prop) (E0 : Env) (a : Act) : (mkI C rs S dst K E0 a).B = C.B := rfl
theorem atN_lowL {l : Nat} : ∀ {L : List (Nat × Fm ArrF)} {x : Nm} {A' : ArrF}, atN (lowL l L) x = some A' → ∃ A, atN L x = some A ∧ A' = A.lo l
  | [], x, A', h => by simp [lowL, atN, look] at h
  | (i, F) :: r, (j, k, m), A', h => by
    simp only [lowL, atN, look_cons] at h ⊢
    by_cases e : i = j
    · subst e
      rw [if_pos rfl] at h
      rw [if_pos rfl]
      cases F with
      | one A =>
        simp only [loFm, Fm.get] at h ⊢
        split at h
        · next e => rw [if_pos e]; cases h; exact ⟨_, rfl, rfl⟩
        · cases h
      | fam n f =>
        simp only [loFm, Fm.get] at h ⊢
        split at h
        · next e => rw [if_pos e]; cases h; exact ⟨_, rfl, rfl⟩
        · cases h
      | fam2 n g f =>
        simp only [loFm, Fm.get] at h ⊢
        split at h
        · next e => rw [if_pos e]; cases h; exact ⟨_, rfl, rfl⟩
        · cases h
    · rw [if_neg e] at h
      rw [if_neg e]
      exact atN_lowL (L := r) (x := (j, k, m)) h
/-- a list whose reading hangs on new memory alone lies in new memory -/
theorem arrAt_low {E : Env} {w w' : World} {x : Nm} {A : ArrF} {B l : Nat} (hl : l ≤ B) (hs : 0 < A.size) (h : ∀ w'' : World, (∀ n, B ≤ n → n < w'.heap.size → w''.heap[n]? = w'.heap[n]?) → ArrAt E w'' x A) :
    ∀ w'' : World, (∀ n, B ≤ n → n < w'.heap.size → w''.heap[n]? = w'.heap[n]?) → ArrAt E w'' x (A.lo l) := fun w'' hw'' => by
  obtain ⟨ba, cap, h1, h2, h3, h4⟩ := h w'' hw''
  refine ⟨ba, cap, h1, h2, h3, ?_⟩
  rcases h4 with h4 | ⟨b, off, rfl, _, h4⟩
  · exact Or.inl h4
  by_cases h0 : A.len = 0
  · exact Or.inl h0
  refine Or.inr ⟨b, off, rfl, Nat.le_trans hl (Nat.le_of_not_lt fun hb => ?_), h4⟩
  have hw3 : ∀ n, (w'.heap.mapIdx fun i o => if i < B then Obj.map #[] 0 else o)[n]? = (w'.heap[n]?).map fun o => if n < B then Obj.map #[] 0 else o := fun n => by
    rw [Array.getElem?_mapIdx]
  obtain ⟨ba', cap', g1, g2, g3, g4⟩ := h { w' with heap := w'.heap.mapIdx fun i o => if i < B then Obj.map #[] 0 else o } fun n hn hlt => by
    show (w'.heap.mapIdx fun i o => if i < B then Obj.map #[] 0 else o)[n]? = _
    rw [hw3]
    simp [Nat.not_lt_of_le hn]
  rw [h1] at g1
  simp only [Value.slice.injEq] at g1
  obtain ⟨rfl, _, rfl⟩ := g1
  rcases g4 with g4 | ⟨b', off', e, _, g4⟩
  · exact h0 g4
  simp only [Option.some.injEq, Addr.mk.injEq] at e
  obtain ⟨rfl, rfl, _⟩ := e
  obtain ⟨f1, f2⟩ := g4 0 (by omega)
  have hu : (A.at_ 0)[0]? = some ((A.at_ 0)[0]'(by omega)) := List.getElem?_eq_getElem (by omega)
  have h5 := (f2 0 _ hu).1
  unfold World.cell? at h5
  simp only [hw3, if_pos hb] at h5
  cases hh : w'.heap[b]? with
  | none => rw [hh] at h5; simp at h5
  | some o => rw [hh] at h5; simp at h5
theorem RetB.low {w w' : World} {nx : Nat} {T : Nat → SV} {A : Nat → List (Nat × Fm ArrF)} {e : Ending} {l : Nat} (hl : l ≤ w.heap.size) (hs : ∀ b x A', atN (A b) x = some A' → 0 < A'.size) (h : RetB w (fun _ => True) nx T A e w') : RetB w (fun _ => True) nx T (fun b => lowL l (A b)) e w' := by
  obtain ⟨v, rfl, hb, h⟩ := h
  refine ⟨v, rfl, hb, fun b => ?_⟩
  obtain ⟨N, h1, h2⟩ := h b
  refine ⟨N, h1, fun E2 hE => ?_⟩
  obtain ⟨h3, h4⟩ := h2 E2 hE
  refine ⟨h3, fun w'' _ hw'' x A' hx => ?_⟩
  obtain ⟨A0, h5, rfl⟩ := atN_lowL hx
  exact arrAt_low (w := w') hl (hs b x A0 h5) (fun w3 hw3 => h4 w3 trivial hw3 x A0 h5) w'' hw''
theorem callL {C : Ctx} {S : St} {f : Nat} {vs : List SV} {dst : Option Nat} {K : St → Prop} (nx : Nat) (T : Nat → SV) (A : Nat → List (Nat × Fm ArrF)) (hsz : ∀ b x A', atN (A b) x = some A' → 0 < A'.size)
    (hc : ∀ E a w, Sat C.B C.W C.w0 E S a w → Calls C.P f (vs.map (SV.den E)).toArray w (RetB w (fun _ => True) nx T A)) (h : K (S.call dst (T S.nid) nx [] (lowL C.B (A S.nid)))) : CallVC C f vs dst S K :=
  callB nx T (fun b => lowL C.B (A b)) (fun E a w hs => (hc E a w hs).mono fun e w' h => h.low hs.frame.size hsz) h
theorem dcallL {C : Ctx} {bs f : Nat} {vs : List SV} {dst : Option Nat} {U : List Nat} {Si S : St} {done : List Rec} {ex : List Rec → St → Prop} (nx : Nat) (T : Nat → SV) (A : Nat → List (Nat × Fm ArrF)) (hsz : ∀ b x A', atN (A b) x = some A' → 0 < A'.size)
    (hc : ∀ E a w, Sat C.B C.W C.w0 E Si a w → Calls C.P f (vs.map (SV.den E)).toArray w (RetB w (fun _ => True) nx T A)) (hk : newOk Si.nid nx (keysL (lowL C.B (A Si.nid))))
    (h : ex (done ++ [⟨dst, T Si.nid, [], lowL C.B (A Si.nid), Si.nid, nx, keysL Si.own, [], []⟩]) (S.appN ⟨dst, T Si.nid, [], lowL C.B (A Si.nid), Si.nid, nx, keysL Si.own, [], []⟩)) : DCallVC C bs f vs dst U Si done S ex :=
  dcall_intro (cr_retB nx T (fun b => lowL C.B (A b)) [] (fun _ _ => True) (fun _ _ _ _ _ => trivial) fun E a w hs => (hc E a w hs).mono fun e w' h => h.low hs.frame.size hsz) rfl hk trivial (fun k hk => by cases hk) h
end Go.Proofs.Ytkjeedlkkpgopaa.Z
