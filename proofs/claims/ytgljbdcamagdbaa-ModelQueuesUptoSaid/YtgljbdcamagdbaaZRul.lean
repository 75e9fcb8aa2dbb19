/- The contracts of layer 11, as the second form of the symbolic run uses them. No statement of the program. -/
import Derived.Test.YtgljbdcamagdbaaZP
import Derived.Test.YtgljbdcamagdbaaMDo2
import Derived.Test.YtgljbdcamagdbaaMays
import Derived.Test.YtgljbdcamagdbaaOpenC
namespace Go.Proofs.Ytgljbdcamagdbaa.Z
open Go Go.RowKit
set_option linter.unusedSimpArgs false
set_option linter.unusedVariables false

/-- the five lists of contents, by names from i on -/
def mcA (i : Nat) (m : MC) (l : Nat := 0) : List (Nat × Fm ArrF) := [(i, .one (arrOf eI 1 m.cell 0 l)), (i + 1, .one (arrOf eI 1 m.stack 0 l)), (i + 2, .one (arrOf eI 1 m.queue 0 l)), (i + 3, .one (arrOf eI 1 m.set 0 l)), (i + 4, .one (arrOf eP 2 m.table (0, 0) l))]
def mcS (i : Nat) : List SC := [.xv (i, 0, 0), .xv (i + 1, 0, 0), .xv (i + 2, 0, 0), .xv (i + 3, 0, 0), .xv (i + 4, 0, 0)]
/-- .. as what a function leaves -/
def mcR (m : MC) (b : Nat) : List (Nat × Fm ArrF) := mcA b m
def mc0 : MC := ⟨[], [], [], [], []⟩
theorem cont_at {C : Ctx} {S : St} {E : Env} {a : Act} {w : World} (hs : Sat C.B C.W C.w0 E S a w) (i : Nat) {m : MC} {l0 l1 l2 l3 l4 : Nat} (h0 : look S.arrs i = some (.one (arrOf eI 1 m.cell 0 l0))) (h1 : look S.arrs (i + 1) = some (.one (arrOf eI 1 m.stack 0 l1))) (h2 : look S.arrs (i + 2) = some (.one (arrOf eI 1 m.queue 0 l2)))
    (h3 : look S.arrs (i + 3) = some (.one (arrOf eI 1 m.set 0 l3))) (h4 : look S.arrs (i + 4) = some (.one (arrOf eP 2 m.table (0, 0) l4))) : Cont w (.agg ((mcS i).map (SC.den E)).toArray) m := by
  have f : ∀ {α : Type} {enc : α → List Value} {s : Nat} {xs : List α} {d : α} {l : Nat} (j : Nat), look S.arrs j = some (.one (arrOf enc s xs d l)) → Arr w enc s (E.χ (j, 0, 0)) xs := fun {α enc s xs d l} j hj => arr_at (d := d) (l := l) hs j (by simp [atN, hj, Fm.get])
  exact ⟨_, _, _, _, _, by simp [mcS, SC.den], f i h0, f (i + 1) h1, f (i + 2) h2, f (i + 3) h3, f (i + 4) h4⟩
theorem cont_0 (w : World) : Cont w (.agg #[.slice none 0 0, .slice none 0 0, .slice none 0 0, .slice none 0 0, .slice none 0 0]) mc0 :=
  ⟨_, _, _, _, _, rfl, Arr.nil _ _ _, Arr.nil _ _ _, Arr.nil _ _ _, Arr.nil _ _ _, Arr.nil _ _ _⟩

/-! ### own memory, as lists that are only read -/
theorem ownE_stays {α : Type} {w w' : World} {base : Nat} {e : TypeId} {enc : α → List Value} {size : Nat} {v : Value} {xs : List α} (h : OwnE w base e enc size v xs) (hb : ∀ n, base ≤ n → n < w.heap.size → w'.heap[n]? = w.heap[n]?) : OwnE w' base e enc size v xs := by
  rcases h with h | ⟨h1, h⟩
  · exact Or.inl h
  · refine Or.inr ⟨h1, ?_⟩
    rcases h with h | ⟨g, cap, cur, r1, r2, r3, r4⟩
    · exact Or.inl h
    · exact Or.inr ⟨g, cap, cur, r1, r2, (hb g r2 (Array.getElem?_eq_some_iff.1 r3).1).trans r3, r4⟩
def fiv (a b c d e : Value) (i : Nat) : Value := match i with | 0 => a | 1 => b | 2 => c | 3 => d | _ => e
theorem retB_D {w w' : World} {v : Value} {m : MC} (h : OwnD w' w.heap.size v m) (b : Nat) : ∃ N : Env, OneC N ∧ ∀ E2, AgreeD (NewIds b 5) N E2 → v = (SV.agg (mcS b)).den E2 ∧
    ∀ w'' : World, (∀ n, w.heap.size ≤ n → n < w'.heap.size → w''.heap[n]? = w'.heap[n]?) → ∀ x A', atN (mcA b m) x = some A' → ArrAt E2 w'' x A' := by
  obtain ⟨v0, v1, v2, v3, v4, rfl, g0, g1, g2, g3, g4⟩ := h
  have o0 := arr_one (g0.arr eI_ok)
  have o1 := arr_one (g1.arr eI_ok)
  have o2 := arr_one (g2.arr eI_ok)
  have o3 := arr_one (g3.arr eI_ok)
  have o4 := arr_one (g4.arr eP_ok)
  refine ⟨⟨fun _ => 0, fun _ => 0, fun _ => false, fun x => fiv v0 v1 v2 v3 v4 (x.1 - b)⟩, fun x => ?_, fun E2 hE => ?_⟩
  · simp only [fiv]
    split <;> assumption
  have e0 : E2.χ (b, 0, 0) = v0 := by have := (hE (b, 0, 0) ⟨by simp, by simp⟩).2.2.2; simpa [fiv] using this
  have e1 : E2.χ (b + 1, 0, 0) = v1 := by have := (hE (b + 1, 0, 0) ⟨by simp, by simp⟩).2.2.2; simpa [fiv] using this
  have e2 : E2.χ (b + 2, 0, 0) = v2 := by have := (hE (b + 2, 0, 0) ⟨by simp, by simp⟩).2.2.2; simpa [fiv] using this
  have e3 : E2.χ (b + 3, 0, 0) = v3 := by have := (hE (b + 3, 0, 0) ⟨by simp, by simp⟩).2.2.2; simpa [fiv] using this
  have e4 : E2.χ (b + 4, 0, 0) = v4 := by have := (hE (b + 4, 0, 0) ⟨by simp, by simp⟩).2.2.2; simpa [fiv] using this
  refine ⟨by simp [mcS, SV.den, SC.den, e0, e1, e2, e3, e4], fun w'' hw'' x A hA => ?_⟩
  rcases atN_one hA with ⟨rfl, rfl⟩ | hA
  · exact arrAt_of eI_ok (by rw [e0]; exact (ownE_stays g0 hw'').arr eI_ok)
  rcases atN_one hA with ⟨rfl, rfl⟩ | hA
  · exact arrAt_of eI_ok (by rw [e1]; exact (ownE_stays g1 hw'').arr eI_ok)
  rcases atN_one hA with ⟨rfl, rfl⟩ | hA
  · exact arrAt_of eI_ok (by rw [e2]; exact (ownE_stays g2 hw'').arr eI_ok)
  rcases atN_one hA with ⟨rfl, rfl⟩ | hA
  · exact arrAt_of eI_ok (by rw [e3]; exact (ownE_stays g3 hw'').arr eI_ok)
  rcases atN_one hA with ⟨rfl, rfl⟩ | hA
  · exact arrAt_of eP_ok (by rw [e4]; exact (ownE_stays g4 hw'').arr eP_ok)
  exact (atN_nil hA).elim
theorem ownC_D' {w : World} {base : Nat} {v : Value} {m : MC} (h : OwnC w base v m) : OwnD w base v m := by
  obtain ⟨a, b, c, d, e, rfl, h1, h2, h3, h4, h5, _⟩ := h
  exact ⟨a, b, c, d, e, rfl, Or.inr h1, Or.inr h2, Or.inr h3, Or.inr h4, Or.inr h5⟩

/-- contents; contents, an answer, an error's number -/
def cT (b : Nat) : SV := .agg (mcS b)
def d3T (d : MC × Int × Int) (n : Int) (b : Nat) : SV := .tup [(true, mcS b), (true, [.v (.int .i64 d.2.1), .v (.int .i64 d.2.2)]), (false, [.v (.int .i64 n)])]
/-- model.Do, of contents that may be and an op with an object -/
theorem do_Z {v : Value} {m : MC} {w : World} (op arg data : Int) (h : Cont w v m) (hok : m.ok 1) (hm : mayB m = true) (ho : objOf op ≠ 0) :
    Calls Try.prog 25 #[v, .int .i64 op, .int .i64 arg, .int .i64 data] w (RetB w (fun _ => True) 5 (d3T (doM m op arg data) 0) (mcR (doM m op arg data).1)) := by
  refine (mDo op arg data h hok hm ho).mono ?_
  rintro e w' ⟨v', rfl, hown, hb⟩
  refine ⟨_, rfl, hb, fun b => ?_⟩
  obtain ⟨N, h1, h2⟩ := retB_D hown b
  refine ⟨N, h1, fun E2 hE => ?_⟩
  obtain ⟨h3, h4⟩ := h2 E2 hE
  exact ⟨by rw [h3]; simp [d3T, SV.den, den1, SC.den], fun w'' _ hw'' => h4 w'' hw''⟩
theorem doNo_Z {v : Value} {m : MC} {w : World} (op arg data : Int) (h : Cont w v m) (hn : refN m op ≠ 0) :
    Calls Try.prog 25 #[v, .int .i64 op, .int .i64 arg, .int .i64 data] w (RetV w (.tuple #[.agg #[.slice none 0 0, .slice none 0 0, .slice none 0 0, .slice none 0 0, .slice none 0 0], .agg #[.int .i64 0, .int .i64 0], .int .i64 (refN m op)])) := by
  refine (mDo_no op arg data h hn).mono ?_
  rintro e w' ⟨rfl, hb⟩
  exact ⟨rfl, hb⟩
theorem copy_Z {v : Value} {m : MC} {w : World} (h : Cont w v m) (hok : m.ok 0) : Calls Try.prog 22 #[v] w (RetB w (fun _ => True) 5 cT (mcR m)) := by
  refine (rCopy h hok).mono ?_
  rintro e w' ⟨v', rfl, hown, hb⟩
  refine ⟨_, rfl, hb, fun b => ?_⟩
  obtain ⟨N, h1, h2⟩ := retB_D (ownC_D' hown) b
  refine ⟨N, h1, fun E2 hE => ?_⟩
  obtain ⟨h3, h4⟩ := h2 E2 hE
  exact ⟨h3, fun w'' _ hw'' => h4 w'' hw''⟩
theorem same_Z {v v' : Value} {m m' : MC} {w : World} (h : Cont w v m) (h' : Cont w v' m') : Calls Try.prog 19 #[v, v'] w (RetV w (.bool (decide (m = m')))) := mSame h h'
theorem rsame_Z {v v' : Value} {m m' : MC} {w : World} (h : Cont w v m) (h' : Cont w v' m') : Calls Try.prog 21 #[v, v'] w (RetV w (.bool (decide (m = m')))) := rSame h h'
theorem may_Z {v : Value} {m : MC} {w : World} (h : Cont w v m) : Calls Try.prog 18 #[v] w (RetV w (.bool (mayB m))) := mMay h
theorem rmay_Z {v : Value} {m : MC} {w : World} (h : Cont w v m) : Calls Try.prog 20 #[v] w (RetV w (.bool (mayB m))) := rMay h
theorem obj_Z (op : Int) (w : World) : Calls Try.prog 16 #[.int .i64 op] w (RetV w (.int .i64 (objOf op))) := by
  refine (mObject op w).mono ?_
  rintro e w' ⟨rfl, rfl⟩
  exact ⟨rfl, Below.refl _ _⟩
theorem robj_Z (op : Int) (w : World) : Calls Try.prog 17 #[.int .i64 op] w (RetV w (.int .i64 (objOf op))) := by
  refine (rObject op w).mono ?_
  rintro e w' ⟨rfl, rfl⟩
  exact ⟨rfl, Below.refl _ _⟩

/-- a call that answers a value told by names -/
theorem cr_valN {C : Ctx} {S : St} {f : Nat} {vs : List SV} (tmpl : SV) (ks : List Nat) (hok : tmpl.okN (· ∈ ks)) (hc : ∀ E a w, Sat C.B C.W C.w0 E S a w → Calls C.P f (vs.map (SV.den E)).toArray w fun e w' => e = .returned (tmpl.den E) ∧ Below w.heap.size w w') : CR C f vs S ks tmpl 0 [] [] := by
  intro E a w hs
  refine (hc E a w hs).mono ?_
  rintro e w' ⟨rfl, hb⟩
  exact ⟨_, rfl, E, hs.one, fun E2 _ hk _ => ⟨(den_same (p := (· ∈ ks)) (fun x hx => hk x hx) hok).symm, Fits.G ⟨fun H _ => effOk_below hb, fun _ _ x A h => by simp [atN, look] at h⟩⟩⟩

/-! ### the end of a function that answers contents -/
/-- a value is a list in new memory -/
def RdN (C : Ctx) (S : St) (c : SC) (A : ArrF) : Prop := ∀ E a w', SatA C.B C.W C.w0 E S a w' → (c.den E).oneCell' = true ∧
  ∀ w'' : World, (∀ n, C.B ≤ n → n < w'.heap.size → w''.heap[n]? = w'.heap[n]?) → ∀ (E2 : Env) (x : Nm), E2.χ x = c.den E → ArrAt E2 w'' x A
theorem rdN_nil {C : Ctx} {S : St} {α : Type} {enc : α → List Value} {s : Nat} {d : α} : RdN C S (.v (.slice none 0 0)) (arrOf enc s [] d) := fun E a w' hs =>
  ⟨by simp [SC.den, Value.oneCell'], fun w'' _ E2 x hx => ⟨none, 0, by rw [hx]; simp [SC.den, arrOf], Nat.le_refl _, by simp [maxLen], Or.inl rfl⟩⟩
theorem rdN_sl {P : Program} {A : List Nat} {w : World} {rs : List RS} {R : Ending → World → Prop} {S : St} {α : Type} {enc : α → List Value} {s ty : Nat} {xs : List α} {d : α} (T : EncT enc s) (i k o n : Nat) (at_ : Nat → List SC) (c : Option Nat) (hi : look S.own i = some (.one (.ar k s at_ ty))) (hon : o + n ≤ k) (hn : n = xs.length)
    (hc : ∀ q, c = some q → n ≤ q ∧ q ≤ maxLen) (ha : ∀ e, e < xs.length → at_ (o + e) = ats enc xs d e) : RdN (mkC P A w rs R) S (.sl (i, 0, 0) s o n c) (arrOf enc s xs d) := by
  subst hn
  intro E a w' hs
  refine ⟨by simp [SC.den, Value.oneCell'], fun w'' hw'' E2 x hx => ?_⟩
  have hs := hs.sat
  obtain ⟨H, hH, _⟩ := hs.mem
  have hat : atN S.own (i, 0, 0) = some (.ar k s at_ ty) := by simp [atN, hi, Fm.get]
  have hcap : ∀ κ, o + xs.length ≤ κ → κ ≤ maxLen → xs.length ≤ c.getD (κ - o) ∧ c.getD (κ - o) ≤ maxLen := fun κ h1 h2 => by
    cases c with
    | none => simp only [Option.getD_none]; omega
    | some q => exact hc q rfl
  rcases ar_heap hH hat with ⟨h1, h2, h3, _⟩ | ⟨h1, h2, h3, cells, h4, h5, h6, h7⟩
  · obtain ⟨g1, g2⟩ := hcap (E.κ (i, 0, 0)) (by omega) (by rw [h2]; simp [maxLen])
    exact ⟨none, c.getD (E.κ (i, 0, 0) - o), by rw [hx]; simp [SC.den, h1, arrOf], g1, g2, Or.inl (by show xs.length = 0; omega)⟩
  · obtain ⟨g1, g2⟩ := hcap (E.κ (i, 0, 0)) (by omega) h3
    refine ⟨some ⟨E.ρ (i, 0, 0), o * s, none⟩, c.getD (E.κ (i, 0, 0) - o), by rw [hx]; simp [SC.den, h1, arrOf], g1, g2, Or.inr ⟨_, _, rfl, Nat.zero_le _, fun e he => ?_⟩⟩
    have he' : e < xs.length := he
    obtain ⟨f1, f2⟩ := hH.sub _ _ hat (E.ρ (i, 0, 0)) (.cells cells ty (0, 0)) (by rw [h4]; simp [sing])
    have hge : w.heap.size ≤ E.ρ (i, 0, 0) := f2.resolve_right fun h => h.elim
    have hlt : E.ρ (i, 0, 0) < w'.heap.size := (Array.getElem?_eq_some_iff.1 h5).1
    refine ⟨by simp only [arrOf, List.length_map]; exact T.len _, fun j u hu => ?_⟩
    rw [cell_of_row w'' _ _ _ ty (0, 0) (by rw [hw'' _ hge hlt]; exact h5)]
    have hu2 : (at_ (o + e))[j]? = some u := by rw [ha e he']; exact hu
    have h8 := (h7 (o + e) (by omega)).2 j u hu2
    simp only [arrOf, List.getElem?_map, Option.map_eq_some_iff] at hu
    obtain ⟨u', hu', rfl⟩ := hu
    rw [den_v] at h8 ⊢
    rw [Nat.add_mul] at h8
    exact h8
theorem rdN_x0 {C : Ctx} {S : St} {α : Type} {enc : α → List Value} {s s' : Nat} {d : α} {f : Nat → List SC} {l : Nat} (i : Nat) (hi : look S.arrs i = some (.one ⟨0, s', f, l⟩)) : RdN C S (.xv (i, 0, 0)) (arrOf enc s [] d) := fun E a w' hs => by
  obtain ⟨ba, cap, h1, _, h2, _⟩ := (holds_of hs.sat).1 (i, 0, 0) ⟨0, s', f, l⟩ (by simp [atN, hi, Fm.get])
  refine ⟨by simp only [SC.den, h1]; rfl, fun w'' _ E2 x hx => ⟨ba, cap, by rw [hx, den_xv, h1, arrOf_len]; rfl, Nat.zero_le _, h2, Or.inl rfl⟩⟩
/-- .. one that lies in new memory -/
theorem rdN_lo {C : Ctx} {S : St} {α : Type} {enc : α → List Value} {s : Nat} {xs : List α} {d : α} {l : Nat} (i : Nat) (hi : look S.arrs i = some (.one (arrOf enc s xs d l))) (hl : C.B ≤ l) : RdN C S (.xv (i, 0, 0)) (arrOf enc s xs d) := fun E a w' hs => by
  obtain ⟨ba, cap, h1, h2, h3, h4⟩ := (holds_of hs.sat).1 (i, 0, 0) (arrOf enc s xs d l) (by simp [atN, hi, Fm.get])
  refine ⟨by rw [den_xv, h1]; rfl, fun w'' hw'' E2 x hx => ?_⟩
  rw [den_xv] at hx
  refine ⟨ba, cap, hx.trans h1, h2, h3, ?_⟩
  rcases h4 with h4 | ⟨b, off, h5, h7, h6⟩
  · exact Or.inl h4
  · refine Or.inr ⟨b, off, h5, Nat.zero_le _, fun k hk => ⟨(h6 k hk).1, fun j u hu => ?_⟩⟩
    have := (h6 k hk).2 j u hu
    simp only [arrOf, List.getElem?_map, Option.map_eq_some_iff] at hu
    obtain ⟨u', _, rfl⟩ := hu
    rw [den_v] at this ⊢
    refine ⟨?_, this.2⟩
    have hc := this.1
    have hlt : b < w'.heap.size := by
      unfold World.cell? at hc
      cases hh : w'.heap[b]? with
      | none => rw [hh] at hc; simp at hc
      | some o => exact (Array.getElem?_eq_some_iff.1 hh).1
    have hge : C.B ≤ b := Nat.le_trans hl h7
    unfold World.cell? at hc ⊢
    simp only at hc ⊢
    rw [hw'' b hge hlt]
    exact hc
theorem mcR_sz (m : MC) (b : Nat) : ∀ x A', atN (mcR m b) x = some A' → 0 < A'.size := fun x A' hx => by
  simp only [mcR, mcA] at hx
  rcases atN_one hx with ⟨_, rfl⟩ | hx
  · exact Nat.one_pos
  rcases atN_one hx with ⟨_, rfl⟩ | hx
  · exact Nat.one_pos
  rcases atN_one hx with ⟨_, rfl⟩ | hx
  · exact Nat.one_pos
  rcases atN_one hx with ⟨_, rfl⟩ | hx
  · exact Nat.one_pos
  rcases atN_one hx with ⟨_, rfl⟩ | hx
  · exact Nat.two_pos
  exact (atN_nil hx).elim
theorem low_mcA (l b : Nat) (m : MC) : lowL l (mcA b m) = mcA b m l := rfl
theorem low_mcR (l b : Nat) (m : MC) : lowL l (mcR m b) = mcA b m l := rfl
/-- .. an own list, from its beginning -/
theorem rdN_all {P : Program} {A : List Nat} {w : World} {rs : List RS} {R : Ending → World → Prop} {S : St} {α : Type} {enc : α → List Value} {s ty : Nat} {xs : List α} {d : α} (T : EncT enc s) (i n : Nat) (hi : look S.own i = some (.one (.ar xs.length s (ats enc xs d) ty))) (hn : n = xs.length) : RdN (mkC P A w rs R) S (.sl (i, 0, 0) s 0 n none) (arrOf enc s xs d) :=
  rdN_sl T i _ 0 n _ none hi (by omega) hn (fun q h => by cases h) fun e _ => by rw [Nat.zero_add]

theorem retB5 {P : Program} {A : List Nat} {w : World} {rs : List RS} {Pre : World → Prop} {S : St} {m : MC} {T : Nat → SV} {v : SV} (c0 c1 c2 c3 c4 : SC)
    (h0 : RdN (mkC P A w rs (RetB w Pre 5 T (mcR m))) S c0 (arrOf eI 1 m.cell 0)) (h1 : RdN (mkC P A w rs (RetB w Pre 5 T (mcR m))) S c1 (arrOf eI 1 m.stack 0)) (h2 : RdN (mkC P A w rs (RetB w Pre 5 T (mcR m))) S c2 (arrOf eI 1 m.queue 0))
    (h3 : RdN (mkC P A w rs (RetB w Pre 5 T (mcR m))) S c3 (arrOf eI 1 m.set 0)) (h4 : RdN (mkC P A w rs (RetB w Pre 5 T (mcR m))) S c4 (arrOf eP 2 m.table (0, 0)))
    (hT : ∀ b (E E2 : Env), E2.χ (b, 0, 0) = c0.den E → E2.χ (b + 1, 0, 0) = c1.den E → E2.χ (b + 2, 0, 0) = c2.den E → E2.χ (b + 3, 0, 0) = c3.den E → E2.χ (b + 4, 0, 0) = c4.den E → v.den E = (T b).den E2) :
    RetVC (mkC P A w rs (RetB w Pre 5 T (mcR m))) v S := by
  intro E a w' hs
  obtain ⟨o0, r0⟩ := h0 E a w' hs
  obtain ⟨o1, r1⟩ := h1 E a w' hs
  obtain ⟨o2, r2⟩ := h2 E a w' hs
  obtain ⟨o3, r3⟩ := h3 E a w' hs
  obtain ⟨o4, r4⟩ := h4 E a w' hs
  refine ⟨_, rfl, below_of hs.sat, fun b => ⟨⟨fun _ => 0, fun _ => 0, fun _ => false, fun x => fiv (c0.den E) (c1.den E) (c2.den E) (c3.den E) (c4.den E) (x.1 - b)⟩, fun x => ?_, fun E2 hE => ?_⟩⟩
  · simp only [fiv]
    split <;> assumption
  have e0 : E2.χ (b, 0, 0) = c0.den E := by have := (hE (b, 0, 0) ⟨by simp, by simp⟩).2.2.2; simpa [fiv] using this
  have e1 : E2.χ (b + 1, 0, 0) = c1.den E := by have := (hE (b + 1, 0, 0) ⟨by simp, by simp⟩).2.2.2; simpa [fiv] using this
  have e2 : E2.χ (b + 2, 0, 0) = c2.den E := by have := (hE (b + 2, 0, 0) ⟨by simp, by simp⟩).2.2.2; simpa [fiv] using this
  have e3 : E2.χ (b + 3, 0, 0) = c3.den E := by have := (hE (b + 3, 0, 0) ⟨by simp, by simp⟩).2.2.2; simpa [fiv] using this
  have e4 : E2.χ (b + 4, 0, 0) = c4.den E := by have := (hE (b + 4, 0, 0) ⟨by simp, by simp⟩).2.2.2; simpa [fiv] using this
  refine ⟨hT b E E2 e0 e1 e2 e3 e4, fun w'' _ hw'' x A hA => ?_⟩
  rcases atN_one hA with ⟨rfl, rfl⟩ | hA
  · exact r0 w'' hw'' E2 _ e0
  rcases atN_one hA with ⟨rfl, rfl⟩ | hA
  · exact r1 w'' hw'' E2 _ e1
  rcases atN_one hA with ⟨rfl, rfl⟩ | hA
  · exact r2 w'' hw'' E2 _ e2
  rcases atN_one hA with ⟨rfl, rfl⟩ | hA
  · exact r3 w'' hw'' E2 _ e3
  rcases atN_one hA with ⟨rfl, rfl⟩ | hA
  · exact r4 w'' hw'' E2 _ e4
  exact (atN_nil hA).elim
end Go.Proofs.Ytgljbdcamagdbaa.Z
