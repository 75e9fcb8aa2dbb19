/- Contents: what they read as; model.May and reclaimmodel.May answer whether they may be. No conditions. -/
import Derived.Test.YtgljbdcamagdbaaCmp
namespace Go.Proofs.Ytgljbdcamagdbaa
open Go.RowKit

/-- contents as data -/
structure MC where
  cell : List Int
  stack : List Int
  queue : List Int
  set : List Int
  table : List (Int × Int)
  deriving DecidableEq

/-- a value of the type Contents reads so -/
def Cont (w : World) (v : Value) (m : MC) : Prop :=
  ∃ a b c d e, v = .agg #[a, b, c, d, e] ∧ Arr w eI 1 a m.cell ∧ Arr w eI 1 b m.stack ∧ Arr w eI 1 c m.queue ∧ Arr w eI 1 d m.set ∧ Arr w eP 2 e m.table

def mayB (m : MC) : Bool := decide (m.cell.length ≤ 1) && incB m.set && incB (m.table.map (·.1))

theorem Cont.keep {w w' : World} {v : Value} {m : MC} (h : Cont w v m) (hk : ∀ a u, w.cell? a = some u → w'.cell? a = some u) : Cont w' v m := by
  obtain ⟨a, b, c, d, e, rfl, h1, h2, h3, h4, h5⟩ := h
  exact ⟨a, b, c, d, e, rfl, h1.keep hk, h2.keep hk, h3.keep hk, h4.keep hk, h5.keep hk⟩
theorem Cont.below {w w' : World} {v : Value} {m : MC} (h : Cont w v m) (hb : Below w.heap.size w w') : Cont w' v m := h.keep (keeps_below hb)

set_option maxHeartbeats 1000000 in
theorem mMay_core (b c : Value) (ba be bd : Option Addr) (nd ne na ca cd ce : Nat) (ds : List Int) (es : List (Int × Int)) (w : World)
    (hnd : nd = ds.length) (hne : ne = es.length) (hnc : nd ≤ 9223372036854775807) (hmc : ne ≤ 9223372036854775807)
    (hd : ∀ k x, ds[k]? = some x → ∃ b off, bd = some ⟨b, off, none⟩ ∧ b < w.heap.size ∧ w.cell? ⟨b, off + k, none⟩ = some (.int .i64 x))
    (he : ∀ k x, es[k]? = some x → ∃ b off, be = some ⟨b, off, none⟩ ∧ b < w.heap.size ∧ w.cell? ⟨b, off + k * 2, none⟩ = some (.int .i64 x.1) ∧ w.cell? ⟨b, off + k * 2 + 1, none⟩ = some (.int .i64 x.2)) :
    Calls Try.prog 18 #[.agg #[.slice ba na ca, b, c, .slice bd nd cd, .slice be ne ce]] w fun e w' => e = .returned (.bool (decide (na ≤ 1) && incB ds && incB (es.map (·.1)))) ∧ Below w.heap.size w w' := by
  have HD := Lib.hid hd; clear hd
  have HE := Lib.hid he; clear he
  have HND := Lib.hid hnd; clear hnd
  have HNE := Lib.hid hne; clear hne
  have x0 := box_cell w #[.slice ba na ca, b, c, .slice bd nd cd, .slice be ne ce] 29 0 _ rfl
  have x3 := box_cell w #[.slice ba na ca, b, c, .slice bd nd cd, .slice be ne ce] 29 3 _ rfl
  have x4 := box_cell w #[.slice ba na ca, b, c, .slice bd nd cd, .slice be ne ce] 29 4 _ rfl
  have X0 := Lib.hid x0; clear x0
  have X3 := Lib.hid x3; clear x3
  have X4 := Lib.hid x4; clear x4
  by_cases h1 : na ≤ 1
  · go_enter Try.func18, Try.ntmps18
    go_wp2
    have hW0 : w.heap.size + 1 ≤ (w.alloc (.cells #[.slice ba na ca, b, c, .slice bd nd cd, .slice be ne ce] 29)).heap.size := by simp
    have hW0' : Below w.heap.size w (w.alloc (.cells #[.slice ba na ca, b, c, .slice bd nd cd, .slice be ne ce] 29)) := below_box _ _
    generalize w.alloc (.cells #[.slice ba na ca, b, c, .slice bd nd cd, .slice be ne ce] 29) = W1 at *
    go_loopw [3] (fun i wr => ∃ k : Nat, 1 ≤ k ∧ (k ≤ nd ∨ k = 1) ∧ i = .int .i64 k ∧ Hid (IncTo ds k) ∧ Below (w.heap.size + 1) W1 wr) (fun i _ => nd - (intOf i).toNat)
    case atStart => exact ⟨1, by omega, Or.inr rfl, rfl, fun i x y h => by omega, Below.refl _ _⟩
    case round =>
      obtain ⟨k, hk1, hk, rfl, hkk, hb⟩ := hrel
      have y3 := (hb.cell (by show w.heap.size < w.heap.size + 1; omega)).trans X3.out
      by_cases hlt : k < nd
      · obtain ⟨x, hxk⟩ : ∃ x, ds[k - 1]? = some x := ⟨_, List.getElem?_eq_getElem (by rw [← HND.out]; omega)⟩
        obtain ⟨y, hyk⟩ : ∃ x, ds[k]? = some x := ⟨_, List.getElem?_eq_getElem (by rw [← HND.out]; exact hlt)⟩
        obtain ⟨b1, o1, rfl, hb1, c1⟩ := HD.out (k - 1) x hxk
        obtain ⟨b2, o2, hbo, hb2, c2⟩ := HD.out k y hyk
        simp only [Option.some.injEq, Addr.mk.injEq, and_true] at hbo
        obtain ⟨rfl, rfl⟩ := hbo
        have d1 := ((hb.mono (Nat.le_succ _)).cell (by exact hb1)).trans ((hW0'.cell (by exact hb1)).trans c1)
        have d2 := ((hb.mono (Nat.le_succ _)).cell (by exact hb1)).trans ((hW0'.cell (by exact hb1)).trans c2)
        clear c1 c2 hb1 hb2
        have HXK := Lib.hid hxk; clear hxk
        have HYK := Lib.hid hyk; clear hyk
        have hI : (k : Int) < (nd : Int) := by omega
        have hI1 : (1 : Int) ≤ (k : Int) := by omega
        go_wp2
        go_quiet (fail)
        go_wp2
        · go_ret
          have hxy : y ≤ x := by assumption
          exact ⟨by rw [incB_no' hk1 HXK.out HYK.out hxy]; simp, below_drewN (hW0'.trans (hb.mono (by omega))) _⟩
        · go_roundw
          case rel =>
            have hxy : x < y := by assumption
            exact ⟨k + 1, by omega, by omega, by go_num, hkk.out.step hk1 HXK.out HYK.out hxy, below_drewN hb _⟩
          case measure => simp [intOf]; omega
      · have hset : incB ds = true := hkk.out.all (by rw [← HND.out]; omega)
        have HSET := Lib.hid hset; clear hset hkk
        have hI : ¬ (k : Int) < (nd : Int) := by omega
        have hb' : Below w.heap.size w wr := hW0'.trans (hb.mono (by omega))
        have Y4 := Lib.hid ((hb.cell (by show w.heap.size < w.heap.size + 1; omega)).trans X4.out)
        have hsz : w.heap.size + 1 ≤ wr.heap.size := Nat.le_trans hW0 hb.size
        clear hb X0 X3 X4 hW0
        go_wp2
        clear y3 hI hk hk1 hlt
        obtain ⟨wo, rfl⟩ : ∃ wo : World, wo = wr := ⟨_, rfl⟩
        go_loopw [4] (fun i wr => ∃ k : Nat, 1 ≤ k ∧ (k ≤ ne ∨ k = 1) ∧ i = .int .i64 k ∧ Hid (IncTo (es.map (·.1)) k) ∧ Below (w.heap.size + 1) wo wr) (fun i _ => ne - (intOf i).toNat)
        case atStart => exact ⟨1, by omega, Or.inr rfl, rfl, fun i x y h => by omega, Below.refl _ _⟩
        case round =>
          obtain ⟨k, hk1, hk, rfl, hkk, hb⟩ := hrel
          have y4 := (hb.cell (by show w.heap.size < w.heap.size + 1; omega)).trans Y4.out
          by_cases hlt : k < ne
          · obtain ⟨x, hxk⟩ : ∃ x, es[k - 1]? = some x := ⟨_, List.getElem?_eq_getElem (by rw [← HNE.out]; omega)⟩
            obtain ⟨y, hyk⟩ : ∃ x, es[k]? = some x := ⟨_, List.getElem?_eq_getElem (by rw [← HNE.out]; exact hlt)⟩
            obtain ⟨b1, o1, rfl, hb1, c1, _⟩ := HE.out (k - 1) x hxk
            obtain ⟨b2, o2, hbo, hb2, c2, _⟩ := HE.out k y hyk
            simp only [Option.some.injEq, Addr.mk.injEq, and_true] at hbo
            obtain ⟨rfl, rfl⟩ := hbo
            have d1 := ((hb.mono (Nat.le_succ _)).cell (by exact hb1)).trans ((hb'.cell (by exact hb1)).trans c1)
            have d2 := ((hb.mono (Nat.le_succ _)).cell (by exact hb1)).trans ((hb'.cell (by exact hb1)).trans c2)
            clear c1 c2 hb1 hb2
            have HXK : Hid ((es.map (·.1))[k - 1]? = some x.1) := by show _ = _; rw [List.getElem?_map, hxk]; rfl
            have HYK : Hid ((es.map (·.1))[k]? = some y.1) := by show _ = _; rw [List.getElem?_map, hyk]; rfl
            clear hxk hyk
            obtain ⟨x, x2⟩ := x
            obtain ⟨y, y2⟩ := y
            have hI : (k : Int) < (ne : Int) := by omega
            have hI1 : (1 : Int) ≤ (k : Int) := by omega
            go_wp2
            go_quiet (fail)
            go_wp2
            · go_ret
              have hxy : y ≤ x := by assumption
              exact ⟨by rw [incB_no' hk1 HXK.out HYK.out hxy]; simp, below_drewN (hb'.trans (hb.mono (by omega))) _⟩
            · go_roundw
              case rel =>
                have hxy : x < y := by assumption
                exact ⟨k + 1, by omega, by omega, by go_num, hkk.out.step hk1 HXK.out HYK.out hxy, below_drewN hb _⟩
              case measure => simp [intOf]; omega
          · have htab : incB (es.map (·.1)) = true := hkk.out.all (by rw [List.length_map, ← HNE.out]; omega)
            have HTAB := Lib.hid htab; clear htab hkk
            have hI : ¬ (k : Int) < (ne : Int) := by omega
            go_wp2
            go_ret
            exact ⟨by rw [HSET.out, HTAB.out]; simp, hb'.trans (hb.mono (by omega))⟩
  · have hI : (1 : Int) < (na : Int) := by omega
    have E : (decide (na ≤ 1) && incB ds && incB (es.map (·.1))) = false := by simp [h1]
    have E' := Lib.hid E; clear E
    go_enter Try.func18, Try.ntmps18
    go_wp2
    go_ret
    exact ⟨by rw [E'.out]; rfl, below_box _ _⟩
set_option maxHeartbeats 1000000 in
theorem rMay_core (b c : Value) (ba be bd : Option Addr) (nd ne na ca cd ce : Nat) (ds : List Int) (es : List (Int × Int)) (w : World)
    (hnd : nd = ds.length) (hne : ne = es.length) (hnc : nd ≤ 9223372036854775807) (hmc : ne ≤ 9223372036854775807)
    (hd : ∀ k x, ds[k]? = some x → ∃ b off, bd = some ⟨b, off, none⟩ ∧ b < w.heap.size ∧ w.cell? ⟨b, off + k, none⟩ = some (.int .i64 x))
    (he : ∀ k x, es[k]? = some x → ∃ b off, be = some ⟨b, off, none⟩ ∧ b < w.heap.size ∧ w.cell? ⟨b, off + k * 2, none⟩ = some (.int .i64 x.1) ∧ w.cell? ⟨b, off + k * 2 + 1, none⟩ = some (.int .i64 x.2)) :
    Calls Try.prog 38 #[.agg #[.slice ba na ca, b, c, .slice bd nd cd, .slice be ne ce]] w fun e w' => e = .returned (.bool (decide (na ≤ 1) && incB ds && incB (es.map (·.1)))) ∧ Below w.heap.size w w' := by
  have HD := Lib.hid hd; clear hd
  have HE := Lib.hid he; clear he
  have HND := Lib.hid hnd; clear hnd
  have HNE := Lib.hid hne; clear hne
  have x0 := box_cell w #[.slice ba na ca, b, c, .slice bd nd cd, .slice be ne ce] 29 0 _ rfl
  have x3 := box_cell w #[.slice ba na ca, b, c, .slice bd nd cd, .slice be ne ce] 29 3 _ rfl
  have x4 := box_cell w #[.slice ba na ca, b, c, .slice bd nd cd, .slice be ne ce] 29 4 _ rfl
  have X0 := Lib.hid x0; clear x0
  have X3 := Lib.hid x3; clear x3
  have X4 := Lib.hid x4; clear x4
  by_cases h1 : na ≤ 1
  · go_enter Try.func38, Try.ntmps38
    go_wp2
    have hW0 : w.heap.size + 1 ≤ (w.alloc (.cells #[.slice ba na ca, b, c, .slice bd nd cd, .slice be ne ce] 29)).heap.size := by simp
    have hW0' : Below w.heap.size w (w.alloc (.cells #[.slice ba na ca, b, c, .slice bd nd cd, .slice be ne ce] 29)) := below_box _ _
    generalize w.alloc (.cells #[.slice ba na ca, b, c, .slice bd nd cd, .slice be ne ce] 29) = W1 at *
    go_loopw [3] (fun i wr => ∃ k : Nat, 1 ≤ k ∧ (k ≤ nd ∨ k = 1) ∧ i = .int .i64 k ∧ Hid (IncTo ds k) ∧ Below (w.heap.size + 1) W1 wr) (fun i _ => nd - (intOf i).toNat)
    case atStart => exact ⟨1, by omega, Or.inr rfl, rfl, fun i x y h => by omega, Below.refl _ _⟩
    case round =>
      obtain ⟨k, hk1, hk, rfl, hkk, hb⟩ := hrel
      have y3 := (hb.cell (by show w.heap.size < w.heap.size + 1; omega)).trans X3.out
      by_cases hlt : k < nd
      · obtain ⟨x, hxk⟩ : ∃ x, ds[k - 1]? = some x := ⟨_, List.getElem?_eq_getElem (by rw [← HND.out]; omega)⟩
        obtain ⟨y, hyk⟩ : ∃ x, ds[k]? = some x := ⟨_, List.getElem?_eq_getElem (by rw [← HND.out]; exact hlt)⟩
        obtain ⟨b1, o1, rfl, hb1, c1⟩ := HD.out (k - 1) x hxk
        obtain ⟨b2, o2, hbo, hb2, c2⟩ := HD.out k y hyk
        simp only [Option.some.injEq, Addr.mk.injEq, and_true] at hbo
        obtain ⟨rfl, rfl⟩ := hbo
        have d1 := ((hb.mono (Nat.le_succ _)).cell (by exact hb1)).trans ((hW0'.cell (by exact hb1)).trans c1)
        have d2 := ((hb.mono (Nat.le_succ _)).cell (by exact hb1)).trans ((hW0'.cell (by exact hb1)).trans c2)
        clear c1 c2 hb1 hb2
        have HXK := Lib.hid hxk; clear hxk
        have HYK := Lib.hid hyk; clear hyk
        have hI : (k : Int) < (nd : Int) := by omega
        have hI1 : (1 : Int) ≤ (k : Int) := by omega
        go_wp2
        go_quiet (fail)
        go_wp2
        · go_ret
          have hxy : y ≤ x := by assumption
          exact ⟨by rw [incB_no' hk1 HXK.out HYK.out hxy]; simp, below_drewN (hW0'.trans (hb.mono (by omega))) _⟩
        · go_roundw
          case rel =>
            have hxy : x < y := by assumption
            exact ⟨k + 1, by omega, by omega, by go_num, hkk.out.step hk1 HXK.out HYK.out hxy, below_drewN hb _⟩
          case measure => simp [intOf]; omega
      · have hset : incB ds = true := hkk.out.all (by rw [← HND.out]; omega)
        have HSET := Lib.hid hset; clear hset hkk
        have hI : ¬ (k : Int) < (nd : Int) := by omega
        have hb' : Below w.heap.size w wr := hW0'.trans (hb.mono (by omega))
        have Y4 := Lib.hid ((hb.cell (by show w.heap.size < w.heap.size + 1; omega)).trans X4.out)
        have hsz : w.heap.size + 1 ≤ wr.heap.size := Nat.le_trans hW0 hb.size
        clear hb X0 X3 X4 hW0
        go_wp2
        clear y3 hI hk hk1 hlt
        obtain ⟨wo, rfl⟩ : ∃ wo : World, wo = wr := ⟨_, rfl⟩
        go_loopw [4] (fun i wr => ∃ k : Nat, 1 ≤ k ∧ (k ≤ ne ∨ k = 1) ∧ i = .int .i64 k ∧ Hid (IncTo (es.map (·.1)) k) ∧ Below (w.heap.size + 1) wo wr) (fun i _ => ne - (intOf i).toNat)
        case atStart => exact ⟨1, by omega, Or.inr rfl, rfl, fun i x y h => by omega, Below.refl _ _⟩
        case round =>
          obtain ⟨k, hk1, hk, rfl, hkk, hb⟩ := hrel
          have y4 := (hb.cell (by show w.heap.size < w.heap.size + 1; omega)).trans Y4.out
          by_cases hlt : k < ne
          · obtain ⟨x, hxk⟩ : ∃ x, es[k - 1]? = some x := ⟨_, List.getElem?_eq_getElem (by rw [← HNE.out]; omega)⟩
            obtain ⟨y, hyk⟩ : ∃ x, es[k]? = some x := ⟨_, List.getElem?_eq_getElem (by rw [← HNE.out]; exact hlt)⟩
            obtain ⟨b1, o1, rfl, hb1, c1, _⟩ := HE.out (k - 1) x hxk
            obtain ⟨b2, o2, hbo, hb2, c2, _⟩ := HE.out k y hyk
            simp only [Option.some.injEq, Addr.mk.injEq, and_true] at hbo
            obtain ⟨rfl, rfl⟩ := hbo
            have d1 := ((hb.mono (Nat.le_succ _)).cell (by exact hb1)).trans ((hb'.cell (by exact hb1)).trans c1)
            have d2 := ((hb.mono (Nat.le_succ _)).cell (by exact hb1)).trans ((hb'.cell (by exact hb1)).trans c2)
            clear c1 c2 hb1 hb2
            have HXK : Hid ((es.map (·.1))[k - 1]? = some x.1) := by show _ = _; rw [List.getElem?_map, hxk]; rfl
            have HYK : Hid ((es.map (·.1))[k]? = some y.1) := by show _ = _; rw [List.getElem?_map, hyk]; rfl
            clear hxk hyk
            obtain ⟨x, x2⟩ := x
            obtain ⟨y, y2⟩ := y
            have hI : (k : Int) < (ne : Int) := by omega
            have hI1 : (1 : Int) ≤ (k : Int) := by omega
            go_wp2
            go_quiet (fail)
            go_wp2
            · go_ret
              have hxy : y ≤ x := by assumption
              exact ⟨by rw [incB_no' hk1 HXK.out HYK.out hxy]; simp, below_drewN (hb'.trans (hb.mono (by omega))) _⟩
            · go_roundw
              case rel =>
                have hxy : x < y := by assumption
                exact ⟨k + 1, by omega, by omega, by go_num, hkk.out.step hk1 HXK.out HYK.out hxy, below_drewN hb _⟩
              case measure => simp [intOf]; omega
          · have htab : incB (es.map (·.1)) = true := hkk.out.all (by rw [List.length_map, ← HNE.out]; omega)
            have HTAB := Lib.hid htab; clear htab hkk
            have hI : ¬ (k : Int) < (ne : Int) := by omega
            go_wp2
            go_ret
            exact ⟨by rw [HSET.out, HTAB.out]; simp, hb'.trans (hb.mono (by omega))⟩
  · have hI : (1 : Int) < (na : Int) := by omega
    have E : (decide (na ≤ 1) && incB ds && incB (es.map (·.1))) = false := by simp [h1]
    have E' := Lib.hid E; clear E
    go_enter Try.func38, Try.ntmps38
    go_wp2
    go_ret
    exact ⟨by rw [E'.out]; rfl, below_box _ _⟩

theorem mMay {v : Value} {m : MC} {w : World} (h : Cont w v m) :
    Calls Try.prog 18 #[v] w fun e w' => e = .returned (.bool (mayB m)) ∧ Below w.heap.size w w' := by
  obtain ⟨a, b, c, d, e, rfl, h1, _, _, h4, h5⟩ := h
  obtain ⟨ba, ca, rfl, _, _, _⟩ := h1.at1
  obtain ⟨bd, cd, rfl, _, _, g4⟩ := h4.at1
  obtain ⟨be, ce, rfl, _, _, g5⟩ := h5.at2
  exact mMay_core b c ba be bd _ _ _ ca cd ce m.set m.table w rfl rfl (by omega) (by omega) g4 g5
theorem rMay0 {v : Value} {m : MC} {w : World} (h : Cont w v m) :
    Calls Try.prog 38 #[v] w fun e w' => e = .returned (.bool (mayB m)) ∧ Below w.heap.size w w' := by
  obtain ⟨a, b, c, d, e, rfl, h1, _, _, h4, h5⟩ := h
  obtain ⟨ba, ca, rfl, _, _, _⟩ := h1.at1
  obtain ⟨bd, cd, rfl, _, _, g4⟩ := h4.at1
  obtain ⟨be, ce, rfl, _, _, g5⟩ := h5.at2
  exact rMay_core b c ba be bd _ _ _ ca cd ce m.set m.table w rfl rfl (by omega) (by omega) g4 g5
set_option maxHeartbeats 400000 in
theorem rMay {v : Value} {m : MC} {w : World} (h : Cont w v m) :
    Calls Try.prog 20 #[v] w fun e w' => e = .returned (.bool (mayB m)) ∧ Below w.heap.size w w' := by
  obtain ⟨a, b, c, d, e, rfl, h1, h2, h3, h4, h5⟩ := h
  have H : Hid (Cont w (.agg #[a, b, c, d, e]) m) := ⟨a, b, c, d, e, rfl, h1, h2, h3, h4, h5⟩
  clear h1 h2 h3 h4 h5
  go_enter Try.func20, Try.ntmps20
  go_wp2_with (go_at_call 38; refine (rMay0 (H.out.below (below_box _ _))).mono ?_; rintro e w' ⟨rfl, hb⟩)
  go_ret
  exact ⟨rfl, below_from (hb.mono (by simp))⟩
end Go.Proofs.Ytgljbdcamagdbaa
