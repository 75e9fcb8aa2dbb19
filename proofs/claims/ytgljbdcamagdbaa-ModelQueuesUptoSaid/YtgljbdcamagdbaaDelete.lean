/- slices.Delete of one entry of a list of the call's own. -/
import Derived.Test.YtgljbdcamagdbaaInsert
namespace Go.Proofs.Ytgljbdcamagdbaa
open Go.RowKit

/-- an entry taken out -/
def delAt {α : Type} (l : List α) (i : Nat) : List α := l.take i ++ l.drop (i + 1)
theorem delAt_len {α : Type} (l : List α) (i : Nat) (hi : i < l.length) : (delAt l i).length = l.length - 1 := by simp [delAt]; omega

theorem splice_take {α : Type} (L cs : List α) (o : Nat) (ho : o ≤ L.length) : (splice L o cs).take o = L.take o := by
  unfold splice
  rw [List.take_append, List.length_take, Nat.min_eq_left ho, Nat.sub_self, List.take_zero, List.append_nil, List.take_take, Nat.min_self]
theorem splice_mid {α : Type} (X W Y : List α) (k : Nat) (hk : X.length = k) : (splice (X ++ W) k Y).take (k + Y.length) = X ++ Y := by
  subst hk
  unfold splice
  rw [List.take_left, show X.length + Y.length = (X ++ Y).length by simp, ← List.append_assoc, List.take_left]

set_option maxRecDepth 100000 in
set_option maxHeartbeats 1000000 in
theorem delete_set {w : World} {B i : Nat} {v : Value} {l : List Int} (hi : i < l.length) (hown : OwnE w B 3 eI 1 v l) :
    Calls Try.prog 89 #[v, .int .i64 i, .int .i64 ((i : Int) + 1)] w (RetB w B 3 eI 1 (delAt l i)) := by
  rcases hown with ⟨rfl, _⟩ | hown
  · simp at hi
  obtain ⟨hlen0, ⟨rfl, h0⟩ | ⟨g, cap, cur, rfl, hBg, hg, hnc, hcm, hcs, htk⟩⟩ := hown
  · omega
  obtain ⟨n, hn⟩ : ∃ n, n = l.length := ⟨_, rfl⟩
  rw [← hn] at hi hnc htk hlen0 ⊢
  have hl : l = l.take i ++ l[i] :: l.drop (i + 1) := by rw [← List.drop_eq_getElem_cons (by omega), List.take_append_drop]
  have hX1 : ((l.take i).flatMap eI).length = i := by rw [flat_len eI_ok.len, List.length_take, ← hn]; omega
  have hX2 : ((l.drop (i + 1)).flatMap eI).length = (n - (i + 1)) * 1 := by rw [flat_len eI_ok.len, List.length_drop, ← hn]
  have hE : (eI l[i]).length = 1 := eI_ok.len _
  have hsplit : l.flatMap eI = (l.take i).flatMap eI ++ (eI l[i] ++ (l.drop (i + 1)).flatMap eI) := by
    conv => lhs; rw [hl]
    simp only [List.flatMap_append, List.flatMap_cons]
  obtain ⟨X, eX⟩ : ∃ X, (l.take i).flatMap eI = X := ⟨_, rfl⟩
  obtain ⟨Y, eY⟩ : ∃ Y, (l.drop (i + 1)).flatMap eI = Y := ⟨_, rfl⟩
  obtain ⟨E, eE⟩ : ∃ E, eI l[i] = E := ⟨_, rfl⟩
  obtain ⟨S, eS⟩ : ∃ S, cur.toList.drop (n * 1) = S := ⟨_, rfl⟩
  rw [eX] at hX1
  rw [eY] at hX2
  rw [eE] at hE
  rw [eX, eY, eE] at hsplit
  have hS : S.length = (cap - n) * 1 := by rw [← eS, List.length_drop, Array.length_toList, hcs]; omega
  have hcur : cur = (X ++ (E ++ (Y ++ S))).toArray := by
    have h1 : cur.toList = X ++ (E ++ (Y ++ S)) := by rw [← List.append_assoc E, ← List.append_assoc X, ← hsplit, ← htk, ← eS, List.take_append_drop]
    rw [← h1]
  subst hcur
  clear hlen0 hcs htk eS hsplit hl
  have hl0 : (X ++ (E ++ (Y ++ S))).length = cap * 1 := by simp only [List.length_append, hX1, hX2, hE, hS]; omega
  have h1Y : ∀ v ∈ Y, v.oneCell' = true := fun v hv => by rw [← eY] at hv; obtain ⟨y, _, h⟩ := List.mem_flatMap.1 hv; exact eI_ok.one y v h
  have hg0 : w.drew.heap[g]? = some (.cells (X ++ (E ++ (Y ++ S))).toArray 3 (0, 0)) := hg
  have hsrcY : ∀ j v, Y[j]? = some v → w.drew.cell? ((⟨g, i + 1, none⟩ : Addr).add j) = some v := fun j v hv => by
    have ea : (⟨g, i + 1, none⟩ : Addr).add j = ⟨g, i + 1 + j, none⟩ := by unfold Addr.add; split <;> simp_all
    rw [ea, cell_of_row w.drew g (i + 1 + j) _ _ (0, 0) hg0]
    rw [List.getElem?_toArray, List.getElem?_append_right (by rw [hX1]; omega), hX1, show i + 1 + j - i = 1 + j by omega, List.getElem?_append_right (by rw [hE]; omega), hE, show 1 + j - 1 = j by omega, List.getElem?_append_left (List.getElem?_eq_some_iff.1 hv).1]
    exact hv
  have hnY : Y.length = (n - (i + 1)) * 1 := hX2
  have hroom : i + (n - (i + 1)) ≤ cap := by omega
  have hfY : 0 + i * 1 + Y.length ≤ (X ++ (E ++ (Y ++ S))).length := by rw [hl0, hX2]; omega
  have hl1 : (splice (X ++ (E ++ (Y ++ S))) (i) Y).length = (X ++ (E ++ (Y ++ S))).length := length_splice _ _ _ (by rw [hl0, hX2]; omega)
  have hg1 := setRow_heap w.drew g _ (splice (X ++ (E ++ (Y ++ S))) (i) Y).toArray 3 (0, 0) hg0
  have hfz : n - 1 + 1 * 1 ≤ (splice (X ++ (E ++ (Y ++ S))) (i) Y).length := by rw [hl1, hl0]; omega
  have htake : (splice (X ++ (E ++ (Y ++ S))) (i) Y).take ((n - 1) * 1) = (delAt l i).flatMap eI := by
    have := splice_mid X (E ++ (Y ++ S)) Y (i) hX1
    rw [show (n - 1) * 1 = i + Y.length by rw [hX2]; omega, this]
    simp only [delAt, List.flatMap_append, eX, eY]
  have hdl : (delAt l i).length = n - 1 := by rw [delAt_len l i (by omega), hn]
  have hret : ∀ cs : List Value, cs.length = 1 * 1 → OwnE ((w.drew.setRow g (splice (X ++ (E ++ (Y ++ S))) (i) Y).toArray).setRow g (splice (splice (X ++ (E ++ (Y ++ S))) (i) Y) (n - 1) cs).toArray) B 3 eI 1 (.slice (some ⟨g, 0, none⟩) (n - 1) cap) (delAt l i) := by
    intro cs hc
    refine Or.inr ⟨flat_len eI_ok.len _, Or.inr ⟨g, cap, _, by rw [hdl], hBg, setRow_heap _ g _ _ 3 (0, 0) hg1, by rw [hdl]; omega, hcm, ?_, ?_⟩⟩
    · rw [List.size_toArray, length_splice _ _ _ (by rw [hc]; exact hfz), hl1, hl0]
    · rw [hdl, ← htake, List.toList_toArray]
      rw [show (n - 1) * 1 = n - 1 by omega]
      exact splice_take _ _ _ (by rw [hl1, hl0]; omega)
  have hbel : ∀ cs : List Value, Below B w ((w.drew.setRow g (splice (X ++ (E ++ (Y ++ S))) (i) Y).toArray).setRow g (splice (splice (X ++ (E ++ (Y ++ S))) (i) Y) (n - 1) cs).toArray) :=
    fun cs => below_setRow' (below_setRow' (Below.refl _ _).drew hBg _) hBg _
  have hne : ((i : Int) == (i : Int) + 1) = false := by rw [beq_eq_false_iff_ne]; omega
  have hi1 : (i : Int) + 1 ≤ (n : Int) := by omega
  have hi0 : (i : Int) ≤ (i : Int) + 1 := by omega
  have hi2 : (0 : Int) ≤ (i : Int) + 1 := by omega
  have hi3 : ((i : Int) + 1).toNat = i + 1 := by omega
  have hi4 : (i : Int) ≤ (cap : Int) := by omega
  have hi5 : (n : Int) ≤ (cap : Int) := by omega
  have hnb : cap ≤ 9223372036854775807 := by unfold maxLen at hcm; omega
  have ei : i + (n - (i + 1)) = n - 1 := by omega
  have hk0 : ¬ n = i := by omega
  have hk1 : ¬ cap = 0 := by omega
  have hk2 : ¬ cap = n - 1 := by omega
  have hk3 : n - (n - 1) = 1 := by omega
  have hk4 : ((n - 1 : Nat) : Int) ≤ (n : Int) := by omega
  have HRM := Lib.hid hroom
  have HG0 := Lib.hid hg0
  have HG1 := Lib.hid hg1
  have HNY := Lib.hid hnY
  have HSY := Lib.hid hsrcY
  have HFY := Lib.hid hfY
  have H1Y := Lib.hid h1Y
  have HFZ := Lib.hid hfz
  have HRET := Lib.hid hret
  have HBEL := Lib.hid hbel
  have EI := Lib.hid ei
  clear hg hg0 hg1 hnY hsrcY hfY h1Y hfz hret hbel hl0 hl1 htake hdl hX1 hX2 hE hS eX eY eE hn hBg hroom ei
  by_cases hcp : cap = i + 1
  · have HSY0 : Hid (∀ j v, Y[j]? = some v → w.drew.cell? ((⟨g, 0, none⟩ : Addr).add j) = some v) := fun j v hv => by
      have h := (List.getElem?_eq_some_iff.1 hv).1
      have := HNY.out
      omega
    clear HSY; have HSY := HSY0; clear HSY0
    subst hcp
    have hn1 : n = i + 1 := by omega
    subst hn1
    have HNY0 : Hid (Y.length = 0 * 1) := HNY.out.trans (by omega)
    have HRM0 : Hid (i + 0 ≤ i + 1) := by show _ ≤ _; omega
    go_enter Try.func89, Try.ntmps89
    go_upto_region 5 with (fail)
    go_region_law (refine step_append_rowS (off := 0) (n := i) (cap := i + 1) (ad := ⟨g, 0, none⟩) (m := 0) (c := 0) rfl (.tmp 22) (.tmp 25) 93 rfl zI Try.underlying93 (by simp [Act.eval, Act.put]) (by simp [Act.eval, Act.put]) HG0.out Y HNY0.out HRM0.out HSY.out HFY.out H1Y.out ?_; intro W3 e3; subst e3)
    rw [EI.out] at *
    generalize w.drew.setRow g (splice (X ++ (E ++ (Y ++ S))) (i) Y).toArray = W2 at *
    go_wp2_with (refine wpList_clear_rowS rfl (.tmp 31) 93 rfl zI Try.underlying93 rfl HG1.out (by simp) HFZ.out ?_; intro W3 cs hcs e3; subst e3; have HCS := Lib.hid hcs; clear hcs)
    go_ret
    exact ⟨_, rfl, HRET.out cs HCS.out, HBEL.out cs⟩

  · skip
    go_enter Try.func89, Try.ntmps89
    go_upto_region 5 with (fail)
    go_region_law (refine step_append_rowS (off := 0) (n := i) (cap := cap) (ad := ⟨g, i + 1, none⟩) (m := n - (i + 1)) (c := cap - (i + 1)) rfl (.tmp 22) (.tmp 25) 93 rfl zI Try.underlying93 (by simp [Act.eval, Act.put]) (by simp [Act.eval, Act.put]) HG0.out Y HNY.out HRM.out HSY.out HFY.out H1Y.out ?_; intro W3 e3; subst e3)
    rw [EI.out] at *
    generalize w.drew.setRow g (splice (X ++ (E ++ (Y ++ S))) (i) Y).toArray = W2 at *
    go_wp2_with (refine wpList_clear_rowS rfl (.tmp 31) 93 rfl zI Try.underlying93 rfl HG1.out (by simp) HFZ.out ?_; intro W3 cs hcs e3; subst e3; have HCS := Lib.hid hcs; clear hcs)
    go_ret
    exact ⟨_, rfl, HRET.out cs HCS.out, HBEL.out cs⟩

set_option maxRecDepth 100000 in
set_option maxHeartbeats 1000000 in
theorem delete_table {w : World} {B i : Nat} {v : Value} {l : List (Int × Int)} (hi : i < l.length) (hown : OwnE w B 76 eP 2 v l) :
    Calls Try.prog 103 #[v, .int .i64 i, .int .i64 ((i : Int) + 1)] w (RetB w B 76 eP 2 (delAt l i)) := by
  rcases hown with ⟨rfl, _⟩ | hown
  · simp at hi
  obtain ⟨hlen0, ⟨rfl, h0⟩ | ⟨g, cap, cur, rfl, hBg, hg, hnc, hcm, hcs, htk⟩⟩ := hown
  · omega
  obtain ⟨n, hn⟩ : ∃ n, n = l.length := ⟨_, rfl⟩
  rw [← hn] at hi hnc htk hlen0 ⊢
  have hl : l = l.take i ++ l[i] :: l.drop (i + 1) := by rw [← List.drop_eq_getElem_cons (by omega), List.take_append_drop]
  have hX1 : ((l.take i).flatMap eP).length = i * 2 := by rw [flat_len eP_ok.len, List.length_take, ← hn]; omega
  have hX2 : ((l.drop (i + 1)).flatMap eP).length = (n - (i + 1)) * 2 := by rw [flat_len eP_ok.len, List.length_drop, ← hn]
  have hE : (eP l[i]).length = 2 := eP_ok.len _
  have hsplit : l.flatMap eP = (l.take i).flatMap eP ++ (eP l[i] ++ (l.drop (i + 1)).flatMap eP) := by
    conv => lhs; rw [hl]
    simp only [List.flatMap_append, List.flatMap_cons]
  obtain ⟨X, eX⟩ : ∃ X, (l.take i).flatMap eP = X := ⟨_, rfl⟩
  obtain ⟨Y, eY⟩ : ∃ Y, (l.drop (i + 1)).flatMap eP = Y := ⟨_, rfl⟩
  obtain ⟨E, eE⟩ : ∃ E, eP l[i] = E := ⟨_, rfl⟩
  obtain ⟨S, eS⟩ : ∃ S, cur.toList.drop (n * 2) = S := ⟨_, rfl⟩
  rw [eX] at hX1
  rw [eY] at hX2
  rw [eE] at hE
  rw [eX, eY, eE] at hsplit
  have hS : S.length = (cap - n) * 2 := by rw [← eS, List.length_drop, Array.length_toList, hcs]; omega
  have hcur : cur = (X ++ (E ++ (Y ++ S))).toArray := by
    have h1 : cur.toList = X ++ (E ++ (Y ++ S)) := by rw [← List.append_assoc E, ← List.append_assoc X, ← hsplit, ← htk, ← eS, List.take_append_drop]
    rw [← h1]
  subst hcur
  clear hlen0 hcs htk eS hsplit hl
  have hl0 : (X ++ (E ++ (Y ++ S))).length = cap * 2 := by simp only [List.length_append, hX1, hX2, hE, hS]; omega
  have h1Y : ∀ v ∈ Y, v.oneCell' = true := fun v hv => by rw [← eY] at hv; obtain ⟨y, _, h⟩ := List.mem_flatMap.1 hv; exact eP_ok.one y v h
  have hg0 : w.drew.heap[g]? = some (.cells (X ++ (E ++ (Y ++ S))).toArray 76 (0, 0)) := hg
  have hsrcY : ∀ j v, Y[j]? = some v → w.drew.cell? ((⟨g, (i + 1) * 2, none⟩ : Addr).add j) = some v := fun j v hv => by
    have ea : (⟨g, (i + 1) * 2, none⟩ : Addr).add j = ⟨g, (i + 1) * 2 + j, none⟩ := by unfold Addr.add; split <;> simp_all
    rw [ea, cell_of_row w.drew g ((i + 1) * 2 + j) _ _ (0, 0) hg0]
    rw [List.getElem?_toArray, List.getElem?_append_right (by rw [hX1]; omega), hX1, show (i + 1) * 2 + j - i * 2 = 2 + j by omega, List.getElem?_append_right (by rw [hE]; omega), hE, show 2 + j - 2 = j by omega, List.getElem?_append_left (List.getElem?_eq_some_iff.1 hv).1]
    exact hv
  have hnY : Y.length = (n - (i + 1)) * 2 := hX2
  have hroom : i + (n - (i + 1)) ≤ cap := by omega
  have hfY : 0 + i * 2 + Y.length ≤ (X ++ (E ++ (Y ++ S))).length := by rw [hl0, hX2]; omega
  have hl1 : (splice (X ++ (E ++ (Y ++ S))) (i * 2) Y).length = (X ++ (E ++ (Y ++ S))).length := length_splice _ _ _ (by rw [hl0, hX2]; omega)
  have hg1 := setRow_heap w.drew g _ (splice (X ++ (E ++ (Y ++ S))) (i * 2) Y).toArray 76 (0, 0) hg0
  have hfz : (n - 1) * 2 + 1 * 2 ≤ (splice (X ++ (E ++ (Y ++ S))) (i * 2) Y).length := by rw [hl1, hl0]; omega
  have htake : (splice (X ++ (E ++ (Y ++ S))) (i * 2) Y).take ((n - 1) * 2) = (delAt l i).flatMap eP := by
    have := splice_mid X (E ++ (Y ++ S)) Y (i * 2) hX1
    rw [show (n - 1) * 2 = i * 2 + Y.length by rw [hX2]; omega, this]
    simp only [delAt, List.flatMap_append, eX, eY]
  have hdl : (delAt l i).length = n - 1 := by rw [delAt_len l i (by omega), hn]
  have hret : ∀ cs : List Value, cs.length = 1 * 2 → OwnE ((w.drew.setRow g (splice (X ++ (E ++ (Y ++ S))) (i * 2) Y).toArray).setRow g (splice (splice (X ++ (E ++ (Y ++ S))) (i * 2) Y) ((n - 1) * 2) cs).toArray) B 76 eP 2 (.slice (some ⟨g, 0, none⟩) (n - 1) cap) (delAt l i) := by
    intro cs hc
    refine Or.inr ⟨flat_len eP_ok.len _, Or.inr ⟨g, cap, _, by rw [hdl], hBg, setRow_heap _ g _ _ 76 (0, 0) hg1, by rw [hdl]; omega, hcm, ?_, ?_⟩⟩
    · rw [List.size_toArray, length_splice _ _ _ (by rw [hc]; exact hfz), hl1, hl0]
    · rw [hdl, ← htake, List.toList_toArray]
      rw [show (n - 1) * 2 = (n - 1) * 2 by omega]
      exact splice_take _ _ _ (by rw [hl1, hl0]; omega)
  have hbel : ∀ cs : List Value, Below B w ((w.drew.setRow g (splice (X ++ (E ++ (Y ++ S))) (i * 2) Y).toArray).setRow g (splice (splice (X ++ (E ++ (Y ++ S))) (i * 2) Y) ((n - 1) * 2) cs).toArray) :=
    fun cs => below_setRow' (below_setRow' (Below.refl _ _).drew hBg _) hBg _
  have hne : ((i : Int) == (i : Int) + 1) = false := by rw [beq_eq_false_iff_ne]; omega
  have hi1 : (i : Int) + 1 ≤ (n : Int) := by omega
  have hi0 : (i : Int) ≤ (i : Int) + 1 := by omega
  have hi2 : (0 : Int) ≤ (i : Int) + 1 := by omega
  have hi3 : ((i : Int) + 1).toNat = i + 1 := by omega
  have hi4 : (i : Int) ≤ (cap : Int) := by omega
  have hi5 : (n : Int) ≤ (cap : Int) := by omega
  have hnb : cap ≤ 9223372036854775807 := by unfold maxLen at hcm; omega
  have ei : i + (n - (i + 1)) = n - 1 := by omega
  have hk0 : ¬ n = i := by omega
  have hk1 : ¬ cap = 0 := by omega
  have hk2 : ¬ cap = n - 1 := by omega
  have hk3 : n - (n - 1) = 1 := by omega
  have hk4 : ((n - 1 : Nat) : Int) ≤ (n : Int) := by omega
  have HRM := Lib.hid hroom
  have HG0 := Lib.hid hg0
  have HG1 := Lib.hid hg1
  have HNY := Lib.hid hnY
  have HSY := Lib.hid hsrcY
  have HFY := Lib.hid hfY
  have H1Y := Lib.hid h1Y
  have HFZ := Lib.hid hfz
  have HRET := Lib.hid hret
  have HBEL := Lib.hid hbel
  have EI := Lib.hid ei
  clear hg hg0 hg1 hnY hsrcY hfY h1Y hfz hret hbel hl0 hl1 htake hdl hX1 hX2 hE hS eX eY eE hn hBg hroom ei
  by_cases hcp : cap = i + 1
  · have HSY0 : Hid (∀ j v, Y[j]? = some v → w.drew.cell? ((⟨g, 0, none⟩ : Addr).add j) = some v) := fun j v hv => by
      have h := (List.getElem?_eq_some_iff.1 hv).1
      have := HNY.out
      omega
    clear HSY; have HSY := HSY0; clear HSY0
    subst hcp
    have hn1 : n = i + 1 := by omega
    subst hn1
    have HNY0 : Hid (Y.length = 0 * 2) := HNY.out.trans (by omega)
    have HRM0 : Hid (i + 0 ≤ i + 1) := by show _ ≤ _; omega
    go_enter Try.func103, Try.ntmps103
    go_upto_region 5 with (fail)
    go_region_law (refine step_append_rowS (off := 0) (n := i) (cap := i + 1) (ad := ⟨g, 0, none⟩) (m := 0) (c := 0) rfl (.tmp 22) (.tmp 25) 94 rfl zP Try.underlying94 (by simp [Act.eval, Act.put]) (by simp [Act.eval, Act.put]) HG0.out Y HNY0.out HRM0.out HSY.out HFY.out H1Y.out ?_; intro W3 e3; subst e3)
    rw [EI.out] at *
    generalize w.drew.setRow g (splice (X ++ (E ++ (Y ++ S))) (i * 2) Y).toArray = W2 at *
    go_wp2_with (refine wpList_clear_rowS rfl (.tmp 31) 94 rfl zP Try.underlying94 rfl HG1.out (by simp) HFZ.out ?_; intro W3 cs hcs e3; subst e3; have HCS := Lib.hid hcs; clear hcs)
    go_ret
    exact ⟨_, rfl, HRET.out cs HCS.out, HBEL.out cs⟩

  · skip
    go_enter Try.func103, Try.ntmps103
    go_upto_region 5 with (fail)
    go_region_law (refine step_append_rowS (off := 0) (n := i) (cap := cap) (ad := ⟨g, (i + 1) * 2, none⟩) (m := n - (i + 1)) (c := cap - (i + 1)) rfl (.tmp 22) (.tmp 25) 94 rfl zP Try.underlying94 (by simp [Act.eval, Act.put]) (by simp [Act.eval, Act.put]) HG0.out Y HNY.out HRM.out HSY.out HFY.out H1Y.out ?_; intro W3 e3; subst e3)
    rw [EI.out] at *
    generalize w.drew.setRow g (splice (X ++ (E ++ (Y ++ S))) (i * 2) Y).toArray = W2 at *
    go_wp2_with (refine wpList_clear_rowS rfl (.tmp 31) 94 rfl zP Try.underlying94 rfl HG1.out (by simp) HFZ.out ?_; intro W3 cs hcs e3; subst e3; have HCS := Lib.hid hcs; clear hcs)
    go_ret
    exact ⟨_, rfl, HRET.out cs HCS.out, HBEL.out cs⟩

end Go.Proofs.Ytgljbdcamagdbaa
