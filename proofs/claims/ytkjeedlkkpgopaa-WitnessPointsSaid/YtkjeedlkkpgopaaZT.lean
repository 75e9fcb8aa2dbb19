
/- slices.SortFunc on an own list of numbers: it is put in order where it lies. No statement of the program. -/
import Derived.Test.YtkjeedlkkpgopaaZP
import Derived.Shelf.SlSortCmp.NoneTotal
namespace Go.Proofs.Ytkjeedlkkpgopaa.Z
open Go Go.RowKit
set_option linter.unusedSimpArgs false
set_option linter.unusedVariables false
section
variable {B : Nat} {W : Nat → Prop} {E : Env} {S : St} {w w1 : World}
theorem fits_same {i : Nat} {b : Blk} (h : look S.own i = some (.one b)) : Fits B W E S w w [(i, .one b)] [] := by
  have hat : ∀ x c, atN [(i, Fm.one b)] x = some c → atN S.own x = some c := by
    intro x c hx
    rcases atN_one hx with ⟨rfl, rfl⟩ | hx
    · simp [atN, h, Fm.get]
    · exact (atN_nil hx).elim
  refine ⟨fun H hH => ⟨rfl, rfl, rfl, Nat.le_refl _, fun _ _ _ => rfl, H, fun x c hx => hH.den x c (hat x c hx), fun x y b c hx hy hne => hH.disj x y b c (hat x b hx) (hat y c hy) hne, fun x c hx n o hn => ⟨(hH.sub x c (hat x c hx) n o hn).1, Or.inr ⟨x, c, ?_, hat x c hx, by rw [hn]; simp⟩⟩⟩, fun _ _ x A h => by simp [atN, look] at h⟩
  rcases atN_one hx with ⟨rfl, rfl⟩ | hx
  · simp [look]
  · exact (atN_nil hx).elim
/-- an entry is written: the block stays the same one; new blocks may be laid -/
theorem fits_blk {o ob : Obj} {b b' : Blk} {i g : Nat} (h : look S.own i = some (.one b)) (hown : ∀ H, HeapOk B W E S.own H w → H (i, 0, 0) = sing g ob) (hb : b'.den E (i, 0, 0) (sing g o)) (h0 : w1.os = w.os ∧ w1.tape = w.tape ∧ w1.output = w.output) (hsz : w.heap.size ≤ w1.heap.size)
    (hw : ∀ n, n < w.heap.size → w1.heap[n]? = if n = g then some o else w.heap[n]?) : Fits B W E S w w1 [(i, .one b')] [] := by
  have hat : atN S.own (i, 0, 0) = some b := by simp [atN, h, Fm.get]
  have hone : ∀ x c, atN [(i, Fm.one b')] x = some c → x = (i, 0, 0) ∧ c = b' := by
    intro x c hx
    rcases atN_one hx with hx | hx
    · exact hx
    · exact (atN_nil hx).elim
  refine ⟨fun H hH => ⟨h0.1, h0.2.1, h0.2.2, hsz, fun n hn hk => ?_, fun _ => sing g o, ?_, ?_, ?_⟩, fun _ _ x A h => by simp [atN, look] at h⟩
  · rw [hw n hn]
    split
    · next e =>
      have := hk (i, 0, 0) b (by simp [look]) hat
      rw [hown H hH, e] at this
      simp [sing] at this
    · rfl
  · intro x c hx
    obtain ⟨rfl, rfl⟩ := hone x c hx
    exact hb
  · intro x y c d hx hy hne
    obtain ⟨rfl, _⟩ := hone x c hx
    obtain ⟨rfl, _⟩ := hone y d hy
    exact absurd rfl hne
  · intro x c hx n o' hn
    obtain ⟨rfl, rfl⟩ := hone x c hx
    obtain ⟨rfl, rfl⟩ := sing_some hn
    have hs : (H (i, 0, 0)) n = some ob := by rw [hown H hH]; simp [sing]
    have hlt := hH.lt hat hs
    refine ⟨by rw [hw _ hlt, if_pos rfl], Or.inr ⟨(i, 0, 0), b, by simp [look], hat, by rw [hs]; simp⟩⟩
end

/-- an own list is put in order -/
theorem cr_sort {C : Ctx} {S : St} {ρ : Go.Shelf.Ren} (L : SlLaysF.n6 C.P ρ) {i ty g : Nat} {cap : Option Nat} {cl : List SC} {ys zs : List Int} (K : Int → Int)
    (hown : look S.own i = some (.one (.ar ys.length 1 (ats eI ys 0) ty))) (hlen : ys.length < 4611686018427387904)
    (eg : ∀ args w, (callFunc g args).run C.P w = .ok (.enter g args) w)
    (hz : ∀ l : List Int, l.Perm ys → l.Pairwise (fun a b => K a ≤ K b) → l = zs)
    (hc : ∀ E a w, Sat C.B C.W C.w0 E S a w → ∀ W : World, (∀ n, n < w.heap.size → n ≠ E.ρ (i, 0, 0) → W.heap[n]? = w.heap[n]?) → ∀ x ∈ ys, ∀ y ∈ ys,
      Calls C.P g (#[.int .i64 x, .int .i64 y] ++ (SC.denL E cl).toArray) W fun e w' => e = .returned (.int .i64 (K x - K y)) ∧ ∃ q os, w' = Go.Sort.grow (W.drewN q) os) :
    CR C (ρ.f 6) [.c (.sl (i, 0, 0) 1 0 ys.length cap), .c (.fn (.func g) [] cl)] S [i] (.tup []) 0 [(i, .one (.ar ys.length 1 (ats eI zs 0) ty))] [] := by
  intro E a w hs
  obtain ⟨H, hH, _⟩ := hs.mem
  have hat : atN S.own (i, 0, 0) = some (.ar ys.length 1 (ats eI ys 0) ty) := by simp [atN, hown, Fm.get]
  have hd := hH.den _ _ hat
  by_cases hy : ys = []
  · subst hy
    obtain rfl : [] = zs := hz [] (List.Perm.refl _) List.Pairwise.nil
    refine Calls.mono (AnyF.slices_SortFunc_none (ρ := ρ) { L with } _ _ _ w) ?_
    rintro e w' ⟨rfl, rfl⟩
    exact ⟨_, rfl, E, hs.one, fun E2 h2 hk _ => ⟨rfl, (fits_same hown).G⟩⟩
  simp only [Blk.den] at hd
  rcases hd with ⟨_, _, h0, _⟩ | ⟨hν, hn, hκ, cells, hHx, hcs, hcells⟩
  · exact absurd (List.eq_nil_of_length_eq_zero h0) hy
  have hlt0 : 0 < ys.length := List.length_pos_iff.2 hy
  obtain ⟨hw0, _⟩ := hH.sub _ _ hat (E.ρ (i, 0, 0)) (.cells cells ty (0, 0)) (by rw [hHx]; simp [sing])
  have hblk : E.ρ (i, 0, 0) < w.heap.size := hH.lt hat (o := .cells cells ty (0, 0)) (by rw [hHx]; simp [sing])
  have hcell : ∀ e, e < ys.length → cells[e]? = some (.int .i64 (ys.getD e 0)) := fun e he => by
    have := (hcells e he).2 0 (.v (.int .i64 (ys.getD e 0))) (by simp [ats, eI])
    simpa [SC.den] using this.1
  letI : Inhabited {x : Int // x ∈ ys} := ⟨⟨ys.head hy, List.head_mem hy⟩⟩
  have hsz : ys.attach.toArray.size = ys.length := by simp
  have hget : ∀ j, j < ys.length → (ys.attach.toArray[j]!).1 = ys.getD j 0 := fun j hj => by
    rw [getElem!_pos _ j (by simpa using hj)]
    simp [List.getD_eq_getElem?_getD, List.getElem?_eq_getElem hj]
  have hO : Go.Sort.SWO (ltOf fun x y : {x : Int // x ∈ ys} => K x.1 - K y.1) := by
    refine ⟨fun x => ?_, fun x y z => ?_, fun x y z => ?_⟩ <;> simp only [ltOf, decide_eq_true_eq, decide_eq_false_iff_not] <;> omega
  have hHolds : Go.Sort.Holds (fun x : {x : Int // x ∈ ys} => Value.int .i64 x.1) w (E.ρ (i, 0, 0)) 0 ys.attach.toArray := by
    intro j hj
    rw [hsz] at hj
    refine ⟨?_, ?_⟩
    · unfold World.cell?
      simp only [hw0, Nat.zero_add]
      rw [hcell j hj, hget j hj]
      simp
    · unfold World.frozen?
      simp [hw0]
  have hcmp : CmpLays1 C.P g (SC.denL E cl).toArray (fun x : {x : Int // x ∈ ys} => Value.int .i64 x.1) (fun x y => K x.1 - K y.1) (E.ρ (i, 0, 0)) 0 ys.attach.toArray.size w := by
    intro m os dk hdk x y
    refine (hc E a w hs _ (fun n hn hne => ?_) x.1 x.2 y.1 y.2)
    show ((w.heap.modify _ _) ++ os)[n]? = _
    rw [Array.getElem?_append_left (by simpa using hn), Array.getElem?_modify, if_neg (Ne.symm hne)]
  have hcon := Any.slices_SortFunc L (fun x : {x : Int // x ∈ ys} => Value.int .i64 x.1) (fun _ => rfl) (fun x y => K x.1 - K y.1) hO g (SC.denL E cl).toArray (E.ρ (i, 0, 0)) 0 (cap.getD (E.κ (i, 0, 0) - 0)) ys.attach.toArray w eg hcmp hHolds hblk (by rw [hsz]; exact hlen)
  have hargs : ([SV.c (.sl (i, 0, 0) 1 0 ys.length cap), .c (.fn (.func g) [] cl)].map (SV.den E)).toArray = #[.slice (some ⟨E.ρ (i, 0, 0), 0, none⟩) ys.attach.toArray.size (cap.getD (E.κ (i, 0, 0) - 0)), .func (.func g) #[] (SC.denL E cl).toArray] := by
    simp [SV.den, SC.den, SC.denL, hν]
  rw [hargs]
  refine hcon.mono ?_
  rintro e w' ⟨rfl, d', m, os, hp, hso, rfl⟩
  obtain ⟨hp1, _, hp3⟩ := hp
  rw [hsz] at hp1
  have hl : d'.toList.map (·.1) = zs := by
    refine hz _ ?_ ?_
    · have e1 : d'.extract 0 ys.attach.toArray.size = d' := by rw [hsz, ← hp1]; exact Array.extract_size
      rw [e1, Array.extract_size] at hp3
      have := hp3.map (·.1)
      simpa using this
    · rw [List.pairwise_map, List.pairwise_iff_getElem]
      intro a b ha hb hab
      simp only [Array.length_toList] at ha hb
      have := hso a b (Nat.zero_le _) hab (by rw [hsz]; omega)
      rw [getElem!_pos d' a ha, getElem!_pos d' b hb] at this
      simp only [ltOf, decide_eq_false_iff_not] at this
      simp only [Array.getElem_toList]
      omega
  refine ⟨_, rfl, E, hs.one, fun E2 h2 hk _ => ⟨rfl, ?_⟩⟩
  obtain ⟨k1, k2, k3, k4⟩ := hk (i, 0, 0) (by simp)
  refine Fits.G (B := C.B) (W := C.W) (E := E2) (S := S) (w := w) (fits_blk (g := E.ρ (i, 0, 0)) (ob := .cells cells ty (0, 0)) (o := .cells (Go.Sort.putCells (fun x : {x : Int // x ∈ ys} => Value.int .i64 x.1) 0 d' cells) ty (0, 0)) hown (fun H2 hH2 => ?_) ?_ ⟨rfl, rfl, rfl⟩ ?_ ?_)
  · have hd2 := hH2.den _ _ hat
    simp only [Blk.den] at hd2
    rcases hd2 with ⟨_, _, h0, _⟩ | ⟨_, _, _, cells2, hHx2, _, _⟩
    · omega
    · obtain ⟨hw2, _⟩ := hH2.sub _ _ hat (E2.ρ (i, 0, 0)) (.cells cells2 ty (0, 0)) (by rw [hHx2]; simp [sing])
      rw [k1, hw0] at hw2
      cases hw2
      rw [hHx2, k1]
  · simp only [Blk.den]
    refine Or.inr ⟨by rw [k3]; exact hν, by rw [k2]; exact hn, by rw [k2]; exact hκ, _, by rw [k1], ?_, fun e he => ⟨rfl, ?_⟩⟩
    · rw [k2]
      simpa [Go.Sort.putCells] using hcs
    · intro j u hj
      simp only [ats, eI, List.map_cons, List.map_nil] at hj
      match j, hj with
      | 0, hj =>
        simp only [List.getElem?_cons_zero, Option.some.injEq] at hj
        subst hj
        refine ⟨?_, rfl⟩
        have he2 : e < d'.size := by omega
        simp only [Go.Sort.putCells, Nat.mul_one, Nat.add_zero, Array.getElem?_mapIdx, hcell e he, Option.map_some, Nat.zero_le, true_and, Nat.zero_add, if_pos he2, Nat.sub_zero, SC.den]
        rw [← hl, getElem!_pos d' e he2]
        simp [List.getD_eq_getElem?_getD, List.getElem?_eq_getElem, he2]
      | j + 1, hj => simp at hj
  · show _ ≤ ((w.heap.modify _ _) ++ os).size
    simp
  · intro n hn
    show ((w.heap.modify _ _) ++ os)[n]? = _
    rw [Array.getElem?_append_left (by simpa using hn), Array.getElem?_modify]
    by_cases e : n = E.ρ (i, 0, 0)
    · subst e
      simp [hw0, Go.Sort.onCells]
    · rw [if_neg (Ne.symm e), if_neg e]
end Go.Proofs.Ytkjeedlkkpgopaa.Z
