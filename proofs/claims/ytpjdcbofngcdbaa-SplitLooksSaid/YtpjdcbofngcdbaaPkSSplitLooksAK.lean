/- SplitLooksSaid: what its proof is made of. No condition. -/
import Derived.Test.YtpjdcbofngcdbaaPkSSplitLooksAJ
set_option linter.unusedSimpArgs false
set_option linter.unusedVariables false
namespace Go.Proofs.Ytpjdcbofngcdbaa.Z
open Go Go.RowKit
def InlR (C : Ctx) (S : St) (dst : Option Nat) (K : St → Prop) (E0 : Env) (a : Act) (e : Ending) (w' : World) : Prop :=
 ∃ u, e = .returned u ∧ ∃ E' S', SatA C.B C.W C.w0 E' S' (a.put dst u) w' ∧ K S'
def mkI (C : Ctx) (rs : List RS) (S : St) (dst : Option Nat) (K : St → Prop) (E0 : Env) (a : Act) : Ctx := ⟨C.P, C.tab, C.B, C.W, C.w0, rs, InlR C S dst K E0 a⟩
theorem mkI_rs (C : Ctx) (rs : List RS) (S : St) (dst : Option Nat) (K : St → Prop) (E0 : Env) (a : Act) : (mkI C rs S dst K E0 a).rs = rs := rfl
def RetB (w : World) (Pre : World → Prop) (nx : Nat) (T : Nat → SV) (A : Nat → List (Nat × Fm ArrF)) (e : Ending) (w' : World) : Prop :=
 ∃ v, e = .returned v ∧ Below w.heap.size w w' ∧ ∀ b, ∃ N : Env, OneC N ∧ ∀ E2, AgreeD (NewIds b nx) N E2 → v = (T b).den E2 ∧
  ∀ w'' : World, Pre w'' → (∀ n, w.heap.size ≤ n → n < w'.heap.size → w''.heap[n]? = w'.heap[n]?) → ∀ x A', atN (A b) x = some A' → ArrAt E2 w'' x A'
def ArrF.lo (l : Nat) (A : ArrF) : ArrF := ⟨A.len, A.size, A.at_, l⟩
def loFm (l : Nat) : Fm ArrF → Fm ArrF
 | .one A => .one (A.lo l)
 | .fam n f => .fam n fun k => (f k).lo l
 | .fam2 n m f => .fam2 n m fun k j => (f k j).lo l
def lowL (l : Nat) : List (Nat × Fm ArrF) → List (Nat × Fm ArrF)
 | [] => []
 | (i, F) :: r => (i, loFm l F) :: lowL l r
theorem atN_lowL {l : Nat} : ∀ {L : List (Nat × Fm ArrF)} {x : Nm} {A' : ArrF}, atN (lowL l L) x = some A' → ∃ A, atN L x = some A ∧ A' = A.lo l
 | [], x, A', h => by simp [lowL, atN, look] at h
 | (i, F) :: r, (j, k, m), A', h => by
  simp only [lowL, atN, look_cons] at h ⊢
  by_cases e : i = j
  ·subst e
   rw [if_pos rfl] at h
   rw [if_pos rfl]
   cases F with
   | one A =>
    simp only [loFm, Fm.get] at h ⊢
    split at h
    ·next e => rw [if_pos e]; cases h; exact ⟨_, rfl, rfl⟩
    ·cases h
   | fam n f =>
    simp only [loFm, Fm.get] at h ⊢
    split at h
    ·next e => rw [if_pos e]; cases h; exact ⟨_, rfl, rfl⟩
    ·cases h
   | fam2 n g f =>
    simp only [loFm, Fm.get] at h ⊢
    split at h
    ·next e => rw [if_pos e]; cases h; exact ⟨_, rfl, rfl⟩
    ·cases h
  ·rw [if_neg e] at h
   rw [if_neg e]
   exact atN_lowL (L := r) (x := (j, k, m)) h
theorem arrAt_low {E : Env} {w w' : World} {x : Nm} {A : ArrF} {B l : Nat} (hl : l ≤ B) (hs : 0 < A.size) (h : ∀ w'' : World, (∀ n, B ≤ n → n < w'.heap.size → w''.heap[n]? = w'.heap[n]?) → ArrAt E w'' x A) :
  ∀ w'' : World, (∀ n, B ≤ n → n < w'.heap.size → w''.heap[n]? = w'.heap[n]?) → ArrAt E w'' x (A.lo l) := fun w'' hw'' => by
 obtain ⟨ba, cap, h1, h2, h3, h4⟩ := h w'' hw''
 refine ⟨ba, cap, h1, h2, h3, ?_⟩
 rcases h4 with h4 | ⟨b, off, rfl, _, h4⟩
 ·exact Or.inl h4
 by_cases h0 : A.len = 0
 ·exact Or.inl h0
 refine Or.inr ⟨b, off, rfl, Nat.le_trans hl (Nat.le_of_not_lt fun hb => ?_), h4⟩
 have hw3 : ∀ n, (w'.heap.mapIdx fun i o => if i < B then Obj.map #[] 0 else o)[n]? = (w'.heap[n]?).map fun o => if n < B then Obj.map #[] 0 else o := fun n => by
  rw [Array.getElem?_mapIdx]
 obtain ⟨ba', cap', g1, g2, g3, g4⟩ := h { w' with heap := w'.heap.mapIdx fun i o => if i < B then Obj.map #[] 0 else o } fun n hn hlt => by
  show (w'.heap.mapIdx fun i o => if i < B then Obj.map #[] 0 else o)[n]? = _
  rw [hw3]
  simp [Nat.not_lt_of_le hn]
 rw [h1] at g1
 simp only [Value.slice.injEq] at g1
 obtain ⟨rfl, _, rfl⟩ := g1
 rcases g4 with g4 | ⟨b', off', e, _, g4⟩
 ·exact h0 g4
 simp only [Option.some.injEq, Addr.mk.injEq] at e
 obtain ⟨rfl, rfl, _⟩ := e
 obtain ⟨f1, f2⟩ := g4 0 (by omega)
 have hu : (A.at_ 0)[0]? = some ((A.at_ 0)[0]'(by omega)) := List.getElem?_eq_getElem (by omega)
 have h5 := (f2 0 _ hu).1
 unfold World.cell? at h5
 simp only [hw3, if_pos hb] at h5
 cases hh : w'.heap[b]? with
 | none => rw [hh] at h5; simp at h5
 | some o => rw [hh] at h5; simp at h5
theorem RetB.low {w w' : World} {nx : Nat} {T : Nat → SV} {A : Nat → List (Nat × Fm ArrF)} {e : Ending} {l : Nat} (hl : l ≤ w.heap.size) (hs : ∀ b x A', atN (A b) x = some A' → 0 < A'.size) (h : RetB w (fun _ => True) nx T A e w') : RetB w (fun _ => True) nx T (fun b => lowL l (A b)) e w' := by
 obtain ⟨v, rfl, hb, h⟩ := h
 refine ⟨v, rfl, hb, fun b => ?_⟩
 obtain ⟨N, h1, h2⟩ := h b
 refine ⟨N, h1, fun E2 hE => ?_⟩
 obtain ⟨h3, h4⟩ := h2 E2 hE
 refine ⟨h3, fun w'' _ hw'' x A' hx => ?_⟩
 obtain ⟨A0, h5, rfl⟩ := atN_lowL hx
 exact arrAt_low (w := w') hl (hs b x A0 h5) (fun w3 hw3 => h4 w3 trivial hw3 x A0 h5) w'' hw''
end Go.Proofs.Ytpjdcbofngcdbaa.Z
namespace Go.Proofs.Ytpjdcbofngcdbaa.Z
open Go Go.RowKit
def prP (c : Cf) (ws : List Int) (n : Nd) : Option (Int × Int) := if placeB n.place = true ∧ n.mark = false then some (keyF n.place, vI (c.at_ ws 12 n.slot)) else none
def prL (c : Cf) (ws : List Int) (acc : List Nd) : List (Int × Int) := acc.filterMap (prP c ws)
def bkP (c : Cf) (n : Nd) : Option Int := if placeB n.place = true then none else some (bkt c n.place)
def bkL (c : Cf) (acc : List Nd) : List Int := acc.filterMap (bkP c)
theorem prL_push (c : Cf) (ws : List Int) (acc : List Nd) (n : Nd) : prL c ws (acc ++ [n]) = prL c ws acc ++ (if placeB n.place = true ∧ n.mark = false then [(keyF n.place, vI (c.at_ ws 12 n.slot))] else []) := by
 unfold prL
 rw [List.filterMap_append]
 congr 1
 simp only [List.filterMap_cons, List.filterMap_nil, prP]
 split <;> simp_all
theorem bkL_push (c : Cf) (acc : List Nd) (n : Nd) : bkL c (acc ++ [n]) = bkL c acc ++ (if placeB n.place = true then [] else [bkt c n.place]) := by
 unfold bkL
 rw [List.filterMap_append]
 congr 1
 simp only [List.filterMap_cons, List.filterMap_nil, bkP]
 split <;> simp_all
theorem keyF_inj {p q : Int} (hp : placeB p = true) (hq : placeB q = true) (h : keyF p = keyF q) : p = q := by
 rw [← (key_key hp).2, ← (key_key hq).2, h]
theorem prL_nd {c : Cf} {ws : List Int} {acc : List Nd} (h : NdOk c ws acc) : (prL c ws acc).Pairwise fun a b => a.1 ≠ b.1 := by
 unfold prL
 rw [List.pairwise_filterMap]
 refine h.srt.imp ?_
 intro a b hab x hx y hy e
 unfold prP at hx hy
 split at hx
 ·next ha =>
  split at hy
  ·next hb =>
   cases hx; cases hy
   have := keyF_inj ha.1 hb.1 e
   omega
  ·cases hy
 ·cases hx
theorem bkL_nd {c : Cf} (hb : c.buckets ≤ 64) {ws : List Int} {acc : List Nd} (h : NdOk c ws acc) : (bkL c acc).Pairwise fun a b => a ≠ b := by
 unfold bkL
 rw [List.pairwise_filterMap]
 have h2 := h.kind
 refine (List.Pairwise.and_mem.1 h.srt).imp ?_
 rintro a b ⟨ma, mb, hab⟩ x hx y hy e
 unfold bkP at hx hy
 split at hx
 ·cases hx
 ·next ha =>
  split at hy
  ·cases hy
  ·next hb' =>
   cases hx; cases hy
   obtain ⟨i, _, _, e1, e2⟩ := bkt_pos hb (((h2 a ma).1.resolve_left ha).2)
   obtain ⟨j, _, _, f1, f2⟩ := bkt_pos hb (((h2 b mb).1.resolve_left hb').2)
   rw [e1, f1] at e
   have : i = j := by omega
   subst this
   omega
theorem sorted_ext {α : Type} (f : α → Int) : ∀ {l1 l2 : List α}, l1.Pairwise (fun a b => f a < f b) → l2.Pairwise (fun a b => f a < f b) → (∀ x, x ∈ l1 ↔ x ∈ l2) → l1 = l2
 | [], [], _, _, _ => rfl
 | [], b :: l2, _, _, h => by have := (h b).2 (by simp); simp at this
 | a :: l1, [], _, _, h => by have := (h a).1 (by simp); simp at this
 | a :: l1, b :: l2, h1, h2, h => by
  rw [List.pairwise_cons] at h1 h2
  have hab : a = b := by
   have ma := (h a).1 (by simp)
   have mb := (h b).2 (by simp)
   rw [List.mem_cons] at ma mb
   rcases ma with rfl | ma
   ·rfl
   ·rcases mb with e | mb
    ·exact e.symm
    ·have := h1.1 b mb; have := h2.1 a ma; omega
  subst hab
  rw [sorted_ext f h1.2 h2.2 fun x => ?_]
  have := h x
  rw [List.mem_cons, List.mem_cons] at this
  constructor
  ·intro hx
   rcases this.1 (Or.inr hx) with rfl | h'
   ·have := h1.1 x hx; omega
   ·exact h'
  ·intro hx
   rcases this.2 (Or.inr hx) with rfl | h'
   ·have := h2.1 x hx; omega
   ·exact h'
theorem strict_of {α : Type} (f : α → Int) {l m : List α} (hp : l.Perm m) (hm : m.Pairwise fun a b => f a ≠ f b) (hs : l.Pairwise fun a b => f a ≤ f b) : l.Pairwise fun a b => f a < f b := by
 have h2 : l.Pairwise fun a b => f a ≠ f b := (hp.pairwise_iff (fun h => Ne.symm h)).2 hm
 exact hs.imp₂ (fun a b h1 h3 => by omega) h2
def prS (c : Cf) (ws : List Int) (acc : List Nd) : List (Int × Int) := (prL c ws acc).mergeSort fun a b => decide (a.1 ≤ b.1)
theorem prS_eq {c : Cf} {ws : List Int} {acc : List Nd} (h : NdOk c ws acc) {l : List (Int × Int)} (hp : l.Perm (prL c ws acc)) (hs : l.Pairwise fun a b => a.1 ≤ b.1) : l = prS c ws acc := by
 have h2 : (prS c ws acc).Perm (prL c ws acc) := List.mergeSort_perm _ _
 have h3 : (prS c ws acc).Pairwise fun a b => a.1 ≤ b.1 := by
  have := List.pairwise_mergeSort (le := fun a b : Int × Int => decide (a.1 ≤ b.1)) (fun a b c h1 h2 => by simp only [decide_eq_true_eq] at *; omega) (fun a b => by simp only [Bool.or_eq_true, decide_eq_true_eq]; omega) (prL c ws acc)
  exact this.imp fun h => of_decide_eq_true h
 refine sorted_ext (·.1) (strict_of (·.1) hp (prL_nd h) hs) (strict_of (·.1) h2 (prL_nd h) h3) fun x => ?_
 rw [hp.mem_iff, h2.mem_iff]
def bkQ (acc : List Nd) (b : Nat) : Bool := decide (1 ≤ b) && acc.any fun n => decide (n.place = 2 * (rv b 30 : Nat))
def bkS (c : Cf) (acc : List Nd) : List Int := ((List.range c.buckets.toNat).filter (bkQ acc)).map fun b : Nat => (b : Int)
theorem even_not {b : Nat} : placeB (2 * (rv b 30 : Nat)) = false := by
 simp only [placeB, decide_eq_false_iff_not]; omega
theorem bkS_mem {c : Cf} (hb : c.buckets ≤ 64) {ws : List Int} {acc : List Nd} (h : NdOk c ws acc) (x : Int) : x ∈ bkL c acc ↔ x ∈ bkS c acc := by
 unfold bkL bkS
 rw [List.mem_filterMap, List.mem_map]
 constructor
 ·rintro ⟨n, hn, e⟩
  unfold bkP at e
  split at e
  ·cases e
  ·next hp =>
   cases e
   obtain ⟨b, h1, h2, h3, h4⟩ := bkt_pos hb ((h.kind n hn).1.resolve_left hp).2
   refine ⟨b, ?_, by rw [h3]⟩
   rw [List.mem_filter, List.mem_range, bkQ, Bool.and_eq_true, decide_eq_true_eq, List.any_eq_true]
   exact ⟨by omega, h1, n, hn, by rw [decide_eq_true_eq]; exact h4⟩
 ·rintro ⟨b, hm, rfl⟩
  rw [List.mem_filter, List.mem_range, bkQ, Bool.and_eq_true, decide_eq_true_eq, List.any_eq_true] at hm
  obtain ⟨h1, h2, n, hn, h3⟩ := hm
  rw [decide_eq_true_eq] at h3
  refine ⟨n, hn, ?_⟩
  unfold bkP
  rw [if_neg (by rw [h3, even_not]; simp), (bkt_iff hb h2 (by omega)).1 h3]
theorem bkS_srt (c : Cf) (acc : List Nd) : (bkS c acc).Pairwise fun a b => a < b := by
 unfold bkS
 rw [List.pairwise_map]
 refine (List.pairwise_lt_range.filter _).imp ?_
 intro a b h; omega
theorem bkS_eq {c : Cf} (hb : c.buckets ≤ 64) {ws : List Int} {acc : List Nd} (h : NdOk c ws acc) {l : List Int} (hp : l.Perm (bkL c acc)) (hs : l.Pairwise fun a b => a ≤ b) : l = bkS c acc :=
 sorted_ext (fun x => x) (strict_of (fun x => x) hp (bkL_nd hb h) hs) (bkS_srt c acc) fun x => by rw [hp.mem_iff, bkS_mem hb h]
def plF (c : Cf) (acc : List Nd) (q : List Int) : Option Int := acc.reverse.findSome? fun n => if placeB n.place = false ∧ q = [bkt c n.place] then some n.slot else none
theorem plF_push (c : Cf) (acc : List Nd) (n : Nd) (q : List Int) : plF c (acc ++ [n]) q = if placeB n.place = true then plF c acc q else if q = [bkt c n.place] then some n.slot else plF c acc q := by
 unfold plF
 rw [List.reverse_append, List.reverse_singleton, List.singleton_append, List.findSome?_cons]
 by_cases h1 : placeB n.place = true
 ·simp [h1]
 ·by_cases h2 : q = [bkt c n.place]
  ·simp [h1, h2]
  ·simp [h1, h2]
theorem plF_iff {c : Cf} (hb : c.buckets ≤ 64) {ws : List Int} {acc : List Nd} (h : NdOk c ws acc) {b : Nat} (s : Int) : plF c acc [(b : Int)] = some s ↔ ∃ n ∈ acc, placeB n.place = false ∧ bkt c n.place = b ∧ n.slot = s := by
 have hu : ∀ n ∈ acc, ∀ m ∈ acc, placeB n.place = false → placeB m.place = false → bkt c n.place = bkt c m.place → n = m := by
  intro n hn m hm p1 p2 e
  obtain ⟨i, _, _, e1, e2⟩ := bkt_pos hb (((h.kind n hn).1.resolve_left (by simp [p1])).2)
  obtain ⟨j, _, _, f1, f2⟩ := bkt_pos hb (((h.kind m hm).1.resolve_left (by simp [p2])).2)
  have : i = j := by omega
  subst this
  have hp : n.place = m.place := by omega
  obtain ⟨x, hx, rfl⟩ := List.getElem_of_mem hn
  obtain ⟨y, hy, rfl⟩ := List.getElem_of_mem hm
  by_cases hxy : x = y
  ·subst hxy; rfl
  ·rcases Nat.lt_or_gt_of_ne hxy with hl | hl
   ·have := List.pairwise_iff_getElem.1 h.srt x y hx hy hl; omega
   ·have := List.pairwise_iff_getElem.1 h.srt y x hy hx hl; omega
 constructor
 ·intro he
  unfold plF at he
  obtain ⟨n, hn, hv⟩ := List.exists_of_findSome?_eq_some he
  rw [List.mem_reverse] at hn
  split at hv
  ·next hc =>
   cases hv
   exact ⟨n, hn, hc.1, by have := hc.2; simp at this; exact this.symm, rfl⟩
  ·cases hv
 ·rintro ⟨n, hn, h1, h2, rfl⟩
  cases he : plF c acc [(b : Int)] with
  | none =>
   unfold plF at he
   rw [List.findSome?_eq_none_iff] at he
   have := he n (List.mem_reverse.2 hn)
   rw [if_pos ⟨h1, by rw [h2]⟩] at this
   cases this
  | some s =>
   unfold plF at he
   obtain ⟨m, hm, hv⟩ := List.exists_of_findSome?_eq_some he
   rw [List.mem_reverse] at hm
   split at hv
   ·next hc =>
    cases hv
    have := hu n hn m hm h1 hc.1 (by have := hc.2; simp at this; omega)
    rw [this]
   ·cases hv
def coF (acc : List Nd) (q : List Int) : Option Int := if acc.any (fun n => decide (q = [n.slot])) = true then some 1 else none
theorem coF_push (acc : List Nd) (n : Nd) (q : List Int) : coF (acc ++ [n]) q = if q = [n.slot] then some 1 else coF acc q := by
 unfold coF
 rw [List.any_append]
 by_cases h : q = [n.slot]
 ·simp [h]
 ·simp [h]
theorem coF_at (acc : List Nd) (s : Int) : (coF acc [s]).getD 0 = if s ∈ acc.map (·.slot) then 1 else 0 := by
 unfold coF
 by_cases h : s ∈ acc.map (·.slot)
 ·rw [if_pos h, if_pos]
  ·rfl
  ·rw [List.any_eq_true]
   obtain ⟨n, hn, e⟩ := List.mem_map.1 h
   exact ⟨n, hn, by rw [decide_eq_true_eq, e]⟩
 ·rw [if_neg h, if_neg]
  ·rfl
  ·rw [List.any_eq_true]
   rintro ⟨n, hn, e⟩
   rw [decide_eq_true_eq] at e
   exact h (List.mem_map.2 ⟨n, hn, by simp at e; exact e.symm⟩)
def whF (c : Cf) (b : Nat) (q : List Int) : Option Int := if q = [q.headD 0] ∧ bkt c (q.headD 0) ≠ -1 ∧ bkt c (q.headD 0) < b then some (bkt c (q.headD 0)) else none
theorem whF_one (c : Cf) (q : List Int) : whF c 1 q = none := by
 unfold whF
 rw [if_neg]
 rintro ⟨_, h1, h2⟩
 unfold bkt at h1 h2
 split at h1
 ·next hc => rw [if_pos hc] at h2; omega
 ·exact h1 rfl
theorem whF_push {c : Cf} (hb : c.buckets ≤ 64) {b : Nat} (h1 : 1 ≤ b) (h2 : (b : Int) < c.buckets) (q : List Int) : whF c (b + 1) q = if q = [2 * ((rv b 30 : Nat) : Int)] then some (b : Int) else whF c b q := by
 by_cases hq : q = [2 * ((rv b 30 : Nat) : Int)]
 ·subst hq
  have e := (bkt_iff hb h1 h2).1 rfl
  unfold whF
  rw [if_pos rfl, List.headD_cons, e, if_pos ⟨rfl, by omega, by omega⟩]
 ·rw [if_neg hq]
  unfold whF
  by_cases h3 : q = [q.headD 0]
  ·by_cases h4 : bkt c (q.headD 0) = b
   ·have := (bkt_iff hb h1 h2).2 h4
    rw [this] at h3
    exact absurd h3 hq
   ·by_cases h5 : q = [q.headD 0] ∧ bkt c (q.headD 0) ≠ -1 ∧ bkt c (q.headD 0) < (b : Nat)
    ·rw [if_pos h5, if_pos ⟨h5.1, h5.2.1, by omega⟩]
    ·rw [if_neg h5, if_neg]
     rintro ⟨a1, a2, a3⟩
     exact h5 ⟨a1, a2, by omega⟩
  ·rw [if_neg (fun h => h3 h.1), if_neg (fun h => h3 h.1)]
theorem bkt_lt {c : Cf} (hb : c.buckets ≤ 64) (p : Int) : bkt c p = -1 ∨ 1 ≤ bkt c p ∧ bkt c p < c.buckets := by
 by_cases h : bkt c p = -1
 ·exact Or.inl h
 ·obtain ⟨b, h1, h2, h3, _⟩ := bkt_pos hb h
  exact Or.inr (by omega)
theorem whF_at {c : Cf} (hb : c.buckets ≤ 64) (hb1 : 1 ≤ c.buckets) (p : Int) : whF c c.buckets.toNat [p] = if bkt c p = -1 then none else some (bkt c p) := by
 have := bkt_lt hb p
 unfold whF
 simp only [List.headD_cons, true_and]
 by_cases h : bkt c p = -1
 ·rw [if_neg (by omega), if_pos h]
 ·rw [if_pos (by omega), if_neg h]
def nmB (c : Cf) (ws : List Int) (l : List Nd) (b : Nat) : Bool := decide (c.at_ ws 7 b = 0) || decide (1 ≤ b) && l.any fun n => decide (n.place = 2 * (rv b 30 : Nat)) && decide (c.at_ ws 7 b = n.slot + 1)
def namedB (c : Cf) (ws : List Int) (l : List Nd) : Bool := (List.range c.buckets.toNat).all (nmB c ws l)
theorem nm_bad {c : Cf} (hb : c.buckets ≤ 64) (hs : c.slots ≤ 1024) {ws : List Int} (hw : okW ws) {l : List Nd} (h : NdOk c ws l) {b : Nat} (hlt : (b : Int) < c.buckets) : nmB c ws l b = true ↔ (lnkOk (c.at_ ws 7 b) = true ∧ lnkM (c.at_ ws 7 b) = false ∧ (lnkI (c.at_ ws 7 b) < 0 ∨ plF c l [(b : Int)] = some (lnkI (c.at_ ws 7 b)))) := by
 have hx := okW_at hw (c.base 6 + b).toNat
 rw [show ws.getD (c.base 6 + b).toNat 0 = c.at_ ws 7 b from rfl] at hx
 unfold nmB
 generalize c.at_ ws 7 b = x at *
 rw [Bool.or_eq_true, decide_eq_true_eq, Bool.and_eq_true, decide_eq_true_eq, List.any_eq_true, plF_iff hb h]
 have hm0 := Int.emod_nonneg x (show (4294967296 : Int) ≠ 0 by decide)
 simp only [Bool.and_eq_true, decide_eq_true_eq, lnkOk, lnkM, lnkI, decide_eq_false_iff_not]
 constructor
 ·rintro (rfl | ⟨h1, n, hn, h2, h3⟩)
  ·exact ⟨by decide, by decide, Or.inl (by decide)⟩
  ·have hr := h.rng n hn
   have hl := h.len
   refine ⟨by omega, by omega, Or.inr ⟨n, hn, by rw [h2, even_not], (bkt_iff hb h1 hlt).1 h2, by omega⟩⟩
 ·rintro ⟨h1, h2, h3⟩
  rcases h3 with h3 | ⟨n, hn, p1, p2, p3⟩
  ·left; omega
  ·right
   obtain ⟨j, j1, j2, j3, j4⟩ := bkt_pos hb (((h.kind n hn).1.resolve_left (by simp [p1])).2)
   have : j = b := by omega
   subst this
   exact ⟨j1, n, hn, j4, by omega⟩
end Go.Proofs.Ytpjdcbofngcdbaa.Z
namespace Go.Proofs.Ytpjdcbofngcdbaa.Z
open Go Go.RowKit
section
variable {B : Nat} {W : Nat → Prop} {E : Env} {S : St} {w w1 : World}
theorem fits_same {i : Nat} {b : Blk} (h : look S.own i = some (.one b)) : Fits B W E S w w [(i, .one b)] [] := by
 have hat : ∀ x c, atN [(i, Fm.one b)] x = some c → atN S.own x = some c := by
  intro x c hx
  rcases atN_one hx with ⟨rfl, rfl⟩ | hx
  ·simp [atN, h, Fm.get]
  ·exact (atN_nil hx).elim
 refine ⟨fun H hH => ⟨rfl, rfl, rfl, Nat.le_refl _, fun _ _ _ => rfl, H, fun x c hx => hH.den x c (hat x c hx), fun x y b c hx hy hne => hH.disj x y b c (hat x b hx) (hat y c hy) hne, fun x c hx n o hn => ⟨(hH.sub x c (hat x c hx) n o hn).1, Or.inr ⟨x, c, ?_, hat x c hx, by rw [hn]; simp⟩⟩⟩, fun _ _ x A h => by simp [atN, look] at h⟩
 rcases atN_one hx with ⟨rfl, rfl⟩ | hx
 ·simp [look]
 ·exact (atN_nil hx).elim
theorem fits_blk {o ob : Obj} {b b' : Blk} {i g : Nat} (h : look S.own i = some (.one b)) (hown : ∀ H, HeapOk B W E S.own H w → H (i, 0, 0) = sing g ob) (hb : b'.den E (i, 0, 0) (sing g o)) (h0 : w1.os = w.os ∧ w1.tape = w.tape ∧ w1.output = w.output) (hsz : w.heap.size ≤ w1.heap.size)
  (hw : ∀ n, n < w.heap.size → w1.heap[n]? = if n = g then some o else w.heap[n]?) : Fits B W E S w w1 [(i, .one b')] [] := by
 have hat : atN S.own (i, 0, 0) = some b := by simp [atN, h, Fm.get]
 have hone : ∀ x c, atN [(i, Fm.one b')] x = some c → x = (i, 0, 0) ∧ c = b' := by
  intro x c hx
  rcases atN_one hx with hx | hx
  ·exact hx
  ·exact (atN_nil hx).elim
 refine ⟨fun H hH => ⟨h0.1, h0.2.1, h0.2.2, hsz, fun n hn hk => ?_, fun _ => sing g o, ?_, ?_, ?_⟩, fun _ _ x A h => by simp [atN, look] at h⟩
 ·rw [hw n hn]
  split
  ·next e =>
   have := hk (i, 0, 0) b (by simp [look]) hat
   rw [hown H hH, e] at this
   simp [sing] at this
  ·rfl
 ·intro x c hx
  obtain ⟨rfl, rfl⟩ := hone x c hx
  exact hb
 ·intro x y c d hx hy hne
  obtain ⟨rfl, _⟩ := hone x c hx
  obtain ⟨rfl, _⟩ := hone y d hy
  exact absurd rfl hne
 ·intro x c hx n o' hn
  obtain ⟨rfl, rfl⟩ := hone x c hx
  obtain ⟨rfl, rfl⟩ := sing_some hn
  have hs : (H (i, 0, 0)) n = some ob := by rw [hown H hH]; simp [sing]
  have hlt := hH.lt hat hs
  refine ⟨by rw [hw _ hlt, if_pos rfl], Or.inr ⟨(i, 0, 0), b, by simp [look], hat, by rw [hs]; simp⟩⟩
end
end Go.Proofs.Ytpjdcbofngcdbaa.Z
namespace Go.Proofs.Ytpjdcbofngcdbaa.Z
open Go Go.RowKit
theorem getD_att {α : Type} {ys : List α} {d : α} {j : Nat} (hj : j < ys.length) [Inhabited {x : α // x ∈ ys}] : (ys.attach.toArray[j]!).1 = ys.getD j d := by
 rw [getElem!_pos _ j (by simpa using hj)]
 simp [List.getD_eq_getElem?_getD, List.getElem?_eq_getElem hj]
theorem cr_sortK {C : Ctx} {S : St} {ρ : Go.Shelf.Ren} (L : SlLaysF0.n6 C.P ρ) {α : Type} {i ty g k : Nat} {cap : Option Nat} {cl : List SC} {ys zs : List α} (d : α) (es : α → List SC) (K : α → α → Int) (hk0 : 0 < k)
  (aE : ∀ w, (isAgg (ρ.t 24)).run C.P w = .ok true w) (zE : ∀ w, (Go.sizeOf (ρ.t 24)).run C.P w = .ok k w)
  (hown : look S.own i = some (.one (.ar ys.length k (fun e => es (ys.getD e d)) ty))) (hlen : ys.length < 4611686018427387904)
  (eg : ∀ args w, (callFunc g args).run C.P w = .ok (.enter g args) w)
  (hO : Go.Sort.SWO (ltOf fun x y : {x : α // x ∈ ys} => K x.1 y.1))
  (hz : ∀ l : List α, l.Perm ys → l.Pairwise (fun a b => ¬ K b a < 0) → l = zs)
  (hc : ∀ E a w, Sat C.B C.W C.w0 E S a w → ∀ W : World, (∀ n, n < w.heap.size → n ≠ E.ρ (i, 0, 0) → W.heap[n]? = w.heap[n]?) → ∀ x ∈ ys, ∀ y ∈ ys,
   Calls C.P g (#[.agg ((es x).map (SC.den E)).toArray, .agg ((es y).map (SC.den E)).toArray] ++ (SC.denL E cl).toArray) W fun e w' => e = .returned (.int .i64 (K x y)) ∧ ∃ q os, w' = Go.Sort.grow (W.drewN q) os) :
  CR C (ρ.f 6) [.c (.sl (i, 0, 0) k 0 ys.length cap), .c (.fn (.func g) [] cl)] S [i] (.tup []) 0 [(i, .one (.ar ys.length k (fun e => es (zs.getD e d)) ty))] [] := by
 intro E a w hs
 obtain ⟨H, hH, _⟩ := hs.mem
 have hat : atN S.own (i, 0, 0) = some (.ar ys.length k (fun e => es (ys.getD e d)) ty) := by simp [atN, hown, Fm.get]
 have hd := hH.den _ _ hat
 by_cases hy : ys = []
 ·subst hy
  obtain rfl : [] = zs := hz [] (List.Perm.refl _) List.Pairwise.nil
  refine Calls.mono (AnyF.slices_SortFunc_none (ρ := ρ) L _ _ _ w) ?_
  rintro e w' ⟨rfl, rfl⟩
  exact ⟨_, rfl, E, hs.one, fun E2 h2 hk _ => ⟨rfl, (fits_same hown).G⟩⟩
 simp only [Blk.den] at hd
 rcases hd with ⟨_, _, h0, _⟩ | ⟨hν, hn, hκ, cells, hHx, hcs, hcells⟩
 ·exact absurd (List.eq_nil_of_length_eq_zero h0) hy
 have hlt0 : 0 < ys.length := List.length_pos_iff.2 hy
 obtain ⟨hw0, _⟩ := hH.sub _ _ hat (E.ρ (i, 0, 0)) (.cells cells ty (0, 0)) (by rw [hHx]; simp [sing])
 have hblk : E.ρ (i, 0, 0) < w.heap.size := hH.lt hat (o := .cells cells ty (0, 0)) (by rw [hHx]; simp [sing])
 letI : Inhabited {x : α // x ∈ ys} := ⟨⟨ys.head hy, List.head_mem hy⟩⟩
 have hsz : ys.attach.toArray.size = ys.length := by simp
 have hget : ∀ j, j < ys.length → (ys.attach.toArray[j]!).1 = ys.getD j d := fun j hj => getD_att hj
 have hkl : ∀ x : {x : α // x ∈ ys}, ((es x.1).map (SC.den E)).length = k := fun x => by
  obtain ⟨j, hj, e⟩ := List.getElem_of_mem x.2
  have := (hcells j hj).1
  rw [List.getD_eq_getElem?_getD, List.getElem?_eq_getElem hj, Option.getD_some, e] at this
  rw [List.length_map, this]
 have h1 : ∀ x : {x : α // x ∈ ys}, ∀ v ∈ (es x.1).map (SC.den E), v.oneCell' = true := fun x v hv => by
  obtain ⟨j, hj, e⟩ := List.getElem_of_mem x.2
  obtain ⟨u, hu, rfl⟩ := List.mem_map.1 hv
  obtain ⟨q, hq, rfl⟩ := List.getElem_of_mem hu
  refine ((hcells j hj).2 q _ ?_).2
  rw [List.getD_eq_getElem?_getD, List.getElem?_eq_getElem hj, Option.getD_some, e]
  exact List.getElem?_eq_getElem hq
 have hcell : ∀ t, t < ys.length * k → cells[t]? = some (((es (ys.getD (t / k) d)).map (SC.den E))[t % k]!) := fun t ht => by
  have hq : t / k < ys.length := Nat.div_lt_of_lt_mul (by rw [Nat.mul_comm]; exact ht)
  obtain ⟨g1, g2⟩ := hcells (t / k) hq
  have hr : t % k < (es (ys.getD (t / k) d)).length := by rw [g1]; exact Nat.mod_lt _ hk0
  have := (g2 (t % k) _ (List.getElem?_eq_getElem hr)).1
  rw [show t / k * k + t % k = t from Nat.div_add_mod' t k] at this
  rw [this, getElem!_pos _ _ (by rw [List.length_map]; exact hr), List.getElem_map]
 have hHolds : Go.Sort.HoldsK (fun x : {x : α // x ∈ ys} => (es x.1).map (SC.den E)) k w (E.ρ (i, 0, 0)) 0 ys.attach.toArray := by
  intro t ht
  rw [Go.Sort.size_flatK, hsz] at ht
  have hq : t / k < ys.length := Nat.div_lt_of_lt_mul (by rw [Nat.mul_comm]; exact ht)
  refine ⟨?_, ?_⟩
  ·rw [Go.Sort.get_flatK _ _ _ _ (by rw [hsz]; exact ht)]
   unfold World.cell?
   simp only [hw0, Nat.zero_add]
   rw [hcell t ht, hget _ hq]
   simp
  ·unfold World.frozen?
   simp [hw0]
 have hcmp : CmpLays C.P g (SC.denL E cl).toArray (fun x : {x : α // x ∈ ys} => (es x.1).map (SC.den E)) k (fun x y => K x.1 y.1) (E.ρ (i, 0, 0)) 0 ys.attach.toArray.size w := by
  intro m os dk hdk x y
  refine (hc E a w hs _ (fun n hn hne => ?_) x.1 x.2 y.1 y.2)
  show ((w.heap.modify _ _) ++ os)[n]? = _
  rw [Array.getElem?_append_left (by simpa using hn), Array.getElem?_modify, if_neg (Ne.symm hne)]
 have hcon := AnyQ.slices_SortFunc L k aE zE (fun x : {x : α // x ∈ ys} => (es x.1).map (SC.den E)) hkl h1 (fun x y => K x.1 y.1) hO g (SC.denL E cl).toArray (E.ρ (i, 0, 0)) 0 (cap.getD (E.κ (i, 0, 0) - 0)) ys.attach.toArray w eg hcmp hHolds hblk (by rw [hsz]; exact hlen)
 have hargs : ([SV.c (.sl (i, 0, 0) k 0 ys.length cap), .c (.fn (.func g) [] cl)].map (SV.den E)).toArray = #[.slice (some ⟨E.ρ (i, 0, 0), 0, none⟩) ys.attach.toArray.size (cap.getD (E.κ (i, 0, 0) - 0)), .func (.func g) #[] (SC.denL E cl).toArray] := by
  simp [SV.den, SC.den, SC.denL, hν]
 rw [hargs]
 refine hcon.mono ?_
 rintro e w' ⟨rfl, d', m, os, hp, hso, rfl⟩
 obtain ⟨hp1, _, hp3⟩ := hp
 rw [hsz] at hp1
 have hl : d'.toList.map (·.1) = zs := by
  refine hz _ ?_ ?_
  ·have e1 : d'.extract 0 ys.attach.toArray.size = d' := by rw [hsz, ← hp1]; exact Array.extract_size
   rw [e1, Array.extract_size] at hp3
   have := hp3.map (·.1)
   simpa using this
  ·rw [List.pairwise_map, List.pairwise_iff_getElem]
   intro a b ha hb hab
   simp only [Array.length_toList] at ha hb
   have := hso a b (Nat.zero_le _) hab (by rw [hsz]; omega)
   rw [getElem!_pos d' a ha, getElem!_pos d' b hb] at this
   simp only [ltOf, decide_eq_false_iff_not] at this
   simpa only [Array.getElem_toList] using this
 have hzl : zs.length = ys.length := by rw [← hl]; simp [hp1]
 have hdz : ∀ j, j < ys.length → (d'[j]!).1 = zs.getD j d := fun j hj => by
  have hj2 : j < d'.size := by omega
  rw [← hl, getElem!_pos d' j hj2]
  simp [List.getD_eq_getElem?_getD, List.getElem?_eq_getElem, hj2]
 refine ⟨_, rfl, E, hs.one, fun E2 h2 hk _ => ⟨rfl, ?_⟩⟩
 obtain ⟨k1, k2, k3, k4⟩ := hk (i, 0, 0) (by simp)
 obtain ⟨H3, hH3, _⟩ := h2.mem
 have hd3 := hH3.den _ _ hat
 simp only [Blk.den] at hd3
 rcases hd3 with ⟨_, _, h0, _⟩ | ⟨_, _, _, cells3, hHx3, _, hcells3⟩
 ·omega
 obtain ⟨hw3, _⟩ := hH3.sub _ _ hat (E2.ρ (i, 0, 0)) (.cells cells3 ty (0, 0)) (by rw [hHx3]; simp [sing])
 rw [k1, hw0] at hw3
 cases hw3
 have hsame : ∀ x ∈ ys, ∀ u ∈ es x, u.den E2 = u.den E := fun x hx u hu => by
  obtain ⟨j, hj, e⟩ := List.getElem_of_mem hx
  obtain ⟨q, hq, rfl⟩ := List.getElem_of_mem hu
  have e' : ys.getD j d = x := by rw [List.getD_eq_getElem?_getD, List.getElem?_eq_getElem hj, Option.getD_some, e]
  have g1 := ((hcells j hj).2 q ((es x)[q]) (by rw [e']; exact List.getElem?_eq_getElem hq)).1
  have g2 := ((hcells3 j hj).2 q ((es x)[q]) (by rw [e']; exact List.getElem?_eq_getElem hq)).1
  rw [g1] at g2
  exact (Option.some.inj g2).symm
 refine Fits.G (B := C.B) (W := C.W) (E := E2) (S := S) (w := w) (fits_blk (g := E.ρ (i, 0, 0)) (ob := .cells cells ty (0, 0)) (o := .cells (Go.Sort.putCells id 0 (Go.Sort.flatK (fun x : {x : α // x ∈ ys} => (es x.1).map (SC.den E)) k d') cells) ty (0, 0)) hown (fun H2 hH2 => ?_) ?_ ⟨rfl, rfl, rfl⟩ ?_ ?_)
 ·have hd2 := hH2.den _ _ hat
  simp only [Blk.den] at hd2
  rcases hd2 with ⟨_, _, h0, _⟩ | ⟨_, _, _, cells2, hHx2, _, _⟩
  ·omega
  ·obtain ⟨hw2, _⟩ := hH2.sub _ _ hat (E2.ρ (i, 0, 0)) (.cells cells2 ty (0, 0)) (by rw [hHx2]; simp [sing])
   rw [k1, hw0] at hw2
   cases hw2
   rw [hHx2, k1]
 ·simp only [Blk.den]
  refine Or.inr ⟨by rw [k3]; exact hν, by rw [k2]; exact hn, by rw [k2]; exact hκ, _, by rw [k1], ?_, fun e he => ?_⟩
  ·rw [k2]
   simpa [Go.Sort.putCells] using hcs
  ·have hm : zs.getD e d ∈ ys := by rw [← hdz e he]; exact (d'[e]!).2
   have hkl' := hkl ⟨_, hm⟩
   simp only [List.length_map] at hkl'
   refine ⟨hkl', fun j u hj => ?_⟩
   have hjl := (List.getElem?_eq_some_iff.1 hj).1
   have hum : u ∈ es (zs.getD e d) := List.mem_of_getElem? hj
   rw [hsame _ hm u hum]
   have ht : e * k + j < ys.length * k := by
    have : (e + 1) * k ≤ ys.length * k := Nat.mul_le_mul_right k (by omega)
    rw [Nat.add_mul] at this
    omega
   refine ⟨?_, h1 ⟨_, hm⟩ _ (List.mem_map_of_mem hum)⟩
   have hq1 : (e * k + j) / k = e := by rw [Nat.mul_comm, Nat.mul_add_div hk0, Nat.div_eq_of_lt (by omega)]; rfl
   have hq2 : (e * k + j) % k = j := by rw [Nat.mul_comm, Nat.mul_add_mod, Nat.mod_eq_of_lt (by omega)]
   simp only [Go.Sort.putCells, Array.getElem?_mapIdx, hcell _ ht, Option.map_some, Nat.zero_le, true_and, Nat.zero_add, Go.Sort.size_flatK, hp1, if_pos ht, Nat.sub_zero, id]
   rw [Go.Sort.get_flatK _ _ _ _ (by rw [hp1]; exact ht), hq1, hq2, hdz e he, getElem!_pos _ j (by rw [List.length_map]; exact hjl), List.getElem_map]
   rw [List.getElem?_eq_getElem hjl] at hj
   rw [Option.some.inj hj]
 ·show _ ≤ ((w.heap.modify _ _) ++ os).size
  simp
 ·intro n hn
  show ((w.heap.modify _ _) ++ os)[n]? = _
  rw [Array.getElem?_append_left (by simpa using hn), Array.getElem?_modify]
  by_cases e : n = E.ρ (i, 0, 0)
  ·subst e
   simp [hw0, Go.Sort.onCells]
  ·rw [if_neg (Ne.symm e), if_neg e]
end Go.Proofs.Ytpjdcbofngcdbaa.Z
namespace Go.Proofs.Ytpjdcbofngcdbaa.Z
open Go Go.RowKit
attribute [go_sem] ex_nil ex_skip ex_ops ex_draw ex_seq ex_cond ex_blk ex_loop ex_exit ex_ret ex_mark ex_kill ex_pop ex_onil ex_op ex_opg thenS stepOut St.ev look setL mergeL dropL memB atN pkN setN Fm.get Fm.pk Fm.set St.app St.putT St.skipT St.setB St.kill St.call St.setA St.resS specS specO specC chain chainP inCh resV rsvP resT slot1 slotL pureSlots St.evW resA1 resAP resA gB specD specDO recG pure1 pureO SV.cells SC.one allOne fillP put take' drop' len' nth binI eqCells SC.bool? SC.nil? neg? evs evC popTo resL resP resSV oneSV finS retS dr_nil thenD recOf skipR wrOk wrFree wkImp St.weak thenW recW fimp_mpe newOk outOk St.appN St.hid St.only keepK useO idX idC tchs keyss Rec.tch keysL ltAll enumT slSrc slB slM SV.int? segs keyOf intsOf Value.oneCell' and_self and_true true_and and_false false_and not_true_eq_false not_false_eq_true List.map_cons List.map_nil List.cons_append List.nil_append List.append_nil Option.bind_some Option.bind_none Bool.true_and Bool.and_true Bool.false_and Bool.and_false Bool.not_true Bool.not_false Bool.not_not Bool.true_beq Bool.false_beq Bool.bne_true Bool.bne_false Bool.true_bne Bool.false_bne Option.map_some Option.map_none beq_self_eq_true bne_self_eq_false Bool.false_eq_true Bool.true_eq_false Nat.zero_add Nat.add_zero forall_const implies_true true_implies false_implies Int.cast_ofNat_Int Int.natCast_nonneg Int.ofNat_lt Int.toNat_natCast mkC_rs decide_true decide_false List.length_cons List.length_nil Prod.mk.injEq Option.some.injEq arrOf_len arrOf_size arrOf_at wr_lit wr_litu Nat.sub_zero ex_back mkI_rs
end Go.Proofs.Ytpjdcbofngcdbaa.Z
namespace Go.Proofs.Ytpjdcbofngcdbaa.Z
open Go Go.RowKit
section
variable {P : Program} {T : TT} {B : Nat} {W : Nat → Prop} {w0 : World} {E : Env} {S : St} {a : Act} {w w1 : World}
theorem fits_put {b b' : Blk} {y : Nm} {p : Prop} (hy : pkN S.own y = some (p, b)) (hp : p) (h0 : w1.os = w.os ∧ w1.tape = w.tape ∧ w1.output = w.output) (hsz : w.heap.size ≤ w1.heap.size)
  (h : ∀ H, HeapOk B W E S.own H w → ∃ h', b'.den E y h' ∧ (∀ n, n < w.heap.size → H y n = none → w1.heap[n]? = w.heap[n]?) ∧ ∀ n o, h' n = some o → w1.heap[n]? = some o ∧ (w.heap.size ≤ n ∨ H y n ≠ none)) : Fits B W E S w w1 (setN S.own y b') [] := by
 refine ⟨fun H hH => ?_, fun _ _ x A h => by simp [atN, look] at h⟩
 have hat := pkN_at hy hp
 obtain ⟨h', hb, hk, hs⟩ := h H hH
 have hother : ∀ x c, x ≠ y → atN S.own x = some c → ∀ n o, H x n = some o → w1.heap[n]? = some o ∧ H y n = none ∧ n < w.heap.size := by
  intro x c hne hx n o hn
  have h1 := (hH.sub x c hx n o hn).1
  have hlt := hH.lt hx hn
  have hyn : H y n = none := by
   rcases hH.disj y x b c hat hx (Ne.symm hne) n with h | h
   ·exact h
   ·rw [h] at hn; cases hn
  exact ⟨by rw [hk n hlt hyn]; exact h1, hyn, hlt⟩
 have hget : ∀ x c, atN (setN S.own y b') x = some c → (x = y ∧ c = b') ∨ (x ≠ y ∧ x.1 = y.1 ∧ atN S.own x = some c) := by
  intro x c hc
  rw [atN_setN hy hp] at hc
  split at hc
  ·next e1 =>
   split at hc
   ·next e2 => cases hc; exact Or.inl ⟨e2, rfl⟩
   ·next e2 => exact Or.inr ⟨e2, e1, hc⟩
  ·cases hc
 have key : ∀ z d, z ≠ y → atN S.own z = some d → ∀ n, h' n = none ∨ H z n = none := by
  intro z d hz hd n
  cases e1 : h' n with
  | none => exact Or.inl rfl
  | some o =>
   right
   cases e2 : H z n with
   | none => rfl
   | some o' =>
    obtain ⟨_, h3, h4⟩ := hother z d hz hd n o' e2
    rcases (hs n o e1).2 with h5 | h5
    ·omega
    ·exact absurd h3 h5
 refine ⟨h0.1, h0.2.1, h0.2.2, hsz, fun n hn h => hk n hn (h y b ((setN_look hy b' y.1).2 rfl) hat), fun x => if x = y then h' else H x, ?_, ?_, ?_⟩
 ·intro x c hc
  rcases hget x c hc with ⟨rfl, rfl⟩ | ⟨e1, e2, h⟩
  ·simpa using hb
  ·simp only [e1, if_false]; exact hH.den x c h
 ·intro x z c d hc hd hne n
  rcases hget x c hc with ⟨rfl, rfl⟩ | ⟨e1, e2, h⟩
  ·rcases hget z d hd with ⟨rfl, rfl⟩ | ⟨f1, f2, h2⟩
   ·exact absurd rfl hne
   ·simp only [f1, if_true, if_false]; exact key z d f1 h2 n
  ·rcases hget z d hd with ⟨rfl, rfl⟩ | ⟨f1, f2, h2⟩
   ·simp only [e1, if_true, if_false]; exact (key x c e1 ‹_› n).symm
   ·simp only [e1, f1, if_false]; exact hH.disj x z c d h h2 hne n
 ·intro x c hc n o hn
  rcases hget x c hc with ⟨rfl, rfl⟩ | ⟨e1, e2, h⟩
  ·simp only [if_true] at hn
   obtain ⟨g1, g2⟩ := hs n o hn
   exact ⟨g1, g2.imp id fun h => ⟨x, b, (setN_look hy c x.1).2 rfl, hat, h⟩⟩
  ·simp only [e1, if_false] at hn
   obtain ⟨g1, g2, g3⟩ := hother x c e1 h n o hn
   exact ⟨g1, Or.inr ⟨x, c, (setN_look hy b' x.1).2 e2, h, by rw [hn]; simp⟩⟩
end
section
variable {C : Ctx} {S : St}
end
end Go.Proofs.Ytpjdcbofngcdbaa.Z
namespace Go.Proofs.Ytpjdcbofngcdbaa.Z
open Go Go.RowKit
theorem le_arden {C : Ctx} {S : St} {i n s ty : Nat} {f g : Nat → List SC} (h : look S.own i = some (.one (.ar n s f ty))) (hfg : ∀ e, e < n → ∀ E, (f e).map (SC.den E) = (g e).map (SC.den E)) : Le C S ⟨S.nt, S.tmps, mergeL (setN S.own (i, 0, 0) (.ar n s g ty)) S.own, S.arrs, S.facts, S.nid⟩ := by
 have hy : pkN S.own (i, 0, 0) = some (0 = 0 ∧ 0 = 0, .ar n s f ty) := by unfold pkN; rw [h]; rfl
 intro E a w hs
 have haft : After C.B C.W C.w0 E [] S a w (.c (.v undef)) 0 (setN S.own (i, 0, 0) (.ar n s g ty)) [] undef w := by
  refine ⟨⟨fun _ => 0, fun _ => 0, fun _ => false, fun _ => .bool true⟩, fun _ => rfl, fun E2 hs2 _ hag => ⟨by rw [den_c, den_v], (fits_put hy ⟨rfl, rfl⟩ ⟨rfl, rfl, rfl⟩ (Nat.le_refl _) fun H hH => ?_).G⟩⟩
  have hd := hH.den _ _ (pkN_at hy ⟨rfl, rfl⟩)
  have hsub := hH.sub _ _ (pkN_at hy ⟨rfl, rfl⟩)
  refine ⟨H (i, 0, 0), ?_, fun n _ _ => rfl, fun n o hn => ⟨(hsub n o hn).1, Or.inr (by rw [hn]; simp)⟩⟩
  simp only [Blk.den] at hd ⊢
  rcases hd with hd | ⟨h1, h2, h3, cells, h4, h5, h6⟩
  ·exact Or.inl hd
  ·refine Or.inr ⟨h1, h2, h3, cells, h4, h5, fun e he => ?_⟩
   obtain ⟨g1, g2⟩ := h6 e he
   have hm := hfg e he E2
   have hl : (f e).length = (g e).length := by have := congrArg List.length hm; simpa using this
   refine ⟨hl ▸ g1, fun j u hu => ?_⟩
   have hlt := (List.getElem?_eq_some_iff.1 hu).1
   obtain ⟨u', hu'⟩ : ∃ u', (f e)[j]? = some u' := ⟨_, List.getElem?_eq_getElem (by omega)⟩
   have e1 : u'.den E2 = u.den E2 := by
    have := congrArg (fun l => l[j]?) hm
    simp only [List.getElem?_map, hu, hu', Option.map_some, Option.some.injEq] at this
    exact this
   rw [← e1]
   exact g2 j u' hu'
 obtain ⟨E', h'⟩ := satA_after hs (fun i hi => by cases hi) haft none
 exact ⟨E', h'⟩
end Go.Proofs.Ytpjdcbofngcdbaa.Z
