/-
  Plain law: the library's insertion sort by weight, run on indexes in their order, gives the labels' order by weight, those of one weight in their order. Own work; no condition.
-/
import Derived.Test.YtbpcjdhbbighgaaPlan2
import Derived.Sort.LotA
import Derived.Shelf.SlSortCmp.Insertion
namespace Go.Proofs.Ytbpcjdhbbighgaa
open Go.Sort

section
variable {α : Type} [Inhabited α] (l : List Quad) (f : α → Nat)

def cfW (x y : α) : Int := wOf l (f y) - wOf l (f x)
def ltB (x y : α) : Bool := decide (wOf l (f y) < wOf l (f x) ∨ (wOf l (f x) = wOf l (f y) ∧ f x < f y))

omit [Inhabited α] in
theorem ltB_swo : SWO (ltB l f) := by
  refine ⟨fun x => ?_, fun x y z h1 h2 => ?_, fun x y z h1 h2 => ?_⟩
  · simp [ltB]
  · simp only [ltB, decide_eq_true_eq] at *
    omega
  · simp only [ltB, decide_eq_false_iff_not] at *
    omega

theorem ins_same : ∀ (j : Nat) (d : Array α), j < d.size → (∀ q, q < j → f d[q]! < f d[j]!) → insInner (ltOf (cfW l f)) 0 j d = insInner (ltB l f) 0 j d
  | 0, d, _, _ => rfl
  | j + 1, d, hj, h => by
    have e : ltOf (cfW l f) d[j + 1]! d[j]! = ltB l f d[j + 1]! d[j]! := by
      have := h j (by omega)
      simp only [ltOf, cfW, ltB]
      exact decide_eq_decide.2 (by omega)
    rw [insInner, insInner, e]
    split
    · refine ins_same j (swp d (j + 1) j) (by rw [swp_size]; omega) (fun q hq => ?_)
      rw [swp_get d hj (by omega), swp_get d hj (by omega), if_neg (by omega), if_neg (by omega), if_pos rfl]
      exact h q (by omega)
    · rfl

theorem ins_bound (lt : α → α → Bool) : ∀ (j i : Nat) (d : Array α), j ≤ i → i < d.size → (∀ q, q ≤ i → f d[q]! ≤ i) →
    (insInner lt 0 j d).size = d.size ∧ (∀ q, q ≤ i → f (insInner lt 0 j d)[q]! ≤ i) ∧ ∀ q, i < q → (insInner lt 0 j d)[q]! = d[q]!
  | 0, i, d, _, _, h => ⟨rfl, h, fun _ _ => rfl⟩
  | j + 1, i, d, hj, hi, h => by
    rw [insInner]
    split
    · have hg := swp_get d (show j + 1 < d.size by omega) (show j < d.size by omega)
      obtain ⟨h1, h2, h3⟩ := ins_bound lt j i (swp d (j + 1) j) (by omega) (by rw [swp_size]; exact hi) (fun q hq => by
        rw [hg]
        split
        · exact h (j + 1) (by omega)
        · split
          · exact h j (by omega)
          · exact h q hq)
      refine ⟨h1.trans (swp_size ..), h2, fun q hq => ?_⟩
      rw [h3 q hq, hg, if_neg (by omega), if_neg (by omega)]
    · exact ⟨rfl, h, fun _ _ => rfl⟩

theorem outer_same : ∀ (n i : Nat) (d : Array α), d.size - i = n → 0 < i → (∀ q, q < i → q < d.size → f d[q]! < i) → (∀ q, i ≤ q → q < d.size → f d[q]! = q) →
    insOuter (ltOf (cfW l f)) 0 d.size i d = insOuter (ltB l f) 0 d.size i d
  | 0, i, d, hn, _, _, _ => by
    rw [insOuter, if_neg (by omega), insOuter, if_neg (by omega)]
  | n + 1, i, d, hn, h0, h1, h2 => by
    have hlt : i < d.size := by omega
    rw [insOuter_go _ 0 d.size i d hlt, insOuter_go _ 0 d.size i d hlt]
    rw [ins_same l f i d hlt (fun q hq => by rw [h2 i (Nat.le_refl _) hlt]; exact h1 q hq (by omega))]
    obtain ⟨b1, b2, b3⟩ := ins_bound f (ltB l f) i i d (Nat.le_refl _) hlt (fun q hq => by
      rcases Nat.lt_or_ge q i with h | h
      · exact Nat.le_of_lt (h1 q h (by omega))
      · obtain rfl : q = i := by omega
        rw [h2 q (Nat.le_refl _) hlt]; exact Nat.le_refl _)
    have := outer_same n (i + 1) (insInner (ltB l f) 0 i d) (by rw [b1]; omega) (by omega) (fun q hq _ => by have := b2 q (by omega); omega) (fun q hq hs => by rw [b3 q (by omega)]; exact h2 q (by omega) (by rw [b1] at hs; exact hs))
    rw [b1] at this
    exact this

/-- the sort of the indexes is the labels' order -/
theorem stable_order (hw : ∀ k, k < l.length → 1 ≤ wOf l k ∧ wOf l k ≤ 9) (d : Array α) (hs : d.size = l.length) (hd : ∀ q, q < d.size → f d[q]! = q) :
    (insertionSort (ltOf (cfW l f)) d 0 d.size).toList.map f = orderOf l := by
  have e : insertionSort (ltOf (cfW l f)) d 0 d.size = insertionSort (ltB l f) d 0 d.size :=
    outer_same l f (d.size - 1) 1 d rfl (by omega) (fun q hq hq' => by obtain rfl : q = 0 := by omega
                                                                       rw [hd 0 hq']; omega) (fun q _ hq => hd q hq)
  rw [e]
  obtain ⟨⟨p1, _, p3⟩, ps⟩ := insertionSort_holds (ltB_swo l f) d 0 d.size (Nat.zero_le _) (Nat.le_refl _)
  generalize insertionSort (ltB l f) d 0 d.size = d' at p1 p3 ps
  have hp : d'.toList.Perm d.toList := by
    have e1 : d'.extract 0 d.size = d' := by rw [← p1]; simp
    have e2 : d.extract 0 d.size = d := by simp
    rwa [e1, e2] at p3
  have hdm : d.toList.map f = List.range l.length := by
    refine List.ext_getElem (by simp [hs]) (fun i h1 h2 => ?_)
    have hi : i < d.size := by simpa using h1
    have := hd i hi
    rw [getElem!_pos d i hi] at this
    simpa using this
  have hm : (d'.toList.map f).Perm (List.range l.length) := hdm ▸ hp.map f
  have hnd : (d'.toList.map f).Nodup := hm.nodup_iff.2 List.nodup_range
  refine order_unique l _ _ ?_ (orderOf_pairwise l) (fun x => ?_)
  · rw [List.pairwise_iff_getElem]
    intro i j hi hj hij
    have hi' : i < d'.size := by simpa using hi
    have hj' : j < d'.size := by simpa using hj
    have h := ps i j (Nat.zero_le _) hij (by omega)
    rw [getElem!_pos d' i hi', getElem!_pos d' j hj'] at h
    have hne : f d'[i] ≠ f d'[j] := by
      have := List.pairwise_iff_getElem.1 hnd i j hi hj hij
      simpa using this
    simp only [ltB, decide_eq_false_iff_not] at h
    simp only [List.getElem_map, Array.getElem_toList, befW]
    omega
  · rw [hm.mem_iff, List.mem_range, mem_orderOf hw]
end
end Go.Proofs.Ytbpcjdhbbighgaa
