/-
  The reference's copy of a grid. Conditions: sizes as stated.
-/
import Derived.Test.YtdelcebkpdnnjaaAppI
namespace Go.Proofs.Ytdelcebkpdnnjaa
open Go.RowKit Go.Deep

theorem ownsRow_sl {w : World} {base n size : Nat} {e : TypeId} {v : Value} {xs : List Value} (h : w.ownsRow base e size v n xs) : ∃ a c, v = .slice a n c := by
  rcases h.2 with ⟨rfl, rfl⟩ | ⟨g, cap, cur, rfl, _⟩
  · exact ⟨_, _, rfl⟩
  · exact ⟨_, _, rfl⟩

theorem ownsRow_bel {w w' : World} {base n size : Nat} {e : TypeId} {v : Value} {xs : List Value} (h : w.ownsRow base e size v n xs) (hb : Below w.heap.size w w') : w'.ownsRow base e size v n xs :=
  h.kept (row := none) ⟨hb.os, hb.tape, hb.output, hb.size, fun k hk _ => hb.block k hk⟩ (by cases v.ownBlock <;> simp)

set_option maxHeartbeats 1000000 in
set_option maxRecDepth 100000 in
theorem l1Copy_any (v : Value) (g : Rows) (w : World) (h : Grid w v g) (hn : g.length ≤ 1000000) (hs : ∀ j, j < g.length → (g[j]?.getD []).length ≤ 1000000) :
    Calls Try.prog 61 #[v] w fun e w' => ∃ v', e = .returned v' ∧ OwnG w.heap.size w'.heap.size w' v' g ∧ Below w.heap.size w w' := by
  obtain ⟨a, cap, rfl, hc1, hc2, hc3⟩ := h
  have HS := Lib.hid hs
  have HC := Lib.hid hc3
  clear hs hc3
  go_enter Try.func61, Try.ntmps61
  go_wp2
  go_loopw [3, 4] (fun v i wr => ∃ (k : Nat) (Bs : Nat → Nat) (xs : List Value), k ≤ g.length ∧ i = .int .i64 k ∧ wr.ownsRow w.heap.size 27 1 v k xs ∧ RowsO w.heap.size wr Bs xs g k ∧ Below w.heap.size w wr) (fun _ i _ => g.length - (intOf i).toNat)
  case atStart => exact ⟨0, fun _ => 0, [], Nat.zero_le _, rfl, World.ownsRow_made w #[] 0 (Nat.le_refl _) (by decide) rfl, ⟨rfl, fun j hj => absurd hj (Nat.not_lt_zero _), fun i j hi => absurd hi (Nat.not_lt_zero _)⟩, (Below.refl _ _).alloc (Nat.le_refl _) _⟩
  case round =>
    obtain ⟨k, Bs, xs, hk, rfl, hown, hrows, hbel⟩ := hrel
    by_cases hlt : k < g.length
    · obtain ⟨b, off, rfl, hb, hcell⟩ := HC.out (by omega)
      obtain ⟨r, hr, hi⟩ := hcell k hlt
      have hr' : wr.cell? ⟨b, off + k, none⟩ = some r := (hbel.cell (p := ⟨b, off + k, none⟩) hb).trans hr
      have hsz := hbel.size
      have hrk := HS.out k hlt
      have HO := Lib.hid hown
      have HRS := Lib.hid hrows
      have HB := Lib.hid hbel
      have HB0 := Lib.hid ((Below.refl wr.heap.size wr).alloc (Nat.le_refl _) (.cells #[] 3))
      have HI := Lib.hid (((hi.below hbel (Nat.le_refl _)).mono hsz).below HB0.out (Nat.le_refl _))
      have hb2 : b < wr.heap.size := by omega
      replace hr' := (HB0.out.cell (p := ⟨b, off + k, none⟩) hb2).trans hr'
      obtain ⟨lk, hlk⟩ : ∃ l, l = g[k]?.getD [] := ⟨_, rfl⟩
      rw [← hlk] at HI hrk
      have HLK := Lib.hid hlk
      obtain ⟨ra, rl, rc, rfl⟩ := hi.slice
      clear hlk
      obtain ⟨oa, oc, rfl⟩ := ownsRow_sl hown
      clear hown hrows hbel hcell hi hr
      go_wp2_with (first | (at_builtin; refine app_ints _ rfl _ _ rfl wr.heap.size _ [] _ lk (World.ownsRow_made wr #[] 0 (Nat.le_refl _) (by decide) rfl) (HI.out.ints (by simp)) rfl rfl (by simp; omega) (by simp) ?_; intro v1 w1 hown1 hg1; rw [List.nil_append] at hown1; have HO1 := Lib.hid hown1; have HG1 := Lib.hid (HB0.out.grown hg1 (by simp) (fun k hk => by simp [Value.ownBlock] at hk; omega)); obtain ⟨va, vc, rfl⟩ := ownsRow_sl hown1; have HX := Lib.hid (show (w1.alloc (.cells #[.slice va lk.length vc] 27)).cell? ⟨w1.heap.size, 0, none⟩ = some (.slice va lk.length vc) from by simp); have HO2 := Lib.hid ((ownsRow_bel HO.out HG1.out).alloc (.cells #[.slice va lk.length vc] 27)); have z1 := HG1.out.size; clear hown1 hg1) | (at_builtin; refine app_row _ rfl _ _ rfl w.heap.size _ k xs w1.heap.size _ _ _ HO2.out HX.out rfl rfl (by omega) (by simp; omega) ?_; intro v3 w3 hown3 hg3; have HO3 := Lib.hid hown3; have HG3 := Lib.hid hg3; clear hown3 hg3))
      obtain ⟨B, hB1, _⟩ := rowO_new HO1.out
      go_roundw
      case rel =>
        refine ⟨k + 1, _, _, by omega, by go_num, HO3.out, RowsO.snoc HRS.out HG1.out hsz (by rw [← HLK.out]; exact hB1) HO2.out ((Below.refl _ w1).alloc (Nat.le_refl _) _) HG3.out, (HB.out.trans (HG1.out.mono hsz) |>.alloc (by omega) _).grown HG3.out (by simp; omega) (fun j hj => (HO2.out.lt j hj).1)⟩
      case measure => simp [intOf]; omega
    · obtain rfl : k = g.length := by omega
      have HO := Lib.hid hown
      have HRS := Lib.hid hrows
      have HB := Lib.hid hbel
      clear hown hrows hbel
      go_wp2
      go_ret
      exact ⟨_, rfl, ownG_of_rows HO.out HRS.out (Nat.le_refl _), HB.out⟩
end Go.Proofs.Ytdelcebkpdnnjaa
