/-
  Names of sheets: spec.l6Dec at up to two digits, spec.l7Name. Condition: small numbers.
-/
import Derived.Test.YtnghcgkjhidfiaaInts
import Derived.Laws.Concat
import Derived.Laws.BytesArg
import Derived.Deep.RegionWith
namespace Go.Proofs.Ytnghcgkjhidfiaa
open Go.RowKit Go.Deep
set_option linter.unusedSimpArgs false
set_option linter.unusedVariables false

def dig (d : Nat) : List UInt8 := if d < 10 then [UInt8.ofNat (48 + d)] else [UInt8.ofNat (48 + d / 10), UInt8.ofNat (48 + d % 10)]
def nameL (c r : Nat) : List UInt8 := UInt8.ofNat (65 + r) :: dig (c + 1)
theorem dig_len (d : Nat) : (dig d).length ≤ 2 := by unfold dig; split <;> simp
theorem u8_small {z : Int} (h0 : 0 ≤ z) (h1 : z ≤ 255) : IntKind.u8.wrap z = z := by
  rw [show IntKind.u8.wrap z = z % 256 from rfl]
  omega
theorem conv_byte (W : World) (N : Nat) (z : Nat) (hc : W.cell? ⟨N, 0, none⟩ = some (.int .u8 (z : Int))) : (convert 22 9 (.slice (some ⟨N, 0, none⟩) 1 1)).run Try.prog W = .ok (.string ⟨[UInt8.ofNat z].toArray⟩) W := by
  have := run_convert_bytes_arg (P := Try.prog) W 22 5 Try.underlying22 Try.underlying5 N 0 1 1 [(z : Int)] rfl (fun i hi => by
    obtain rfl : i = 0 := by omega
    simpa using hc) 9 Try.underlying9
  simpa [strOfNums] using this
theorem cell_byte (w : World) (z : Int) : (w.alloc (.cells #[.int .u8 z] 5)).cell? ⟨w.heap.size, 0, none⟩ = some (.int .u8 z) := by simp

theorem l6Dec_one (k : Nat) (w : World) (hk : k ≤ 9) :
    Calls Try.prog 23 #[.int .i64 (k : Int)] w fun e w' => e = .returned (.string ⟨(dig k).toArray⟩) ∧ Below w.heap.size w w' := by
  have t1 : ¬ (k : Int) < -9223372036854775807 := by omega
  have t2 : ¬ (k : Int) < 0 := by omega
  have t3 : (k : Int) < 10 := by omega
  have e1 : IntKind.i64.wrap (48 + (k : Int)) = ((48 + k : Nat) : Int) := by rw [IntWalk.i64_in _ (by omega)]; omega
  have e2 : IntKind.u8.wrap ((48 + k : Nat) : Int) = ((48 + k : Nat) : Int) := u8_small (by omega) (by omega)
  obtain ⟨z, hz⟩ : ∃ z, z = 48 + k := ⟨_, rfl⟩
  have E : Hid (dig k = [UInt8.ofNat z]) := by show _ = _; rw [dig, if_pos (by omega), hz]
  rw [← hz] at e1 e2
  have hcv := conv_byte (w.alloc (.cells #[.int .u8 (z : Int)] 5)) w.heap.size z (cell_byte w _)
  obtain ⟨ch, hch⟩ : ∃ ch, ch = UInt8.ofNat z := ⟨_, rfl⟩
  rw [← hch] at E hcv
  have HB : Hid (Below w.heap.size w (w.alloc (.cells #[.int .u8 (z : Int)] 5))) := (Below.refl _ _).alloc (Nat.le_refl _) _
  rw [E.out]
  clear hz hch E
  go_enter Try.func23, Try.ntmps23
  go_wp2
  go_ret
  exact ⟨rfl, HB.out⟩

set_option maxHeartbeats 1000000 in
set_option maxRecDepth 100000 in
theorem l6Dec_two (k : Nat) (w : World) (hk : 10 ≤ k) (hk2 : k ≤ 99) :
    Calls Try.prog 23 #[.int .i64 (k : Int)] w fun e w' => e = .returned (.string ⟨(dig k).toArray⟩) ∧ Below w.heap.size w w' := by
  have t1 : ¬ (k : Int) < -9223372036854775807 := by omega
  have t2 : ¬ (k : Int) < 0 := by omega
  have t3 : ¬ (k : Int) < 10 := by omega
  obtain ⟨a, ha⟩ : ∃ a, a = k / 10 := ⟨_, rfl⟩
  obtain ⟨b, hb⟩ : ∃ b, b = k % 10 := ⟨_, rfl⟩
  have q1 : (k : Int).tdiv 10 = (a : Int) := by rw [Int.tdiv_eq_ediv_of_nonneg (by omega)]; omega
  have q2 : (k : Int).tmod 10 = (b : Int) := by rw [Int.tmod_eq_emod_of_nonneg (by omega)]; omega
  have q3 : (k : Int) / 10 = (a : Int) := by omega
  have q4 : (k : Int) % 10 = (b : Int) := by omega
  have e1 : IntKind.i64.wrap (48 + (b : Int)) = ((48 + b : Nat) : Int) := by rw [IntWalk.i64_in _ (by omega)]; omega
  have e2 : IntKind.u8.wrap ((48 + b : Nat) : Int) = ((48 + b : Nat) : Int) := u8_small (by omega) (by omega)
  obtain ⟨z, hz⟩ : ∃ z, z = 48 + b := ⟨_, rfl⟩
  have E : Hid (dig k = dig a ++ [UInt8.ofNat z]) := by show _ = _; rw [dig, if_neg (by omega), dig, if_pos (by omega), hz, ha, hb]; rfl
  rw [← hz] at e1 e2
  have k0 : (0 : Int) ≤ (k : Int) := by omega
  have e3 : IntKind.i64.wrap (a : Int) = (a : Int) := IntWalk.i64_in _ (by omega)
  have hcv := fun W N => conv_byte W N z
  obtain ⟨ch, hch⟩ : ∃ ch, ch = UInt8.ofNat z := ⟨_, rfl⟩
  rw [← hch] at E
  simp only [← hch] at hcv
  have da := dig_len a
  obtain ⟨D, hD⟩ : ∃ D, D = dig a := ⟨_, rfl⟩
  have a9 : a ≤ 9 := by omega
  have CA := Lib.hid (l6Dec_one a ((w.alloc (.cells #[.int .u8 (z : Int)] 5)).drew) a9)
  have CB := Lib.hid (l6Dec_one a w.drew a9)
  rw [← hD] at E da CA CB
  have hadd : ∀ W : World, (Op.stringOp .add ⟨D.toArray⟩ ⟨[ch].toArray⟩).run Try.prog W = .ok (.string ⟨(D ++ [ch]).toArray⟩) W := fun W => run_string_add_lists W D [ch] (by omega) (by simp)
  have BA : Below w.heap.size w ((w.alloc (.cells #[.int .u8 (z : Int)] 5)).drew) := ((Below.refl _ _).alloc (Nat.le_refl _) _).drew
  have BB : Below w.heap.size w w.drew := (Below.refl _ _).drew
  have cA : ((w.alloc (.cells #[.int .u8 (z : Int)] 5)).drew).cell? ⟨w.heap.size, 0, none⟩ = some (.int .u8 (z : Int)) := cell_byte w _
  have sA : w.heap.size < ((w.alloc (.cells #[.int .u8 (z : Int)] 5)).drew).heap.size := by simp
  have HBA := Lib.hid BA
  have HBB := Lib.hid BB
  have HCA := Lib.hid cA
  have cB : ∀ W : World, (W.alloc (.cells #[.int .u8 (z : Int)] 5)).cell? ⟨W.heap.size, 0, none⟩ = some (.int .u8 (z : Int)) := fun W => cell_byte W _
  rw [E.out]
  clear ha hb hz hch hD E BA BB
  go_enter Try.func23, Try.ntmps23
  go_wp2_with fail
  go_region_with
    (first | (go_at_call 23; (with_reducible refine CA.out.mono ?_); rintro e w5 ⟨rfl, hb5⟩; have c5 := (hb5.cell (p := ⟨w.heap.size, 0, none⟩) sA).trans HCA.out; have HB5 := Lib.hid (HBA.out.trans (hb5.mono HBA.out.size)); clear hb5) | (go_at_call 23; (with_reducible refine CB.out.mono ?_); rintro e w5 ⟨rfl, hb5⟩; have HB5 := Lib.hid (HBB.out.trans (hb5.mono HBB.out.size)); clear hb5) | fail)
  all_goals
    go_wp2_with fail
    go_ret
    first | exact ⟨rfl, HB5.out⟩ | exact ⟨rfl, HB5.out.alloc HB5.out.size _⟩
theorem l6Dec_any (k : Nat) (w : World) (hk : k ≤ 99) :
    Calls Try.prog 23 #[.int .i64 (k : Int)] w fun e w' => e = .returned (.string ⟨(dig k).toArray⟩) ∧ Below w.heap.size w w' := by
  rcases Nat.lt_or_ge k 10 with h | h
  · exact l6Dec_one k w (by omega)
  · exact l6Dec_two k w h hk

set_option maxHeartbeats 1000000 in
set_option maxRecDepth 100000 in
theorem l7Name_any (c r : Nat) (w : World) (hc : c ≤ 90) (hr : r ≤ 90) :
    Calls Try.prog 19 #[.int .i64 (c : Int), .int .i64 (r : Int)] w fun e w' => e = .returned (.string ⟨(nameL c r).toArray⟩) ∧ Below w.heap.size w w' := by
  have e0 : IntKind.i64.wrap ((c : Int) + 1) = ((c + 1 : Nat) : Int) := by rw [IntWalk.i64_in _ (by omega)]; omega
  have e1 : IntKind.i64.wrap (65 + (r : Int)) = ((65 + r : Nat) : Int) := by rw [IntWalk.i64_in _ (by omega)]; omega
  have e2 : IntKind.u8.wrap ((65 + r : Nat) : Int) = ((65 + r : Nat) : Int) := u8_small (by omega) (by omega)
  obtain ⟨z, hz⟩ : ∃ z, z = 65 + r := ⟨_, rfl⟩
  obtain ⟨a, ha⟩ : ∃ a, a = c + 1 := ⟨_, rfl⟩
  have E : Hid (nameL c r = UInt8.ofNat z :: dig a) := by show _ = _; rw [nameL, hz, ha]
  rw [← hz] at e1 e2
  rw [← ha] at e0
  have hcv := fun W N => conv_byte W N z
  obtain ⟨ch, hch⟩ : ∃ ch, ch = UInt8.ofNat z := ⟨_, rfl⟩
  rw [← hch] at E
  simp only [← hch] at hcv
  have da := dig_len a
  obtain ⟨D, hD⟩ : ∃ D, D = dig a := ⟨_, rfl⟩
  have a9 : a ≤ 99 := by omega
  have CA := Lib.hid (l6Dec_any a ((w.alloc (.cells #[.int .u8 (z : Int)] 5)).drew) a9)
  have CB := Lib.hid (l6Dec_any a w.drew a9)
  rw [← hD] at E da CA CB
  have hadd : ∀ W : World, (Op.stringOp .add ⟨[ch].toArray⟩ ⟨D.toArray⟩).run Try.prog W = .ok (.string ⟨(ch :: D).toArray⟩) W := fun W => run_string_add_lists W [ch] D (by simp) (by omega)
  have BA : Below w.heap.size w ((w.alloc (.cells #[.int .u8 (z : Int)] 5)).drew) := ((Below.refl _ _).alloc (Nat.le_refl _) _).drew
  have BB : Below w.heap.size w w.drew := (Below.refl _ _).drew
  have cA : ((w.alloc (.cells #[.int .u8 (z : Int)] 5)).drew).cell? ⟨w.heap.size, 0, none⟩ = some (.int .u8 (z : Int)) := cell_byte w _
  have sA : w.heap.size < ((w.alloc (.cells #[.int .u8 (z : Int)] 5)).drew).heap.size := by simp
  have HBA := Lib.hid BA
  have HBB := Lib.hid BB
  have HCA := Lib.hid cA
  have cB : ∀ W : World, (W.alloc (.cells #[.int .u8 (z : Int)] 5)).cell? ⟨W.heap.size, 0, none⟩ = some (.int .u8 (z : Int)) := fun W => cell_byte W _
  rw [E.out]
  clear ha hz hch hD E BA BB
  go_enter Try.func19, Try.ntmps19
  go_wp2_with fail
  go_region_with
    (first | (go_at_call 23; (with_reducible refine CA.out.mono ?_); rintro e w5 ⟨rfl, hb5⟩; have c5 := (hb5.cell (p := ⟨w.heap.size, 0, none⟩) sA).trans HCA.out; have HB5 := Lib.hid (HBA.out.trans (hb5.mono HBA.out.size)); clear hb5) | (go_at_call 23; (with_reducible refine CB.out.mono ?_); rintro e w5 ⟨rfl, hb5⟩; have HB5 := Lib.hid (HBB.out.trans (hb5.mono HBB.out.size)); clear hb5) | fail)
  all_goals
    go_wp2_with fail
    go_ret
    first | exact ⟨rfl, HB5.out⟩ | exact ⟨rfl, HB5.out.alloc HB5.out.size _⟩

/-- the name of a sheet of the series -/
def IsName (s : List UInt8) (c r : Nat) : Prop := c < 26 ∧ r < 26 ∧ s = nameL c r
theorem dig_inj : ∀ c : Fin 26, ∀ c' : Fin 26, dig (c.val + 1) = dig (c'.val + 1) → c = c' := by decide
theorem chr_inj : ∀ r : Fin 26, ∀ r' : Fin 26, UInt8.ofNat (65 + r.val) = UInt8.ofNat (65 + r'.val) → r = r' := by decide
theorem name_unique {s : List UInt8} {c r c' r' : Nat} (h : IsName s c r) (h' : IsName s c' r') : c = c' ∧ r = r' := by
  obtain ⟨h1, h2, h3⟩ := h
  obtain ⟨k1, k2, k3⟩ := h'
  rw [h3, nameL, nameL, List.cons.injEq] at k3
  have a := dig_inj ⟨c, h1⟩ ⟨c', k1⟩ k3.2
  have b := chr_inj ⟨r, h2⟩ ⟨r', k2⟩ k3.1
  simp at a b
  exact ⟨a, b⟩

set_option maxHeartbeats 1000000 in
set_option maxRecDepth 100000 in
theorem l7Find_any (s : List UInt8) (w : World) :
    Calls Try.prog 15 #[.string ⟨s.toArray⟩] w fun e w' => ((∃ c r : Nat, IsName s c r ∧ e = .returned (.tuple #[.int .i64 c, .int .i64 r, .bool true])) ∨ ((∀ c r, ¬ IsName s c r) ∧ e = .returned (.tuple #[.int .i64 0, .int .i64 0, .bool false]))) ∧ Below w.heap.size w w' := by
  go_enter Try.func15, Try.ntmps15
  go_wp2_with fail
  go_loopw [5] (fun i wr => ∃ k : Nat, k ≤ 26 ∧ i = .int .i64 k ∧ (∀ r c, r < k → c < 26 → s ≠ nameL c r) ∧ Below w.heap.size w wr) (fun i _ => 26 - (intOf i).toNat)
  case atStart => exact ⟨0, by omega, rfl, fun r c h => by omega, Below.refl _ _⟩
  case round =>
    obtain ⟨R, hR, rfl, hno, hbel⟩ := hrel
    have HN := Lib.hid hno
    have HB := Lib.hid hbel
    clear hno hbel
    by_cases hlt : R < 26
    · have x1 : (R : Int) < 26 := by omega
      obtain ⟨wo, hwo⟩ : ∃ wo : World, wo = wr := ⟨_, rfl⟩
      rw [← hwo] at HB ⊢
      clear hwo
      clear wr
      go_wp2_with fail
      go_loopw [6] (fun i wr => ∃ k : Nat, k ≤ 26 ∧ i = .int .i64 k ∧ (∀ c, c < k → s ≠ nameL c R) ∧ Below w.heap.size w wr) (fun i _ => 26 - (intOf i).toNat)
      case atStart => exact ⟨0, by omega, rfl, fun c h => by omega, HB.out⟩
      case round =>
        clear HB wo
        obtain ⟨C, hC, rfl, hnc, hbel⟩ := hrel
        have HC := Lib.hid hnc
        have HB := Lib.hid hbel
        clear hnc hbel
        by_cases hlc : C < 26
        · have y1 : (C : Int) < 26 := by omega
          go_wp2_with fail
          refine (l7Name_any C R wr (by omega) (by omega)).mono ?_
          rintro e w4 ⟨rfl, hb4⟩
          have HB4 := Lib.hid (HB.out.trans (hb4.mono HB.out.size))
          clear hb4
          obtain ⟨L, hL⟩ : ∃ L, L = nameL C R := ⟨_, rfl⟩
          rw [← hL]
          have HL := Lib.hid hL
          clear hL
          by_cases he : L = s
          · have t1 : (L == s) = true := by simpa using he
            have IN : Hid (IsName s C R) := ⟨hlc, hlt, by rw [← he]; exact HL.out⟩
            clear he
            go_wp2_with fail
            refine bodyPost_ret (v := .tuple #[.int .i64 (C : Int), .int .i64 (R : Int), .bool true]) (by simp [results, Try.results15, go_sem]) rfl ⟨.inl ⟨C, R, IN.out, rfl⟩, HB4.out⟩
          · have t1 : (L == s) = false := by simpa using he
            have HE := Lib.hid he
            clear he
            go_wp2_with fail
            go_roundw
            case rel =>
              refine ⟨C + 1, by omega, by go_num, fun c hc => ?_, HB4.out⟩
              by_cases e : c = C
              · subst e; intro h; exact HE.out (by rw [HL.out, h])
              · exact HC.out c (by omega)
            case measure => simp [intOf]; omega
        · obtain rfl : C = 26 := by omega
          clear hlc
          go_wp2_with fail
          go_roundw
          case rel =>
            refine ⟨R + 1, by omega, by go_num, fun r c hr hc => ?_, HB.out⟩
            by_cases e : r = R
            · subst e; exact HC.out c hc
            · exact HN.out r c (by omega) hc
          case measure => simp [intOf]; omega
    · obtain rfl : R = 26 := by omega
      have NN : Hid (∀ c r, ¬ IsName s c r) := fun c r h => HN.out r c h.2.1 h.1 h.2.2
      clear hlt
      go_wp2_with fail
      refine bodyPost_ret (v := .tuple #[.int .i64 0, .int .i64 0, .bool false]) (by simp [results, Try.results15, go_sem]) rfl ⟨.inr ⟨NN.out, rfl⟩, HB.out⟩
end Go.Proofs.Ytnghcgkjhidfiaa
