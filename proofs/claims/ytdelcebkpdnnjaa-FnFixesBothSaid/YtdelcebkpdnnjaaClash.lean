/-
  clashing and FixesClash, the program's and the reference's. No condition but that the slices read as the lists.
-/
import Derived.Test.YtdelcebkpdnnjaaAre
import Derived.Laws.StructEq
namespace Go.Proofs.Ytdelcebkpdnnjaa
open Go.RowKit Go.Deep Go.Sort BigFrame

/-- two corrections of one cell that differ -/
def Cl (p q : Quad) : Prop := (p.1 = q.1 ∧ p.2.1 = q.2.1) ∧ p ≠ q
instance (p q : Quad) : Decidable (Cl p q) := by unfold Cl; infer_instance
def ClashL (a b : List Quad) : Prop := ∃ i, i < a.length ∧ ∃ j, j < b.length ∧ Cl (a[i]?.getD q0) (b[j]?.getD q0)
instance (a b : List Quad) : Decidable (ClashL a b) := decidable_of_iff (∃ p ∈ a, ∃ q ∈ b, Cl p q) ⟨fun ⟨p, hp, q, hq, h⟩ => by
    obtain ⟨i, hi, rfl⟩ := List.getElem_of_mem hp
    obtain ⟨j, hj, rfl⟩ := List.getElem_of_mem hq
    exact ⟨i, hi, j, hj, by rw [getQ_eq hi, getQ_eq hj]; exact h⟩, fun ⟨i, hi, j, hj, h⟩ => by
    rw [getQ_eq hi, getQ_eq hj] at h
    exact ⟨_, List.getElem_mem hi, _, List.getElem_mem hj, h⟩⟩

theorem eq_fix (p0 p1 p2 p3 r0 r1 r2 r3 : Int) (w : World) : (Op.equalIn 10000 41 (.agg #[.int .i64 p0, .int .i64 p1, .int .i64 p2, .int .i64 p3]) (.agg #[.int .i64 r0, .int .i64 r1, .int .i64 r2, .int .i64 r3])).run Try.prog w = .ok (p0 == r0 && p1 == r1 && p2 == r2 && p3 == r3) w := by
  have u3 := Try.underlying3
  have a3 := Try.isAgg3
  have z3 := Try.sizeOf3
  have hS : Try.prog.underlying 41 = some (.struct (Try.prog.fieldsOf 41)) := by kernel_rfl
  have hp : Try.prog.stoodInHeld 41 = false := by kernel_rfl
  rw [show (10000 : Nat) = 9999 + 1 from rfl, run_equalIn_agg w 9999 41 _ _ hS hp]
  simp only [Program.fieldsOf, Try.underlying41]
  go_simp
  by_cases h1 : p0 = r0 <;> by_cases h2 : p1 = r1 <;> by_cases h3 : p2 = r2 <;> by_cases h4 : p3 = r3 <;> simp [h1, h2, h3, h4]
theorem eq_fix_no (p q : Quad) (h : p ≠ q) (w : World) : (Op.equalIn 10000 41 (qv p) (qv q)).run Try.prog w = .ok false w := by
  obtain ⟨p0, p1, p2, p3⟩ := p
  obtain ⟨r0, r1, r2, r3⟩ := q
  show (Op.equalIn 10000 41 (.agg #[.int .i64 p0, .int .i64 p1, .int .i64 p2, .int .i64 p3]) (.agg #[.int .i64 r0, .int .i64 r1, .int .i64 r2, .int .i64 r3])).run Try.prog w = _
  rw [eq_fix]
  have : (p0 == r0 && p1 == r1 && p2 == r2 && p3 == r3) = false := by
    by_cases h1 : p0 = r0 <;> by_cases h2 : p1 = r1 <;> by_cases h3 : p2 = r2 <;> by_cases h4 : p3 = r3 <;> simp [h1, h2, h3, h4]
    exact h (by rw [h1, h2, h3, h4])
  rw [this]
theorem eq_fix_yes (p : Quad) (w : World) : (Op.equalIn 10000 41 (qv p) (qv p)).run Try.prog w = .ok true w := by
  obtain ⟨p0, p1, p2, p3⟩ := p
  show (Op.equalIn 10000 41 (.agg #[.int .i64 p0, .int .i64 p1, .int .i64 p2, .int .i64 p3]) (.agg #[.int .i64 p0, .int .i64 p1, .int .i64 p2, .int .i64 p3])).run Try.prog w = _
  rw [eq_fix]
  simp

/-- no clash of the first k with all, and of the k-th with the first m -/
def NoCl (a b : List Quad) (k : Nat) : Prop := ∀ i, i < k → ∀ j, j < b.length → ¬ Cl (a[i]?.getD q0) (b[j]?.getD q0)
def NoClK (p : Quad) (b : List Quad) (m : Nat) : Prop := ∀ j, j < m → ¬ Cl p (b[j]?.getD q0)
theorem noCl_succ {a b : List Quad} {k : Nat} (h : NoCl a b k) (h2 : NoClK (a[k]?.getD q0) b b.length) : NoCl a b (k + 1) := fun i hi j hj => by
  by_cases e : i = k
  · subst e; exact h2 j hj
  · exact h i (by omega) j hj
theorem noClK_succ {p : Quad} {b : List Quad} {m : Nat} (h : NoClK p b m) (h2 : ¬ Cl p (b[m]?.getD q0)) : NoClK p b (m + 1) := fun j hj => by
  by_cases e : j = m
  · subst e; exact h2
  · exact h j (by omega)
theorem noCl_all {a b : List Quad} (h : NoCl a b a.length) : ¬ ClashL a b := fun ⟨i, hi, j, hj, hc⟩ => h i hi j hj hc

set_option maxHeartbeats 4000000 in
set_option maxRecDepth 100000 in
theorem clashing_any (va vb : Value) (la lb : List Quad) (w : World) (hA : Quads w va la) (hB : Quads w vb lb) :
    Calls Try.prog 55 #[va, vb] w fun e w' => e = .returned (.bool (decide (ClashL la lb))) ∧ Below w.heap.size w w' := by
  have hma := hA.quadsB.len
  have hmb := hB.quadsB.len
  obtain ⟨a1, c1, rfl, p1, p2, p3⟩ := hA
  obtain ⟨a2, c2, rfl, r1, r2, r3⟩ := hB
  have HA := Lib.hid p3
  have HB := Lib.hid r3
  clear p3 r3
  go_enter Try.func55, Try.ntmps55
  go_wp2_with fail
  go_loopw [6, 8, 11] (fun _ _ s wr => ∃ k : Nat, k ≤ la.length ∧ s = .int .i64 k ∧ NoCl la lb k ∧ Below w.heap.size w wr) (fun _ _ s _ => la.length - (intOf s).toNat)
  case atStart => exact ⟨0, Nat.zero_le _, rfl, (fun i hi => absurd hi (Nat.not_lt_zero _)), Below.refl _ _⟩
  case round =>
    obtain ⟨k, hk, rfl, hno, hbel⟩ := hrel
    have HNO := Lib.hid hno
    have HBE := Lib.hid hbel
    have hzw := hbel.size
    by_cases hlt : k < la.length
    · obtain ⟨b, off, hae, hbb, hq⟩ := HA.out (by omega)
      subst hae
      obtain ⟨q0', q1, q2, q3⟩ := (hq k hlt).below hbel hbb
      obtain ⟨p, hp⟩ : ∃ p, p = la[k]?.getD q0 := ⟨_, rfl⟩
      rw [← hp] at q0' q1 q2 q3
      have HP := Lib.hid hp
      have HBO := Lib.hid (hbel.alloc hzw (.cells #[.int .i64 p.1, .int .i64 p.2.1, .int .i64 p.2.2.1, .int .i64 p.2.2.2] 41))
      have HQB := Lib.hid (QBox_new wr p 41)
      clear hq hp hbel hno
      go_wp2_with fail
      clear q0' q1 q2 q3
      obtain ⟨wo, hwo⟩ : ∃ wo, wo = wr.alloc (.cells #[.int .i64 p.1, .int .i64 p.2.1, .int .i64 p.2.2.1, .int .i64 p.2.2.2] 41) := ⟨_, rfl⟩
      obtain ⟨H, hH⟩ : ∃ H, H = wr.heap.size := ⟨_, rfl⟩
      rw [← hwo] at HBO HQB ⊢
      rw [← hH] at HQB ⊢
      have hHo : H < wo.heap.size := HQB.out.2
      have hwH : w.heap.size ≤ H := by omega
      clear hwo hH
      go_loopw [8, 17] (fun _ s wi => ∃ m : Nat, m ≤ lb.length ∧ s = .int .i64 m ∧ NoClK p lb m ∧ Below wo.heap.size wo wi) (fun _ s _ => lb.length - (intOf s).toNat)
      case atStart => exact ⟨0, Nat.zero_le _, rfl, (fun i hi => absurd hi (Nat.not_lt_zero _)), Below.refl _ _⟩
      case round =>
        obtain ⟨wi, rfl⟩ : ∃ wi : World, wi = wr := ⟨_, rfl⟩
        obtain ⟨m, hm, rfl, hno, hbi⟩ := hrel
        have HNK := Lib.hid hno
        have HBI := Lib.hid hbi
        have hzi := hbi.size
        by_cases hlm : m < lb.length
        · obtain ⟨b2, off2, hae, hbb2, hq⟩ := HB.out (by omega)
          subst hae
          have hbw : Below w.heap.size w wi := HBO.out.trans (hbi.mono (by omega))
          obtain ⟨d0, d1, d2, d3⟩ := (hq m hlm).below hbw hbb2
          obtain ⟨q, hq'⟩ : ∃ p, p = lb[m]?.getD q0 := ⟨_, rfl⟩
          rw [← hq'] at d0 d1 d2 d3
          have HQ' := Lib.hid hq'
          obtain ⟨x0, x1, x2, x3⟩ := ((HQB.out.below hbi hHo).below ((Below.refl wi.heap.size wi).alloc (Nat.le_refl _) (.cells #[.int .i64 q.1, .int .i64 q.2.1, .int .i64 q.2.2.1, .int .i64 q.2.2.2] 41)) (by omega)).cells
          have HQ2 := Lib.hid (QBox_new wi q 41)
          have HBW := Lib.hid hbw
          have CB : Hid (∀ W, Calls Try.prog 58 #[qv p, qv q] W fun e w' => e = .returned (.int .i64 (cellCmp p q)) ∧ Below W.heap.size W w') := fun W => byCell_any p q W
          have hneq := eq_fix_no p q
          have HNE := Lib.hid hneq
          clear hneq
          clear hq hq' hbi hno hbw
          obtain ⟨z, hz⟩ : ∃ z, z = cellCmp p q := ⟨_, rfl⟩
          rw [← hz] at CB
          have HZ := Lib.hid hz
          clear hz
          go_wp2_with fail
          refine (CB.out _).mono ?_
          rintro e w5 ⟨rfl, hb5⟩
          have hz5 := hb5.size
          simp only [World.size_alloc] at hz5
          have HB5 := Lib.hid ((HBI.out.alloc hzi _).trans (hb5.mono (by simp; omega)))
          clear x0 x1 x2 x3 d0 d1 d2 d3
          by_cases h0 : z = 0
          · have t0 : (z == 0) = true := by simp [h0]
            have HC := Lib.hid ((cellCmp_zero p q).1 (by rw [← HZ.out]; exact h0))
            obtain ⟨x0, x1, x2, x3⟩ := (HQB.out.below HB5.out hHo).cells
            obtain ⟨y0, y1, y2, y3⟩ := (HQ2.out.below hb5 (by simp)).cells
            clear hb5 h0
            by_cases he : p = q
            · have heq : ∀ W, (Op.equalIn 10000 41 (qv p) (qv q)).run Try.prog W = .ok true W := by rw [he]; exact eq_fix_yes q
              have HS := Lib.hid (noClK_succ (b := lb) HNK.out (by rw [← HQ'.out]; exact fun h => h.2 he))
              clear he
              go_wp2_with fail
              go_roundw
              case rel => exact ⟨m + 1, by omega, by go_num, HS.out, HB5.out⟩
              case measure => simp [intOf]; omega
            · have heq := HNE.out he
              have HY := Lib.hid (show ClashL la lb from ⟨k, hlt, m, hlm, by rw [← HP.out, ← HQ'.out]; exact ⟨HC.out, he⟩⟩)
              clear he
              go_wp2_with fail
              go_ret
              exact ⟨ret_bool (decide_eq_true HY.out).symm, HBO.out.trans (HB5.out.mono (by omega))⟩
          · have t0 : (z == 0) = false := by simp [h0]
            have HS := Lib.hid (noClK_succ (b := lb) HNK.out (by rw [← HQ'.out]; exact fun h => h0 (by rw [HZ.out]; exact (cellCmp_zero p q).2 h.1)))
            clear hb5 h0
            go_wp2_with fail
            go_roundw
            case rel => exact ⟨m + 1, by omega, by go_num, HS.out, HB5.out⟩
            case measure => simp [intOf]; omega
        · obtain rfl : m = lb.length := by omega
          have HS := Lib.hid (noCl_succ HNO.out (by rw [← HP.out]; exact hno))
          clear hbi hno
          go_wp2_with fail
          go_roundw
          case rel => exact ⟨k + 1, by omega, by go_num, HS.out, HBO.out.trans (HBI.out.mono (by omega))⟩
          case measure => simp [intOf]; omega
    · obtain rfl : k = la.length := by omega
      have HS := Lib.hid (noCl_all hno)
      clear hno hbel
      go_wp2_with fail
      go_ret
      exact ⟨ret_bool (decide_eq_false HS.out).symm, HBE.out⟩

set_option maxHeartbeats 4000000 in
set_option maxRecDepth 100000 in
theorem l9Clash_any (va vb : Value) (la lb : List Quad) (w : World) (hA : Quads w va la) (hB : Quads w vb lb) :
    Calls Try.prog 60 #[va, vb] w fun e w' => e = .returned (.bool (decide (ClashL la lb))) ∧ Below w.heap.size w w' := by
  have hma := hA.quadsB.len
  have hmb := hB.quadsB.len
  obtain ⟨a1, c1, rfl, p1, p2, p3⟩ := hA
  obtain ⟨a2, c2, rfl, r1, r2, r3⟩ := hB
  have HA := Lib.hid p3
  have HB := Lib.hid r3
  clear p3 r3
  go_enter Try.func60, Try.ntmps60
  go_wp2_with fail
  go_loopw [5, 6] (fun s _ wr => ∃ k : Nat, k ≤ la.length ∧ s = .int .i64 k ∧ NoCl la lb k ∧ Below w.heap.size w wr) (fun s _ _ => la.length - (intOf s).toNat)
  case atStart => exact ⟨0, Nat.zero_le _, rfl, (fun i hi => absurd hi (Nat.not_lt_zero _)), Below.refl _ _⟩
  case round =>
    obtain ⟨k, hk, rfl, hno, hbel⟩ := hrel
    have HNO := Lib.hid hno
    have HBE := Lib.hid hbel
    by_cases hlt : k < la.length
    · have k1 : (0 : Int) ≤ (k : Int) := by omega
      have k2 : (k : Int) < (la.length : Int) := by omega
      clear hbel hno
      go_wp2_with fail
      obtain ⟨wo, rfl⟩ : ∃ wo : World, wo = wr := ⟨_, rfl⟩
      go_loopw [6] (fun s wi => ∃ m : Nat, m ≤ lb.length ∧ s = .int .i64 m ∧ NoClK (la[k]?.getD q0) lb m ∧ Below w.heap.size w wi) (fun s _ => lb.length - (intOf s).toNat)
      case atStart => exact ⟨0, Nat.zero_le _, rfl, (fun i hi => absurd hi (Nat.not_lt_zero _)), HBE.out⟩
      case round =>
        obtain ⟨wi, rfl⟩ : ∃ wi : World, wi = wr := ⟨_, rfl⟩
        obtain ⟨m, hm, rfl, hno, hbi⟩ := hrel
        have HNK := Lib.hid hno
        have HBE2 := Lib.hid hbi
        by_cases hlm : m < lb.length
        · obtain ⟨b, off, hae, hbb, hq⟩ := HA.out (by omega)
          subst hae
          obtain ⟨b2, off2, hae, hbb2, hq2⟩ := HB.out (by omega)
          subst hae
          obtain ⟨q0', q1, q2, q3⟩ := (hq k hlt).below hbi hbb
          obtain ⟨d0, d1, d2, d3⟩ := (hq2 m hlm).below hbi hbb2
          obtain ⟨p, hp⟩ : ∃ p, p = la[k]?.getD q0 := ⟨_, rfl⟩
          obtain ⟨q, hq'⟩ : ∃ p, p = lb[m]?.getD q0 := ⟨_, rfl⟩
          rw [← hp] at q0' q1 q2 q3 HNK
          rw [← hq'] at d0 d1 d2 d3
          have HP := Lib.hid hp
          have HQ' := Lib.hid hq'
          have HNE := Lib.hid (eq_fix_no p q)
          have m1 : (0 : Int) ≤ (m : Int) := by omega
          have m2 : (m : Int) < (lb.length : Int) := by omega
          by_cases e0 : p.1 = q.1
          · have t0 : (p.1 == q.1) = true := by simp [e0]
            by_cases e1 : p.2.1 = q.2.1
            · have t1 : (p.2.1 == q.2.1) = true := by simp [e1]
              have HC := Lib.hid (And.intro e0 e1)
              by_cases he : p = q
              · have heq : ∀ W, (Op.equalIn 10000 41 (qv p) (qv q)).run Try.prog W = .ok true W := by rw [he]; exact eq_fix_yes q
                have HS := Lib.hid (show NoClK (la[k]?.getD q0) lb (m + 1) by rw [← HP.out]; exact noClK_succ HNK.out (by rw [← HQ'.out]; exact fun h => h.2 he))
                clear hq hq2 hp hq' hbi hno e0 e1 he
                go_wp2_with fail
                go_quiet (fail)
                go_wp2_with fail
                go_roundw
                case rel => exact ⟨m + 1, by omega, by go_num, HS.out, below_n HBE2.out nq⟩
                case measure => simp [intOf]; omega
              · have heq := HNE.out he
                have HY := Lib.hid (show ClashL la lb from ⟨k, hlt, m, hlm, by rw [← HP.out, ← HQ'.out]; exact ⟨HC.out, he⟩⟩)
                clear hq hq2 hp hq' hbi hno e0 e1 he
                go_wp2_with fail
                go_quiet (fail)
                go_wp2_with fail
                go_ret
                exact ⟨ret_bool (decide_eq_true HY.out).symm, below_n HBE2.out nq⟩
            · have t1 : (p.2.1 == q.2.1) = false := by simp [e1]
              have HS := Lib.hid (show NoClK (la[k]?.getD q0) lb (m + 1) by rw [← HP.out]; exact noClK_succ HNK.out (by rw [← HQ'.out]; exact fun h => e1 h.1.2))
              clear hq hq2 hp hq' hbi hno e0 e1
              go_wp2_with fail
              go_quiet (fail)
              go_wp2_with fail
              go_roundw
              case rel => exact ⟨m + 1, by omega, by go_num, HS.out, below_n HBE2.out nq⟩
              case measure => simp [intOf]; omega
          · have t0 : (p.1 == q.1) = false := by simp [e0]
            have HS := Lib.hid (show NoClK (la[k]?.getD q0) lb (m + 1) by rw [← HP.out]; exact noClK_succ HNK.out (by rw [← HQ'.out]; exact fun h => e0 h.1.1))
            clear hq hq2 hp hq' hbi hno e0
            go_wp2_with fail
            go_quiet (fail)
            go_wp2_with fail
            go_roundw
            case rel => exact ⟨m + 1, by omega, by go_num, HS.out, below_n HBE2.out nq⟩
            case measure => simp [intOf]; omega
        · obtain rfl : m = lb.length := by omega
          have HS := Lib.hid (noCl_succ HNO.out hno)
          clear hbi hno
          go_wp2_with fail
          go_roundw
          case rel => exact ⟨k + 1, by omega, by go_num, HS.out, HBE2.out⟩
          case measure => simp [intOf]; omega
    · obtain rfl : k = la.length := by omega
      have HS := Lib.hid (noCl_all hno)
      clear hno hbel
      go_wp2_with fail
      go_ret
      exact ⟨ret_bool (decide_eq_false HS.out).symm, HBE.out⟩

def ClashOk (g : Rows) (a b : List Quad) : Prop := AreOk g a ∧ AreOk g b ∧ ClashL a b
instance (g : Rows) (a b : List Quad) : Decidable (ClashOk g a b) := by unfold ClashOk; infer_instance

end Go.Proofs.Ytdelcebkpdnnjaa
