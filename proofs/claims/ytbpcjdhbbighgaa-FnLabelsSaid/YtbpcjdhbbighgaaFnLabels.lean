/-
  FnLabels: for all arguments the law returns true and leaves what was there as it was. No condition.
-/
import Derived.Test.YtbpcjdhbbighgaaDrawS
import Derived.Test.YtbpcjdhbbighgaaBoardOf
import Derived.Test.YtbpcjdhbbighgaaLawKit
import Derived.Test.YtbpcjdhbbighgaaBytes
import Derived.Test.YtbpcjdhbbighgaaFacts
import Derived.Test.YtbpcjdhbbighgaaL8
import Derived.ProofKit
import Derived.OpenShut
import Derived.ShutString
import Derived.ChangeOld
import Derived.Below
import Derived.Test.YtbpcjdhbbighgaaFacts
import Derived.ProofKit
import Derived.OpenShut
import Derived.ShutString
import Derived.ChangeOld
import Derived.Below
namespace Go.Proofs.Ytbpcjdhbbighgaa
open Go.RowKit Go.Deep

theorem wp_app_quads_g {o : Oper} {a : Act} {K : Act → World → Prop} {Q : Exit → Act → World → Prop} (wr : World) (s x : Operand)
    (ho : o.op = .call { callee := .builtin .append, args := #[s, x], argTypes := #[32, 32] }) (base : Nat) (v : Value) (l : List Quad) (vx : Value) (l2 : List Quad)
    (hown : wr.ownsRow base 24 4 v l.length (flat l)) (hq : Quads wr vx l2) (hs : a.eval s = v) (hx : a.eval x = vx) (hlen : l.length + l2.length ≤ 1099511627776) (hb : base ≤ wr.heap.size)
    (h : ∀ v' w', w'.ownsRow base 24 4 v' (l ++ l2).length (flat (l ++ l2)) → wr.grownBy w' v.ownBlock → K (a.put o.dst v') w') :
    Oper.wp Try.prog o a wr K Q := by
  obtain ⟨i0, hi, hz0, hz1, hz2⟩ := info_parts info_label
  obtain ⟨ax, cx, rfl, hq1, hq2, hq3⟩ := hq
  by_cases h2 : 0 < l2.length
  · obtain ⟨b, off, rfl, hbl, hcell⟩ := hq3 h2
    refine wp_append_own wr s x 32 ho base 24 i0 _ 4 32 Try.underlying32 hi hz0 hz1 hz2 rfl (by decide) v l.length _ hs hown ⟨b, off, none⟩ l2.length cx (flat l2) hx (flat_length _) (flat_cells hcell)
      (fun u hu => by obtain ⟨j, hj⟩ := List.mem_iff_getElem?.1 hu; rw [flat_get _ _ (by have := (List.getElem?_eq_some_iff.1 hj).1; rwa [flat_length] at this)] at hj; have e : u = qcell l2 j := by simpa using hj.symm
                      rw [e]; exact qcell_one _ _) (by unfold maxLen; omega) (by omega) hb ?_
    intro v' w' r1 r2 _
    exact h v' w' (by rw [flat_append, List.length_append]; exact r1) r2
  · obtain rfl : l2 = [] := List.length_eq_zero_iff.1 (by omega)
    have hrun := run_app_empty (P := Try.prog) (w := wr) base 32 o.type 24 i0 4 Try.underlying32 hi v l.length _ hown ax cx
    have hx' : a.eval x = .slice ax 0 cx := hx
    have hk := h v wr (by rw [List.append_nil]; exact hown) ⟨rfl, rfl, rfl, Nat.le_refl _, fun _ _ _ => rfl⟩
    unfold Oper.wp
    simp [execOp, ho, resolve, invoke, builtin, hs, hx', hrun, Result.andThen]
    exact hk
theorem quads_at {w : World} {b : Nat} {q : Quad} (h : QAt w b 0 q) (hb : b < w.heap.size) : Quads w (.slice (some ⟨b, 0, none⟩) 1 1) [q] :=
  ⟨some ⟨b, 0, none⟩, 1, rfl, Nat.le_refl _, by omega, fun _ => ⟨b, 0, rfl, hb, fun j hj => by
    obtain rfl : j = 0 := by simpa using hj
    simpa using h⟩⟩
theorem qat_block {w w' : World} {b o : Nat} {q : Quad} (h : QAt w b o q) (hb : w'.heap[b]? = w.heap[b]?) : QAt w' b o q :=
  ⟨(World.cell?_of_block (a := ⟨b, o, none⟩) hb).trans h.1, (World.cell?_of_block (a := ⟨b, o + 1, none⟩) hb).trans h.2.1, (World.cell?_of_block (a := ⟨b, o + 2, none⟩) hb).trans h.2.2.1, (World.cell?_of_block (a := ⟨b, o + 3, none⟩) hb).trans h.2.2.2⟩
theorem below_own_grown {w0 wr w' : World} {base n size : Nat} {e : TypeId} {v : Value} {xs : List Value} (hB : Below base w0 wr) (hown : wr.ownsRow base e size v n xs) (hb : base ≤ wr.heap.size) (hg : wr.grownBy w' v.ownBlock) : Below base w0 w' :=
  hB.grown hg hb (fun g h => (hown.lt g h).1)
theorem qbox_lt (w : World) (q : Quad) : w.heap.size < (w.alloc (.cells #[.int .i64 q.1, .int .i64 q.2.1, .int .i64 q.2.2.1, .int .i64 q.2.2.2] 24)).heap.size := by simp
theorem quads_take {B : Nat} {w : World} {a : Option Addr} {cap : Nat} {l : List Quad} (h : QuadsB B w (.slice a l.length cap) l) (k : Nat) (hk : k ≤ l.length) : QuadsB B w (.slice a k cap) (l.take k) := by
  obtain ⟨a', cap', e, h1, h2, h3⟩ := h
  obtain ⟨rfl, rfl⟩ : a = a' ∧ cap = cap' := by simp at e; exact e
  have hl : (l.take k).length = k := by simp; omega
  refine ⟨a, cap, by rw [hl], by omega, h2, fun h => ?_⟩
  obtain ⟨b, off, rfl, hb, hc⟩ := h3 (by omega)
  refine ⟨b, off, rfl, hb, fun j hj => ?_⟩
  rw [hl] at hj
  have := hc j (by omega)
  rwa [List.getElem?_take, if_pos hj]
theorem valid_take {l : List Quad} (h : ValidL l) {k : Nat} (hk : k ≤ l.length) : ValidL (l.take k) := by
  have hl : (l.take k).length = k := by simp; omega
  refine ⟨by have := h.1; omega, fun i hi => ?_⟩
  rw [hl] at hi
  have e : ∀ j, j ≤ i → (l.take k)[j]?.getD q0 = l[j]?.getD q0 := fun j hj => by rw [List.getElem?_take, if_pos (by omega)]
  obtain ⟨h1, h2⟩ := h.2 i (by omega)
  rw [e i (Nat.le_refl _)]
  exact ⟨h1, fun j hj => by rw [e j (by omega)]; exact h2 j hj⟩
theorem valid_twice {l : List Quad} {m : Nat} (hm : m < l.length) : ¬ ValidL (l ++ [l[m]?.getD q0]) := by
  intro h
  have hl : (l ++ [l[m]?.getD q0]).length = l.length + 1 := by simp
  have h2 := (h.2 l.length (by omega)).2 m hm
  have e1 : (l ++ [l[m]?.getD q0])[l.length]?.getD q0 = l[m]?.getD q0 := by simp
  have e2 : (l ++ [l[m]?.getD q0])[m]?.getD q0 = l[m]?.getD q0 := by rw [List.getElem?_append_left hm]
  rw [e1, e2] at h2
  exact h2 (by simp [SamePoint])
theorem none_weight {l : List Quad} (h : ValidL l) : weightAll l (List.replicate l.length (-1)) = 0 := by
  have hs : SetOk l (List.replicate l.length (-1)) := ⟨h, by simp, (start_ok l).1⟩
  rw [weightAll, if_pos hs]
  have : ∀ k, k ≤ l.length → weightUp (fun q => q.2.2.2) l (List.replicate l.length (-1)) k = 0 := by
    intro k
    induction k with
    | zero => intro _; rfl
    | succ k ih =>
      intro hk
      rw [weightUp, ih (by omega), if_pos (by rw [List.getElem?_replicate, if_pos (by omega)]; rfl)]
      rfl
  exact this _ (Nat.le_refl _)
set_option maxHeartbeats 4000000 in
set_option maxRecDepth 100000 in
theorem FnLabels_walk (v : Value) (n : Nat) (v2 : Value) (n2 : Nat) (w : World) (h : Bytes w v n) (h' : Bytes w v2 n2) :
    Calls Try.prog 4 #[v, v2] w fun e w' => e = .returned (.bool true) ∧ Below w.heap.size w w' := by
  have CD := Lib.hid (DrawLabelsValid_any v n w h)
  obtain ⟨a, cap, rfl, h1, h2, h3⟩ := h
  obtain ⟨a2, cap2, rfl, h1', h2', h3'⟩ := h'
  clear h3 h3'
  by_cases hbig : 1048576 < n
  · have hb' : (1048576 : Int) < (n : Int) := by omega
    go_enter Try.func4, Try.ntmps4
    go_wp2
    go_ret
    exact ⟨rfl, Below.refl _ _⟩
  have hb' : ¬ (1048576 : Int) < (n : Int) := by omega
  clear hbig
  by_cases hbig : 1048576 < n2
  · have hb'' : (1048576 : Int) < (n2 : Int) := by omega
    go_enter Try.func4, Try.ntmps4
    go_wp2
    go_ret
    exact ⟨rfl, Below.refl _ _⟩
  have hb'' : ¬ (1048576 : Int) < (n2 : Int) := by omega
  have n2s : n2 ≤ 1048576 := by omega
  clear hbig
  go_enter Try.func4, Try.ntmps4
  go_wp2_with fail
  refine CD.out.mono ?_
  rintro e w1 ⟨vl, l, rfl, hA, hl7, hb1⟩
  have s1 := hb1.size
  obtain ⟨la, lc, rfl, q1, q2, q3⟩ := id hA
  clear q3 CD
  have H := Lib.hid hA.quadsB
  have B := Lib.hid hb1
  clear hA hb1
  go_wp2_with fail
  refine (LabelsValid_any _ l w1 (H.out.quads (Nat.le_refl _))).mono ?_
  rintro e w2 ⟨rfl, hb2⟩
  have s2 := hb2.size
  replace B := Lib.hid (B.out.trans (hb2.mono (by omega)))
  replace H := Lib.hid (H.out.below hb2 (Nat.le_refl _))
  clear hb2
  go_wp2_with fail
  refine (specLabelsValid_any _ l w2 (H.out.quads s2)).mono ?_
  rintro e w3 ⟨rfl, hb3⟩
  have s3 := hb3.size
  replace B := Lib.hid (B.out.trans (hb3.mono (by omega)))
  replace H := Lib.hid (H.out.below hb3 (by omega))
  clear hb3
  by_cases hv : ValidL l
  · have HV := Lib.hid hv
    have hl6 := hv.1
    have hne : ((true : Bool) != true) = false := by simp
    obtain ⟨kk, hkk⟩ : ∃ kk, kk = n2 % (l.length + 1) := ⟨_, rfl⟩
    have kl : kk ≤ l.length := by have := Nat.mod_lt n2 (show 0 < l.length + 1 by omega); omega
    have r0 : IntKind.i64.wrap ((l.length : Int) + 1) = (l.length : Int) + 1 := IntWalk.i64_in _ (by omega)
    have r1 : (n2 : Int) % ((l.length : Int) + 1) = (kk : Int) := by rw [hkk]; simp
    have r2 : (n2 : Int).tmod ((l.length : Int) + 1) = (kk : Int) := by rw [Int.tmod_eq_emod_of_nonneg (by omega)]; exact r1
    have r3 : ((l.length : Int) + 1 == 0) = false := by simp; omega
    have r4 : ¬ ((l.length : Int) + 1 = 0) := by omega
    rw [decide_eq_true hv]
    clear hv hkk
    go_wp2_with fail
    clear r0 r1 r2 r3 r4
    go_loopw [9, 10] (fun x i wr => ∃ m : Nat, m ≤ l.length ∧ i = .int .i64 m ∧ wr.ownsRow w3.heap.size 3 1 x (List.replicate m (-1 : Int)).length ((List.replicate m (-1 : Int)).map (Value.int .i64)) ∧ Below w3.heap.size w3 wr) (fun _ i _ => l.length - (intOf i).toNat)
    case atStart => exact ⟨0, Nat.zero_le _, rfl, by simpa using (World.ownsRow_made (base := w3.heap.size) (e := 3) (size := 1) w3 #[] 0 (Nat.le_refl _) (by decide) rfl), (Below.refl _ _).alloc (Nat.le_refl _) _⟩
    case round =>
      obtain ⟨m, hm, rfl, hown, hbel⟩ := hrel
      have hsr := hbel.size
      by_cases hml : m < l.length
      · have hml' : (m : Int) < (l.length : Int) := by omega
        have E := Lib.hid (repl_snoc m)
        have hfl : (List.replicate m (-1 : Int)).length ≤ 1099511627776 := by simp; omega
        obtain ⟨X, hX⟩ : ∃ X, X = List.replicate m (-1 : Int) := ⟨_, rfl⟩
        rw [← hX] at hown hfl E
        clear hX
        go_wp2_with (at_builtin; refine app_int w3 wr rfl _ _ rfl w3.heap.size _ X (-1) hown rfl rfl hfl hsr hbel ?_; intro v' w4 hown1 hbel1)
        go_roundw
        case rel => exact ⟨m + 1, by omega, by go_num, by rw [← E.out]; exact hown1, hbel1⟩
        case measure => simp [intOf]; omega
      · obtain rfl : m = l.length := by omega
        have NO := Lib.hid (own_of_ownsRow hown (Nat.le_refl _))
        have HT := Lib.hid (quads_take H.out kk kl)
        have VT := Lib.hid (valid_take HV.out kl)
        have NW := Lib.hid (none_weight HV.out)
        replace B := Lib.hid (B.out.trans (hbel.mono (by omega)))
        replace H := Lib.hid (H.out.below hbel (by omega))
        replace HT := Lib.hid (HT.out.below hbel (by omega))
        have sr := hsr
        obtain ⟨xa, xc, hx, _, _, hrest⟩ := NO.out.ints
        clear hrest
        subst hx
        rw [List.length_replicate]
        rw [List.length_replicate] at *
        clear hown hbel
        have kc : kk ≤ lc := by omega
        have kz : (0 : Int) ≤ (kk : Int) := by omega
        have kl' : (kk : Int) ≤ (l.length : Int) := by omega
        by_cases h0 : 0 < l.length
        · obtain ⟨lb, lo, rfl, lbB, lcell⟩ : ∃ b off, la = some ⟨b, off, none⟩ ∧ b < w1.heap.size ∧ ∀ j, j < l.length → QAt wr b (off + j * 4) (l[j]?.getD q0) := by
            obtain ⟨a', c', e, _, _, g⟩ := H.out
            obtain ⟨rfl, rfl⟩ : la = a' ∧ lc = c' := by simp at e; exact e
            exact g h0
          obtain ⟨ix, hix⟩ : ∃ ix, ix = n2 % l.length := ⟨_, rfl⟩
          have il : ix < l.length := by rw [hix]; exact Nat.mod_lt _ h0
          have r1 : (n2 : Int) % (l.length : Int) = (ix : Int) := by rw [hix]; simp
          have r2 : (n2 : Int).tmod (l.length : Int) = (ix : Int) := by rw [Int.tmod_eq_emod_of_nonneg (by omega)]; exact r1
          have r4 : ¬ ((l.length : Int) = 0) := by omega
          have r5 : ¬ (l.length = 0) := by omega
          have il' : (ix : Int) < (l.length : Int) := by omega
          have iz : (0 : Int) ≤ (ix : Int) := by omega
          have lp : (0 : Int) < (l.length : Int) := by omega
          have NV := Lib.hid (valid_twice il)
          obtain ⟨c0, c1, c2, c3⟩ := lcell ix il
          obtain ⟨q, hq⟩ : ∃ q, q = l[ix]?.getD q0 := ⟨_, rfl⟩
          rw [← hq] at c0 c1 c2 c3 NV
          have lq : l ++ [q] ≠ [] := by simp
          have HB0 := Lib.hid ((((Below.refl wr.heap.size wr).alloc (Nat.le_refl _) (.cells #[] 24)).alloc (by simp) (.cells #[.int .i64 q.1, .int .i64 q.2.1, .int .i64 q.2.2.1, .int .i64 q.2.2.2] 24)).drew)
          have HO0 := Lib.hid (((World.ownsRow_made (base := wr.heap.size) (e := 24) (size := 4) wr #[] 0 (Nat.le_refl _) (by decide) rfl).alloc (.cells #[.int .i64 q.1, .int .i64 q.2.1, .int .i64 q.2.2.1, .int .i64 q.2.2.2] 24)).drew)
          have HQA : Hid (QAt (((wr.alloc (.cells #[] 24)).alloc (.cells #[.int .i64 q.1, .int .i64 q.2.1, .int .i64 q.2.2.1, .int .i64 q.2.2.2] 24)).drew) (wr.heap.size + 1) 0 q) := by
            have := QAt_new (wr.alloc (.cells #[] 24)) q 24
            rw [show (wr.alloc (.cells #[] 24)).heap.size = wr.heap.size + 1 by simp] at this
            exact this
          have HQ := Lib.hid (H.out.quads (by omega))
          have lbr : lb < wr.heap.size := by omega
          clear hix hq lcell hml
          have d0 : wr.drew.cell? ⟨lb, lo + ix * 4, none⟩ = some (.int .i64 q.1) := c0
          have d1 : wr.drew.cell? ⟨lb, lo + ix * 4 + 1, none⟩ = some (.int .i64 q.2.1) := c1
          have d2 : wr.drew.cell? ⟨lb, lo + ix * 4 + 2, none⟩ = some (.int .i64 q.2.2.1) := c2
          have d3 : wr.drew.cell? ⟨lb, lo + ix * 4 + 3, none⟩ = some (.int .i64 q.2.2.2) := c3
          have n0 : (wr.alloc (.cells #[] 24)).drew.cell? ⟨lb, lo + ix * 4, none⟩ = some (.int .i64 q.1) := cell_alloc c0 _
          have n1 : (wr.alloc (.cells #[] 24)).drew.cell? ⟨lb, lo + ix * 4 + 1, none⟩ = some (.int .i64 q.2.1) := cell_alloc c1 _
          have n2 : (wr.alloc (.cells #[] 24)).drew.cell? ⟨lb, lo + ix * 4 + 2, none⟩ = some (.int .i64 q.2.2.1) := cell_alloc c2 _
          have n3 : (wr.alloc (.cells #[] 24)).drew.cell? ⟨lb, lo + ix * 4 + 3, none⟩ = some (.int .i64 q.2.2.2) := cell_alloc c3 _
          have HBa := Lib.hid (((Below.refl wr.heap.size wr).alloc (Nat.le_refl _) (.cells #[] 24)).drew)
          have HOa := Lib.hid ((World.ownsRow_made (base := wr.heap.size) (e := 24) (size := 4) wr #[] 0 (Nat.le_refl _) (by decide) rfl).drew)
          have HQLa : Hid (Quads (wr.alloc (.cells #[] 24)).drew (.slice (some ⟨lb, lo, none⟩) l.length lc) l) := (H.out.below HBa.out (by omega)).quads (by simp; omega)
          have hba : wr.heap.size ≤ (wr.alloc (.cells #[] 24)).drew.heap.size := by simp
          have HGa : Hid (∀ x1 : World, (wr.alloc (.cells #[] 24)).drew.grownBy x1 (Value.ownBlock (.slice (some ⟨wr.heap.size, 0, none⟩) 0 0)) → Below wr.heap.size wr x1) := fun x1 hg1 => below_own_grown HBa.out HOa.out hba hg1
          have qq0 : (wr.alloc (.cells #[.int .i64 q.1, .int .i64 q.2.1, .int .i64 q.2.2.1, .int .i64 q.2.2.2] 24)).drew.cell? ⟨lb, lo + ix * 4, none⟩ = some (.int .i64 q.1) := cell_alloc c0 _
          have qq1 : (wr.alloc (.cells #[.int .i64 q.1, .int .i64 q.2.1, .int .i64 q.2.2.1, .int .i64 q.2.2.2] 24)).drew.cell? ⟨lb, lo + ix * 4 + 1, none⟩ = some (.int .i64 q.2.1) := cell_alloc c1 _
          have qq2 : (wr.alloc (.cells #[.int .i64 q.1, .int .i64 q.2.1, .int .i64 q.2.2.1, .int .i64 q.2.2.2] 24)).drew.cell? ⟨lb, lo + ix * 4 + 2, none⟩ = some (.int .i64 q.2.2.1) := cell_alloc c2 _
          have qq3 : (wr.alloc (.cells #[.int .i64 q.1, .int .i64 q.2.1, .int .i64 q.2.2.1, .int .i64 q.2.2.2] 24)).drew.cell? ⟨lb, lo + ix * 4 + 3, none⟩ = some (.int .i64 q.2.2.2) := cell_alloc c3 _
          have qe0 : ((wr.alloc (.cells #[.int .i64 q.1, .int .i64 q.2.1, .int .i64 q.2.2.1, .int .i64 q.2.2.2] 24)).alloc (.cells #[] 24)).drew.cell? ⟨lb, lo + ix * 4, none⟩ = some (.int .i64 q.1) := cell_alloc (cell_alloc c0 _) _
          have qe1 : ((wr.alloc (.cells #[.int .i64 q.1, .int .i64 q.2.1, .int .i64 q.2.2.1, .int .i64 q.2.2.2] 24)).alloc (.cells #[] 24)).drew.cell? ⟨lb, lo + ix * 4 + 1, none⟩ = some (.int .i64 q.2.1) := cell_alloc (cell_alloc c1 _) _
          have qe2 : ((wr.alloc (.cells #[.int .i64 q.1, .int .i64 q.2.1, .int .i64 q.2.2.1, .int .i64 q.2.2.2] 24)).alloc (.cells #[] 24)).drew.cell? ⟨lb, lo + ix * 4 + 2, none⟩ = some (.int .i64 q.2.2.1) := cell_alloc (cell_alloc c2 _) _
          have qe3 : ((wr.alloc (.cells #[.int .i64 q.1, .int .i64 q.2.1, .int .i64 q.2.2.1, .int .i64 q.2.2.2] 24)).alloc (.cells #[] 24)).drew.cell? ⟨lb, lo + ix * 4 + 3, none⟩ = some (.int .i64 q.2.2.2) := cell_alloc (cell_alloc c3 _) _
          have HBc := Lib.hid ((((Below.refl wr.heap.size wr).alloc (Nat.le_refl _) (.cells #[.int .i64 q.1, .int .i64 q.2.1, .int .i64 q.2.2.1, .int .i64 q.2.2.2] 24)).alloc (by simp) (.cells #[] 24)).drew)
          have HOc : Hid (((wr.alloc (.cells #[.int .i64 q.1, .int .i64 q.2.1, .int .i64 q.2.2.1, .int .i64 q.2.2.2] 24)).alloc (.cells #[] 24)).drew.ownsRow wr.heap.size 24 4 (.slice (some ⟨wr.heap.size + 1, 0, none⟩) 0 0) ([] : List Quad).length (flat [])) := by
            have := (World.ownsRow_made (base := wr.heap.size) (e := 24) (size := 4) (wr.alloc (.cells #[.int .i64 q.1, .int .i64 q.2.1, .int .i64 q.2.2.1, .int .i64 q.2.2.2] 24)) #[] 0 (by simp) (by decide) rfl).drew
            rw [show (wr.alloc (.cells #[.int .i64 q.1, .int .i64 q.2.1, .int .i64 q.2.2.1, .int .i64 q.2.2.2] 24)).heap.size = wr.heap.size + 1 by simp] at this
            exact this
          have HQLc : Hid (Quads ((wr.alloc (.cells #[.int .i64 q.1, .int .i64 q.2.1, .int .i64 q.2.2.1, .int .i64 q.2.2.2] 24)).alloc (.cells #[] 24)).drew (.slice (some ⟨lb, lo, none⟩) l.length lc) l) := (H.out.below HBc.out (by omega)).quads (by simp; omega)
          have hbc : wr.heap.size ≤ ((wr.alloc (.cells #[.int .i64 q.1, .int .i64 q.2.1, .int .i64 q.2.2.1, .int .i64 q.2.2.2] 24)).alloc (.cells #[] 24)).drew.heap.size := by simp; omega
          have hcc : wr.heap.size < ((wr.alloc (.cells #[.int .i64 q.1, .int .i64 q.2.1, .int .i64 q.2.2.1, .int .i64 q.2.2.2] 24)).alloc (.cells #[] 24)).drew.heap.size := by simp; omega
          have HGc : Hid (∀ x1 : World, ((wr.alloc (.cells #[.int .i64 q.1, .int .i64 q.2.1, .int .i64 q.2.2.1, .int .i64 q.2.2.2] 24)).alloc (.cells #[] 24)).drew.grownBy x1 (Value.ownBlock (.slice (some ⟨wr.heap.size + 1, 0, none⟩) 0 0)) → Below wr.heap.size wr x1 ∧ wr.heap.size < x1.heap.size ∧ QAt x1 wr.heap.size 0 q) := fun x1 hg1 =>
            ⟨below_own_grown HBc.out HOc.out hbc hg1, Nat.lt_of_lt_of_le hcc hg1.size, qat_block (w := ((wr.alloc (.cells #[.int .i64 q.1, .int .i64 q.2.1, .int .i64 q.2.2.1, .int .i64 q.2.2.2] 24)).alloc (.cells #[] 24)).drew) (((QAt_new wr q 24).below (((Below.refl (wr.heap.size + 1) (wr.alloc (.cells #[.int .i64 q.1, .int .i64 q.2.1, .int .i64 q.2.2.1, .int .i64 q.2.2.2] 24))).alloc (by simp) (.cells #[] 24)).drew) (Nat.lt_succ_self _))) (hg1.block wr.heap.size hcc (by simp [Value.ownBlock]))⟩
          have hl1 : ([] : List Quad).length + l.length ≤ 1099511627776 := by simp; omega
          have hl2 : l.length + [q].length ≤ 1099511627776 := by simp; omega
          have hw2 : wr.heap.size + 2 ≤ ((wr.alloc (.cells #[] 24)).alloc (.cells #[.int .i64 q.1, .int .i64 q.2.1, .int .i64 q.2.2.1, .int .i64 q.2.2.2] 24)).drew.heap.size := by simp
          have hb1 : wr.heap.size ≤ ((wr.alloc (.cells #[] 24)).alloc (.cells #[.int .i64 q.1, .int .i64 q.2.1, .int .i64 q.2.2.1, .int .i64 q.2.2.2] 24)).drew.heap.size := by omega
          have hk1 : wr.heap.size + 1 < ((wr.alloc (.cells #[] 24)).alloc (.cells #[.int .i64 q.1, .int .i64 q.2.1, .int .i64 q.2.2.1, .int .i64 q.2.2.2] 24)).drew.heap.size := by omega
          have hne1 : some (wr.heap.size + 1) ≠ Value.ownBlock (.slice (some ⟨wr.heap.size, 0, none⟩) 0 0) := by simp [Value.ownBlock]
          have HQL : Hid (Quads ((wr.alloc (.cells #[] 24)).alloc (.cells #[.int .i64 q.1, .int .i64 q.2.1, .int .i64 q.2.2.1, .int .i64 q.2.2.2] 24)).drew (.slice (some ⟨lb, lo, none⟩) l.length lc) l) := (H.out.below HB0.out (by omega)).quads (by omega)
          have HG1 : Hid (∀ x1 : World, ((wr.alloc (.cells #[] 24)).alloc (.cells #[.int .i64 q.1, .int .i64 q.2.1, .int .i64 q.2.2.1, .int .i64 q.2.2.2] 24)).drew.grownBy x1 (Value.ownBlock (.slice (some ⟨wr.heap.size, 0, none⟩) 0 0)) → Below wr.heap.size wr x1 ∧ wr.heap.size + 2 ≤ x1.heap.size ∧ QAt x1 (wr.heap.size + 1) 0 q) := fun x1 hg1 =>
            ⟨below_own_grown HB0.out HO0.out hb1 hg1, Nat.le_trans hw2 hg1.size, qat_block HQA.out (hg1.block (wr.heap.size + 1) hk1 hne1)⟩
          have p0 : ((wr.alloc (.cells #[] 24)).alloc (.cells #[.int .i64 q.1, .int .i64 q.2.1, .int .i64 q.2.2.1, .int .i64 q.2.2.2] 24)).drew.cell? ⟨lb, lo + ix * 4, none⟩ = some (.int .i64 q.1) := cell_alloc (cell_alloc c0 _) _
          have p1 : ((wr.alloc (.cells #[] 24)).alloc (.cells #[.int .i64 q.1, .int .i64 q.2.1, .int .i64 q.2.2.1, .int .i64 q.2.2.2] 24)).drew.cell? ⟨lb, lo + ix * 4 + 1, none⟩ = some (.int .i64 q.2.1) := cell_alloc (cell_alloc c1 _) _
          have p2 : ((wr.alloc (.cells #[] 24)).alloc (.cells #[.int .i64 q.1, .int .i64 q.2.1, .int .i64 q.2.2.1, .int .i64 q.2.2.2] 24)).drew.cell? ⟨lb, lo + ix * 4 + 2, none⟩ = some (.int .i64 q.2.2.1) := cell_alloc (cell_alloc c2 _) _
          have p3 : ((wr.alloc (.cells #[] 24)).alloc (.cells #[.int .i64 q.1, .int .i64 q.2.1, .int .i64 q.2.2.1, .int .i64 q.2.2.2] 24)).drew.cell? ⟨lb, lo + ix * 4 + 3, none⟩ = some (.int .i64 q.2.2.2) := cell_alloc (cell_alloc c3 _) _
          go_wp2_with fail
          go_region_held3 (fun w' => w'.cell? ⟨lb, lo + ix * 4, none⟩ = some (.int .i64 q.1) ∧ w'.cell? ⟨lb, lo + ix * 4 + 1, none⟩ = some (.int .i64 q.2.1) ∧ w'.cell? ⟨lb, lo + ix * 4 + 2, none⟩ = some (.int .i64 q.2.2.1) ∧ w'.cell? ⟨lb, lo + ix * 4 + 3, none⟩ = some (.int .i64 q.2.2.2))
            (first | with_reducible exact ⟨d0, d1, d2, d3⟩ | with_reducible exact ⟨n0, n1, n2, n3⟩ | with_reducible exact ⟨m0, m1, m2, m3⟩ | with_reducible exact ⟨p0, p1, p2, p3⟩ | with_reducible exact ⟨pp0, pp1, pp2, pp3⟩ | with_reducible exact ⟨qq0, qq1, qq2, qq3⟩ | with_reducible exact ⟨qe0, qe1, qe2, qe3⟩ | with_reducible exact ⟨r0, r1, r2, r3⟩ | with_reducible exact ⟨t0, t1, t2, t3⟩ | fail)
            (first | (rw [if_pos (by rfl)]; (refine wp_app_quads_g _ (.tmp 55) (.tmp 56) rfl wr.heap.size _ [] _ l HOa.out HQLa.out rfl rfl hl1 hba ?_); intro v1 x1 hown1 hg1; replace hown1 : x1.ownsRow wr.heap.size 24 4 v1 l.length (flat l) := hown1; have HO1 := Lib.hid hown1; have hbel1 := HGa.out x1 hg1; have HB1 := Lib.hid hbel1; have m0 := (hbel1.cell (p := ⟨lb, lo + ix * 4, none⟩) lbr).trans c0; have m1 := (hbel1.cell (p := ⟨lb, lo + ix * 4 + 1, none⟩) lbr).trans c1; have m2 := (hbel1.cell (p := ⟨lb, lo + ix * 4 + 2, none⟩) lbr).trans c2; have m3 := (hbel1.cell (p := ⟨lb, lo + ix * 4 + 3, none⟩) lbr).trans c3; have pp0 := cell_alloc m0 (.cells #[.int .i64 q.1, .int .i64 q.2.1, .int .i64 q.2.2.1, .int .i64 q.2.2.2] 24); have pp1 := cell_alloc m1 (.cells #[.int .i64 q.1, .int .i64 q.2.1, .int .i64 q.2.2.1, .int .i64 q.2.2.2] 24); have pp2 := cell_alloc m2 (.cells #[.int .i64 q.1, .int .i64 q.2.1, .int .i64 q.2.2.1, .int .i64 q.2.2.2] 24); have pp3 := cell_alloc m3 (.cells #[.int .i64 q.1, .int .i64 q.2.1, .int .i64 q.2.2.1, .int .i64 q.2.2.2] 24); have HO1q := Lib.hid (hown1.alloc (.cells #[.int .i64 q.1, .int .i64 q.2.1, .int .i64 q.2.2.1, .int .i64 q.2.2.2] 24)); have HB1q := Lib.hid (hbel1.alloc hbel1.size (.cells #[.int .i64 q.1, .int .i64 q.2.1, .int .i64 q.2.2.1, .int .i64 q.2.2.2] 24)); have HQ1q := Lib.hid (QAt_new x1 q 24); have zq := qbox_lt x1 q; clear hown1 hbel1 hg1) | (rw [if_pos (by rfl)]; (refine wp_app_quads_g _ (.tmp 55) (.tmp 56) rfl wr.heap.size _ [] _ l HO0.out HQL.out rfl rfl hl1 hb1 ?_); intro v1 x1 hown1 hg1; replace hown1 : x1.ownsRow wr.heap.size 24 4 v1 l.length (flat l) := hown1; have G1 := HG1.out x1 hg1; have HO1 := Lib.hid hown1; have hbel1 := G1.1; have HB1 := Lib.hid hbel1; have z1 := G1.2.1; have z1' : wr.heap.size + 1 < x1.heap.size := z1; have HQ1 := Lib.hid G1.2.2; have m0 := (hbel1.cell (p := ⟨lb, lo + ix * 4, none⟩) lbr).trans c0; have m1 := (hbel1.cell (p := ⟨lb, lo + ix * 4 + 1, none⟩) lbr).trans c1; have m2 := (hbel1.cell (p := ⟨lb, lo + ix * 4 + 2, none⟩) lbr).trans c2; have m3 := (hbel1.cell (p := ⟨lb, lo + ix * 4 + 3, none⟩) lbr).trans c3; clear hown1 hbel1 hg1 G1) | (rw [if_pos (by rfl)]; (refine wp_app_quads_g _ (.tmp 57) (.tmp 66) rfl wr.heap.size _ l _ [q] HO1q.out (quads_at (b := x1.heap.size) HQ1q.out zq) rfl rfl hl2 HB1q.out.size ?_); intro v2 x2 hown2 hg2; have hbel2 := below_own_grown HB1q.out HO1q.out HB1q.out.size hg2; have HO2 := Lib.hid hown2; have HB2 := Lib.hid hbel2; have z2 := hbel2.size; have r0 := (hbel2.cell (p := ⟨lb, lo + ix * 4, none⟩) lbr).trans c0; have r1 := (hbel2.cell (p := ⟨lb, lo + ix * 4 + 1, none⟩) lbr).trans c1; have r2 := (hbel2.cell (p := ⟨lb, lo + ix * 4 + 2, none⟩) lbr).trans c2; have r3 := (hbel2.cell (p := ⟨lb, lo + ix * 4 + 3, none⟩) lbr).trans c3; clear hown2 hbel2 hg2) | (rw [if_pos (by rfl)]; (refine wp_app_quads_g _ (.tmp 57) (.tmp 66) rfl wr.heap.size _ l _ [q] HO1.out (quads_at (b := wr.heap.size + 1) HQ1.out z1') rfl rfl hl2 HB1.out.size ?_); intro v2 x2 hown2 hg2; have hbel2 := below_own_grown HB1.out HO1.out HB1.out.size hg2; have HO2 := Lib.hid hown2; have HB2 := Lib.hid hbel2; have z2 := hbel2.size; have r0 := (hbel2.cell (p := ⟨lb, lo + ix * 4, none⟩) lbr).trans c0; have r1 := (hbel2.cell (p := ⟨lb, lo + ix * 4 + 1, none⟩) lbr).trans c1; have r2 := (hbel2.cell (p := ⟨lb, lo + ix * 4 + 2, none⟩) lbr).trans c2; have r3 := (hbel2.cell (p := ⟨lb, lo + ix * 4 + 3, none⟩) lbr).trans c3; clear hown2 hbel2 hg2) | (rw [if_pos (by rfl)]; (refine wp_app_quads_g _ (.tmp 55) (.tmp 56) rfl wr.heap.size _ [] _ l HOc.out HQLc.out rfl rfl hl1 hbc ?_); intro v1 x1 hown1 hg1; replace hown1 : x1.ownsRow wr.heap.size 24 4 v1 l.length (flat l) := hown1; have G1 := HGc.out x1 hg1; have HO1c := Lib.hid hown1; have hbel1 := G1.1; have HB1c := Lib.hid hbel1; have z1c := G1.2.1; have HQ1c := Lib.hid G1.2.2; have m0 := (hbel1.cell (p := ⟨lb, lo + ix * 4, none⟩) lbr).trans c0; have m1 := (hbel1.cell (p := ⟨lb, lo + ix * 4 + 1, none⟩) lbr).trans c1; have m2 := (hbel1.cell (p := ⟨lb, lo + ix * 4 + 2, none⟩) lbr).trans c2; have m3 := (hbel1.cell (p := ⟨lb, lo + ix * 4 + 3, none⟩) lbr).trans c3; clear hown1 hbel1 hg1 G1) | (rw [if_pos (by rfl)]; (refine wp_app_quads_g _ (.tmp 57) (.tmp 66) rfl wr.heap.size _ l _ [q] HO1c.out (quads_at (b := wr.heap.size) HQ1c.out z1c) rfl rfl hl2 HB1c.out.size ?_); intro v2 x2 hown2 hg2; have hbel2 := below_own_grown HB1c.out HO1c.out HB1c.out.size hg2; have HO2 := Lib.hid hown2; have HB2 := Lib.hid hbel2; have z2 := hbel2.size; have r0 := (hbel2.cell (p := ⟨lb, lo + ix * 4, none⟩) lbr).trans c0; have r1 := (hbel2.cell (p := ⟨lb, lo + ix * 4 + 1, none⟩) lbr).trans c1; have r2 := (hbel2.cell (p := ⟨lb, lo + ix * 4 + 2, none⟩) lbr).trans c2; have r3 := (hbel2.cell (p := ⟨lb, lo + ix * 4 + 3, none⟩) lbr).trans c3; clear hown2 hbel2 hg2) | (go_at_call 19; (refine (LabelsValid_any _ (l ++ [q]) _ (ownQ_of_ownsRow HO2.out (Nat.le_refl _)).quads).mono ?_); rintro e w5 ⟨rfl, hb5⟩; have HB5 := Lib.hid (HB2.out.trans (hb5.mono z2)); have t0 := (hb5.cell (p := ⟨lb, lo + ix * 4, none⟩) (Nat.lt_of_lt_of_le lbr z2)).trans r0; have t1 := (hb5.cell (p := ⟨lb, lo + ix * 4 + 1, none⟩) (Nat.lt_of_lt_of_le lbr z2)).trans r1; have t2 := (hb5.cell (p := ⟨lb, lo + ix * 4 + 2, none⟩) (Nat.lt_of_lt_of_le lbr z2)).trans r2; have t3 := (hb5.cell (p := ⟨lb, lo + ix * 4 + 3, none⟩) (Nat.lt_of_lt_of_le lbr z2)).trans r3; clear hb5) | fail)
          all_goals
            rw [decide_eq_false NV.out]
            replace HT := Lib.hid (HT.out.below HB5.out (by omega))
            replace H := Lib.hid (H.out.below HB5.out (by omega))
            have NO2 := Lib.hid (NO.out.below HB5.out (by omega))
            replace B := Lib.hid (B.out.trans (HB5.out.mono (by omega)))
            have s5 := HB5.out.size
            go_wp2_with fail
            refine (LabelsValid_any _ (l.take kk) w5 (HT.out.quads (by omega))).mono ?_
            rintro e w6 ⟨rfl, hb6⟩
            rw [decide_eq_true VT.out]
            have s6 := hb6.size
            go_wp2_with fail
            refine (SettingWeight_any _ _ l (List.replicate l.length (-1)) w6 ((H.out.below hb6 (by omega)).quads (by omega)) (NO2.out.below hb6 (by omega)).ints).mono ?_
            rintro e w7 ⟨rfl, hb7⟩
            rw [NW.out]
            replace B := Lib.hid (B.out.trans ((hb6.trans (hb7.mono (by omega))).mono (by omega)))
            clear hb6 hb7
            go_wp2
            go_ret
            exact ⟨rfl, B.out⟩
        · have l0 : l.length = 0 := by omega
          have ln : ¬ (0 : Int) < (l.length : Int) := by omega
          clear l0
          go_wp2_with fail
          go_quiet (fail)
          have HB5 := Lib.hid (below_n (Below.refl wr.heap.size wr) nq)
          obtain ⟨w5, hw5⟩ : ∃ x, x = wr.drewN nq := ⟨_, rfl⟩
          rw [← hw5] at HB5 ⊢
          clear hw5
          replace HT := Lib.hid (HT.out.below HB5.out (by omega))
          replace H := Lib.hid (H.out.below HB5.out (by omega))
          have NO2 := Lib.hid (NO.out.below HB5.out (by omega))
          replace B := Lib.hid (B.out.trans (HB5.out.mono (by omega)))
          have s5 := HB5.out.size
          go_wp2_with fail
          refine (LabelsValid_any _ (l.take kk) w5 (HT.out.quads (by omega))).mono ?_
          rintro e w6 ⟨rfl, hb6⟩
          rw [decide_eq_true VT.out]
          have s6 := hb6.size
          go_wp2_with fail
          refine (SettingWeight_any _ _ l (List.replicate l.length (-1)) w6 ((H.out.below hb6 (by omega)).quads (by omega)) (NO2.out.below hb6 (by omega)).ints).mono ?_
          rintro e w7 ⟨rfl, hb7⟩
          rw [NW.out]
          replace B := Lib.hid (B.out.trans ((hb6.trans (hb7.mono (by omega))).mono (by omega)))
          clear hb6 hb7
          go_wp2
          go_ret
          exact ⟨rfl, B.out⟩
  · rw [decide_eq_false hv]
    clear hv
    go_wp2
    go_ret
    exact ⟨rfl, B.out⟩
end Go.Proofs.Ytbpcjdhbbighgaa
namespace Go.Proofs.Ytbpcjdhbbighgaa.fnLabels
open Go.ChangeShapes Go.WideShapes Go.ChangeAt Go.RowKit
set_option linter.unusedVariables false

theorem own : ownKnob Try.prog.godebug = none := by kernel_rfl
theorem laidOut : laidOutB Try.prog = true := fact_laid
set_option maxRecDepth 100000 in
theorem lifted (os : Os) (started : os.Started) (H : Type) (enc : TypeId × Value → H) :
    ReturnsInHanded {} Try.checked os 4 .any (Rows.fnLabelsSpec.pre6 enc Try.prog Try.f4 Rows.fnLabelsRow.domain false) (Rows.fnLabelsSpec.post enc Try.prog Try.f4 false true false false) := by
  refine returnsInHanded_of_change (C := Try.checked) own started (by kernel_rfl) Try.func4
    (ChangeSpec.witness6 (enc := enc) (C := Try.checked) false ⟨#[], #[.slice none 0 0, .slice none 0 0], []⟩ 8 (by kernel_rfl) (by kernel_rfl) (by kernel_rfl) (by kernel_rfl)) ?_
  intro W base args ds gs before hval0 hW hcnd _
  have hval : ∀ (j : Nat) t v, Try.f4.params[j]? = some t → args[j]? = some v → Value.okWide Try.prog W .any base t v := hval0
  have hW' := hW
  obtain ⟨p, q, hA0, hV, rfl, hfz, hnd⟩ := hW
  have hA : DataW.TrodAll enc Try.prog W 0 (fun _ => true) true Try.f4.params.toList args.toList ds p := hA0
  rw [Try.params4] at hA hval
  obtain ⟨v0, vs0, d0, ds0, p0, q0, hargs, rfl, rfl, h0, r0⟩ := trodAll_cons hA
  obtain ⟨v1, vs1, d1, ds1, p1, q1, rfl, rfl, rfl, h1, r1⟩ := trodAll_cons r0
  obtain ⟨rfl, rfl, rfl⟩ := trodAll_nil r1
  obtain rfl : args = #[v0, v1] := by cases args; simp_all
  obtain ⟨rfl, rfl⟩ := trodVars_none hV
  obtain ⟨a0, len0, cap0, rfl⟩ := okWide_slice Try.underlying22 (hval 0 22 v0 rfl rfl)
  have k0 := h0
  have lt0 : ∀ x ∈ p0, x.block < W.heap.size := by obtain ⟨m, hm⟩ := k0; exact DataW.trod_lt m _ _ _ hm
  obtain ⟨z0, w0⟩ : ∃ zs, Bytes W (.slice a0 len0 cap0) zs := bytes_opened h0
  obtain ⟨a1, len1, cap1, rfl⟩ := okWide_slice Try.underlying22 (hval 1 22 v1 rfl rfl)
  have k1 := h1
  have lt1 : ∀ x ∈ p1, x.block < W.heap.size := by obtain ⟨m, hm⟩ := k1; exact DataW.trod_lt m _ _ _ hm
  obtain ⟨z1, w1⟩ : ∃ zs, Bytes W (.slice a1 len1 cap1) zs := bytes_opened h1
  clear hA0 hval0
  refine (FnLabels_walk _ z0 _ z1 W w0 w1).mono fun e W' ⟨he, bel⟩ => ?_
  subst he
  exact ⟨_, rfl, _, _, _, [], _, [], hW', trodAll_mk1 (shut_bool Try.underlying4 _), (trodAll_cons_mk (Below.trod laidOut (by kernel_rfl) (of_decide_eq_true (by kernel_rfl)) k0 bel lt0) (trodAll_cons_mk (Below.trod laidOut (by kernel_rfl) (of_decide_eq_true (by kernel_rfl)) k1 bel lt1) trodAll_mk0)), rfl, bel.frame _, fun h => by cases h⟩
theorem fact_inPlace : (Rows.fnLabelsRow.inPlace == Try.prog.inPlace 4) = true := by kernel_rfl
theorem fact_unfollowed : (Rows.fnLabelsRow.unfollowed == Try.prog.unfollowed 4) = true := by kernel_rfl
theorem fact_recurses : (Rows.fnLabelsRow.recurses == Try.prog.recurses 4) = true := by kernel_rfl
theorem fact_named : (Rows.fnLabelsRow.named == Try.prog.varsNamed 4) = true := by kernel_rfl
theorem fact_plain : (Rows.fnLabelsRow.plainKeys == Try.prog.plainKeys) = true := by kernel_rfl
theorem joined : joinedFacts Try.pinned.checked.prog 4 Try.f4 Rows.fnLabelsSpec Rows.fnLabelsRow = true :=
  joined_of (f := 4) (fn := Try.f4) (s := Rows.fnLabelsSpec) (c := Rows.fnLabelsRow) (by kernel_rfl) (by kernel_rfl) (by kernel_rfl) (by kernel_rfl) (by kernel_rfl) fact_inPlace fact_unfollowed fact_recurses fact_named (by kernel_rfl) (by kernel_rfl) (by kernel_rfl) (by kernel_rfl) (by kernel_rfl) (by kernel_rfl) (by kernel_rfl) (by kernel_rfl) (by kernel_rfl) fact_plain (by kernel_rfl) rfl rfl (by kernel_rfl) (by kernel_rfl) (by kernel_rfl) (by kernel_rfl)

/-- the statement -/
theorem proved : Rows.FnLabelsSaid :=
  OpenClaim.holds_of_wide 4 Try.f4 rfl rfl rfl rfl rfl rfl rfl ⟨rfl, rfl, rfl, rfl, rfl⟩ rfl rfl rfl rfl rfl (by kernel_rfl) Try.func4 joined
    (of_decide_eq_true (by kernel_rfl)) (by unfold Func.isWrapper; first | (rw [if_pos (by decide +kernel)]; kernel_rfl) | (rw [if_neg (by decide +kernel)]; exact ⟨rfl, rfl⟩))
    (fun os started H enc _ => lifted os started H enc)
#print axioms proved
end Go.Proofs.Ytbpcjdhbbighgaa.fnLabels
