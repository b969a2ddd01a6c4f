/-
  Walks of the equalities of values and labels.
-/
import Derived.Test.YtpknafidbmnjpaaStC
namespace Go.Proofs.Ytpknafidbmnjpaa
open Go.RowKit

def EqVEnd {α : Type} (la lb : List α) (w : World) (e : Ending) (w' : World) : Prop := ∃ r : Bool, e = .returned (.bool r) ∧ (r = true ↔ la = lb) ∧ Below w.heap.size w w'
def EqVJ {α : Type} (la lb : List α) (w w' : World) (k : Nat) : Prop := k ≤ la.length ∧ la.take k = lb.take k ∧ Below w.heap.size w w'

def Cells22 (b off b2 off2 k : Nat) (e d : VEnt) (w : World) : Prop :=
  (w.cell? ⟨b, off + k * 2, none⟩ = some (.int .i64 e.kind) ∧ w.cell? ⟨b, off + k * 2 + 1, none⟩ = some (.int .i64 e.n)) ∧
  w.cell? ⟨b2, off2 + k * 2, none⟩ = some (.int .i64 d.kind) ∧ w.cell? ⟨b2, off2 + k * 2 + 1, none⟩ = some (.int .i64 d.n)

def Cells22L (b off b2 off2 k : Nat) (e d : LEnt) (w : World) : Prop :=
  (w.cell? ⟨b, off + k * 2, none⟩ = some (.int .i64 e.pos) ∧ w.cell? ⟨b, off + k * 2 + 1, none⟩ = some (.int .i64 e.height)) ∧
  w.cell? ⟨b2, off2 + k * 2, none⟩ = some (.int .i64 d.pos) ∧ w.cell? ⟨b2, off2 + k * 2 + 1, none⟩ = some (.int .i64 d.height)



set_option maxRecDepth 100000 in
set_option maxHeartbeats 4000000 in
theorem eqVals_any (va vb : Value) (la lb : List VEnt) (w : World) (ha : IsRws 2 encV w va la) (hb : IsRws 2 encV w vb lb) : Calls Try.prog 35 #[va, vb] w (EqVEnd la lb w) := by
  have HA := Lib.hid ha
  have HB := Lib.hid hb
  obtain ⟨a, cap, rfl, h1, h2, _⟩ := ha
  obtain ⟨a2, cap2, rfl, h3, h4, _⟩ := hb
  unfold maxLen at h2 h4
  by_cases hlen : la.length = lb.length
  rotate_left
  · have f1 : (((la.length : Int)) != ((lb.length : Int))) = true := ine_true (by omega)
    have HL := Lib.hid hlen
    clear hlen
    go_enter Try.func35, Try.ntmps35
    go_wp2_with fail
    go_ret
    exact ⟨false, rfl, ⟨fun h => (by cases h), fun h => absurd (congrArg List.length h) HL.out⟩, Below.refl _ _⟩
  rw [← hlen] at h3 ⊢
  have HL := Lib.hid hlen
  clear hlen
  go_enter Try.func35, Try.ntmps35
  go_wp2_with fail
  refine wp_loop_r (fun a' w' => ∃ (k : Nat), a' = { tmps := #[.slice a la.length cap, .slice a2 la.length cap2, slot a' 2, slot a' 3, slot a' 4, .int .i64 k, slot a' 6, slot a' 7, slot a' 8, slot a' 9, slot a' 10, slot a' 11, slot a' 12, slot a' 13, slot a' 14, slot a' 15, slot a' 16, slot a' 17, slot a' 18, slot a' 19, slot a' 20, slot a' 21, slot a' 22, slot a' 23, slot a' 24, slot a' 25, slot a' 26, slot a' 27, slot a' 28, slot a' 29, slot a' 30, slot a' 31, slot a' 32, slot a' 33, slot a' 34, slot a' 35, slot a' 36, slot a' 37, slot a' 38, slot a' 39, slot a' 40], defers := [] } ∧ EqVJ la lb w w' k) (fun a' _ => (la.length - (intOf (a'.tmps.getD 5 undef)).toNat)) ?_ ?_
  · exact ⟨0, rfl, by omega, rfl, Below.refl _ _⟩
  · skip
    rintro R a' w1 ⟨k, hfr, hJ⟩ HR
    obtain ⟨f, hf⟩ : ∃ f, f = slot a' := ⟨_, rfl⟩
    rw [← hf] at hfr
    clear hf
    subst hfr
    obtain ⟨hk, htk, hb⟩ := hJ
    have HT := Lib.hid htk
    clear htk
    by_cases hkl : k < la.length
    rotate_left
    · obtain rfl : k = la.length := by omega
      go_wp2_with fail
      go_ret
      refine ⟨true, rfl, ⟨fun _ => ?_, fun _ => rfl⟩, hb⟩
      have := HT.out
      rw [List.take_length, HL.out, List.take_length] at this
      exact this
    obtain ⟨e, he⟩ : ∃ e, la[k]? = some e := ⟨_, List.getElem?_eq_getElem hkl⟩
    obtain ⟨d, hd⟩ : ∃ d, lb[k]? = some d := ⟨_, List.getElem?_eq_getElem (by have := HL.out; omega)⟩
    obtain ⟨a', cap', hv, _, _, hcells⟩ := HA.out.below (hb.mono (Nat.le_refl _))
    obtain ⟨a2', cap2', hv2, _, _, hcells2⟩ := HB.out.below (hb.mono (Nat.le_refl _))
    injection hv with e1 e2 e3
    injection hv2 with e4 e5 e6
    subst e1 e3 e4 e6
    obtain ⟨b, off, rfl, hlt, hc⟩ := hcells k e he
    obtain ⟨b2, off2, rfl, hlt2, hc2⟩ := hcells2 k d hd
    have c0 := hc 0 _ rfl
    have c1 := hc 1 _ rfl
    have c2 := hc2 0 _ rfl
    have c3 := hc2 1 _ rfl
    rw [Nat.add_zero] at c0 c2
    have HE := Lib.hid he
    have HD := Lib.hid hd
    have cc : Cells22 b off b2 off2 k e d w1.drew := ⟨⟨c0, c1⟩, c2, c3⟩
    have CC := Lib.hid cc
    clear hcells hcells2 e2 e5 he hd hc hc2 c0 c1 c2 c3 cc
    by_cases q1 : e.kind = d.kind
    · have f1 := ine_false q1
      have Q1 := Lib.hid q1
      clear q1
      by_cases q2 : e.n = d.n
      · have f2 := ine_false q2
        have Q2 := Lib.hid q2
        clear q2
        go_wp2_with fail
        refine wp_region_seq (Cells22 b off b2 off2 k e d) [(0, true), (1, true), (2, true), (3, true), (4, true), (5, true), (6, true), (7, true), (8, true), (9, true),
              (10, true), (11, true), (12, true), (13, true), (14, true), (15, true), (16, true), (17, true), (18, true),
              (19, true), (20, true), (21, true), (22, true), (23, true)] (by kernel_rfl) (by kernel_rfl) CC.out ?_
        iterate 24 (first | (apply seg_skip rfl rfl; simp only [Act.put, List.setIfInBounds_toArray, List.set_cons_succ, List.set_cons_zero]) | (apply seg_pure rfl rfl rfl; · (rintro w' ⟨⟨t0, t1⟩, t2, t3⟩; go_wp2; exact ⟨rfl, rfl, rfl⟩)))
        refine seg_nil ?_
        refine NoPanic.normal ?_
        go_wp2_with fail
        refine HR.out _ _ ⟨k + 1, rfl, by omega, ?_, hb.drew⟩ ?_
        · rw [List.take_add_one, List.take_add_one, HT.out, HE.out, HD.out]
          obtain ⟨x0, x1⟩ := e
          obtain ⟨y0, y1⟩ := d
          have g0 := Q1.out
          have g1 := Q2.out
          simp only at g0 g1
          rw [g0, g1]
        · simp [intOf]
          omega
      · have f2 := ine_true q2
        have HX := Lib.hid (show e.n ≠ d.n from q2)
        clear q2
        go_wp2_with fail
        refine wp_region_seq (Cells22 b off b2 off2 k e d) [(0, true), (1, true), (2, true), (3, true), (4, true), (5, true), (6, true), (7, true), (8, true), (9, true),
              (10, true), (11, true), (12, true), (13, true), (14, true), (15, true), (16, true), (17, true), (18, true),
              (19, true), (20, true), (21, true), (22, true), (23, true)] (by kernel_rfl) (by kernel_rfl) CC.out ?_
        iterate 24 (first | (apply seg_skip rfl rfl; simp only [Act.put, List.setIfInBounds_toArray, List.set_cons_succ, List.set_cons_zero]) | (apply seg_pure rfl rfl rfl; · (rintro w' ⟨⟨t0, t1⟩, t2, t3⟩; go_wp2; exact ⟨rfl, rfl, rfl⟩)))
        refine seg_nil ?_
        refine NoPanic.normal ?_
        go_wp2_with fail
        go_ret
        refine ⟨false, rfl, ⟨fun h => (by cases h), fun h => ?_⟩, hb.drew⟩
        have h1 := HE.out
        rw [h, HD.out] at h1
        injection h1 with h1
        exact (HX.out (by rw [h1])).elim
    · have f1 := ine_true q1
      have HX := Lib.hid (show e.kind ≠ d.kind from q1)
      clear q1
      go_wp2_with fail
      refine wp_region_seq (Cells22 b off b2 off2 k e d) [(0, true), (1, true), (2, true), (3, true), (4, true), (5, true), (6, true), (7, true), (8, true), (9, true),
            (10, true), (11, true), (12, true), (13, true), (14, true), (15, true), (16, true), (17, true), (18, true),
            (19, true), (20, true), (21, true), (22, true), (23, true)] (by kernel_rfl) (by kernel_rfl) CC.out ?_
      iterate 24 (first | (apply seg_skip rfl rfl; simp only [Act.put, List.setIfInBounds_toArray, List.set_cons_succ, List.set_cons_zero]) | (apply seg_pure rfl rfl rfl; · (rintro w' ⟨⟨t0, t1⟩, t2, t3⟩; go_wp2; exact ⟨rfl, rfl, rfl⟩)))
      refine seg_nil ?_
      refine NoPanic.normal ?_
      go_wp2_with fail
      go_ret
      refine ⟨false, rfl, ⟨fun h => (by cases h), fun h => ?_⟩, hb.drew⟩
      have h1 := HE.out
      rw [h, HD.out] at h1
      injection h1 with h1
      exact (HX.out (by rw [h1])).elim

set_option maxRecDepth 100000 in
set_option maxHeartbeats 4000000 in
theorem slEqual_any (va vb : Value) (la lb : List VEnt) (w : World) (ha : IsRws 2 encV w va la) (hb : IsRws 2 encV w vb lb) : Calls Try.prog 31 #[va, vb] w (EqVEnd la lb w) := by
  have HA := Lib.hid ha
  have HB := Lib.hid hb
  obtain ⟨a, cap, rfl, h1, h2, _⟩ := ha
  obtain ⟨a2, cap2, rfl, h3, h4, _⟩ := hb
  unfold maxLen at h2 h4
  by_cases hlen : la.length = lb.length
  rotate_left
  · have f1 : (((la.length : Int)) != ((lb.length : Int))) = true := ine_true (by omega)
    have HL := Lib.hid hlen
    clear hlen
    go_enter Try.func31, Try.ntmps31
    go_wp2_with fail
    go_ret
    exact ⟨false, rfl, ⟨fun h => (by cases h), fun h => absurd (congrArg List.length h) HL.out⟩, Below.refl _ _⟩
  rw [← hlen] at h3 ⊢
  have HL := Lib.hid hlen
  clear hlen
  go_enter Try.func31, Try.ntmps31
  go_wp2_with fail
  refine wp_loop_r (fun a' w' => ∃ (k : Nat), a' = { tmps := #[.slice a la.length cap, .slice a2 la.length cap2, slot a' 2, slot a' 3, slot a' 4, slot a' 5, slot a' 6, slot a' 7, slot a' 8, slot a' 9, slot a' 10, slot a' 11, .int .i64 la.length, .int .i64 k, slot a' 14, slot a' 15, slot a' 16, slot a' 17, slot a' 18, slot a' 19, slot a' 20, slot a' 21, slot a' 22, slot a' 23, slot a' 24, slot a' 25], defers := [] } ∧ EqVJ la lb w w' k) (fun a' _ => (la.length - (intOf (a'.tmps.getD 13 undef)).toNat)) ?_ ?_
  · exact ⟨0, rfl, by omega, rfl, Below.refl _ _⟩
  · skip
    rintro R a' w1 ⟨k, hfr, hJ⟩ HR
    obtain ⟨f, hf⟩ : ∃ f, f = slot a' := ⟨_, rfl⟩
    rw [← hf] at hfr
    clear hf
    subst hfr
    obtain ⟨hk, htk, hb⟩ := hJ
    have HT := Lib.hid htk
    clear htk
    by_cases hkl : k < la.length
    rotate_left
    · obtain rfl : k = la.length := by omega
      go_wp2_with fail
      go_ret
      refine ⟨true, rfl, ⟨fun _ => ?_, fun _ => rfl⟩, hb⟩
      have := HT.out
      rw [List.take_length, HL.out, List.take_length] at this
      exact this
    obtain ⟨e, he⟩ : ∃ e, la[k]? = some e := ⟨_, List.getElem?_eq_getElem hkl⟩
    obtain ⟨d, hd⟩ : ∃ d, lb[k]? = some d := ⟨_, List.getElem?_eq_getElem (by have := HL.out; omega)⟩
    obtain ⟨a', cap', hv, _, _, hcells⟩ := HA.out.below (hb.mono (Nat.le_refl _))
    obtain ⟨a2', cap2', hv2, _, _, hcells2⟩ := HB.out.below (hb.mono (Nat.le_refl _))
    injection hv with e1 e2 e3
    injection hv2 with e4 e5 e6
    subst e1 e3 e4 e6
    obtain ⟨b, off, rfl, hlt, hc⟩ := hcells k e he
    obtain ⟨b2, off2, rfl, hlt2, hc2⟩ := hcells2 k d hd
    have c0 := hc 0 _ rfl
    have c1 := hc 1 _ rfl
    have c2 := hc2 0 _ rfl
    have c3 := hc2 1 _ rfl
    rw [Nat.add_zero] at c0 c2
    have HE := Lib.hid he
    have HD := Lib.hid hd
    have cc : Cells22 b off b2 off2 k e d w1.drew := ⟨⟨c0, c1⟩, c2, c3⟩
    have CC := Lib.hid cc
    clear hcells hcells2 e2 e5 he hd hc hc2 c0 c1 c2 c3 cc
    by_cases q1 : e.kind = d.kind
    · have f1 := ieq_true q1
      have Q1 := Lib.hid q1
      clear q1
      by_cases q2 : e.n = d.n
      · have f2 := ieq_true q2
        have Q2 := Lib.hid q2
        clear q2
        go_wp2_with fail
        refine wp_region_seq (Cells22 b off b2 off2 k e d) [(0, true), (1, true), (2, true), (3, true), (4, true), (5, true), (6, true), (7, true), (8, true)] (by kernel_rfl) (by kernel_rfl) CC.out ?_
        iterate 8 (first | (apply seg_skip rfl rfl; simp only [Act.put, List.setIfInBounds_toArray, List.set_cons_succ, List.set_cons_zero]) | (apply seg_pure rfl rfl rfl; · (rintro w' ⟨⟨t0, t1⟩, t2, t3⟩; go_wp2; exact ⟨rfl, rfl, rfl⟩)))
        iterate 1 (first | (apply seg_skip rfl rfl; simp only [Act.put, List.setIfInBounds_toArray, List.set_cons_succ, List.set_cons_zero]) | (apply seg_pure rfl rfl rfl; · (rintro w' ⟨⟨t0, t1⟩, t2, t3⟩; go_wp2; exact ⟨rfl, rfl, rfl⟩)))
        refine seg_nil ?_
        refine NoPanic.normal ?_
        go_wp2_with fail
        refine HR.out _ _ ⟨k + 1, rfl, by omega, ?_, hb.drew⟩ ?_
        · rw [List.take_add_one, List.take_add_one, HT.out, HE.out, HD.out]
          obtain ⟨x0, x1⟩ := e
          obtain ⟨y0, y1⟩ := d
          have g0 := Q1.out
          have g1 := Q2.out
          simp only at g0 g1
          rw [g0, g1]
        · simp [intOf]
          omega
      · have f2 := ieq_false q2
        have HX := Lib.hid (show e.n ≠ d.n from q2)
        clear q2
        go_wp2_with fail
        refine wp_region_seq (Cells22 b off b2 off2 k e d) [(0, true), (1, true), (2, true), (3, true), (4, true), (5, true), (6, true), (7, true), (8, true)] (by kernel_rfl) (by kernel_rfl) CC.out ?_
        iterate 8 (first | (apply seg_skip rfl rfl; simp only [Act.put, List.setIfInBounds_toArray, List.set_cons_succ, List.set_cons_zero]) | (apply seg_pure rfl rfl rfl; · (rintro w' ⟨⟨t0, t1⟩, t2, t3⟩; go_wp2; exact ⟨rfl, rfl, rfl⟩)))
        iterate 1 (first | (apply seg_skip rfl rfl; simp only [Act.put, List.setIfInBounds_toArray, List.set_cons_succ, List.set_cons_zero]) | (apply seg_pure rfl rfl rfl; · (rintro w' ⟨⟨t0, t1⟩, t2, t3⟩; go_wp2; exact ⟨rfl, rfl, rfl⟩)))
        refine seg_nil ?_
        refine NoPanic.normal ?_
        go_wp2_with fail
        go_ret
        refine ⟨false, rfl, ⟨fun h => (by cases h), fun h => ?_⟩, hb.drew⟩
        have h1 := HE.out
        rw [h, HD.out] at h1
        injection h1 with h1
        exact (HX.out (by rw [h1])).elim
    · have f1 := ieq_false q1
      have HX := Lib.hid (show e.kind ≠ d.kind from q1)
      clear q1
      go_wp2_with fail
      refine wp_region_seq (Cells22 b off b2 off2 k e d) [(0, true), (1, true), (2, true), (3, true), (4, true), (5, true), (6, true), (7, true), (8, true)] (by kernel_rfl) (by kernel_rfl) CC.out ?_
      iterate 8 (first | (apply seg_skip rfl rfl; simp only [Act.put, List.setIfInBounds_toArray, List.set_cons_succ, List.set_cons_zero]) | (apply seg_pure rfl rfl rfl; · (rintro w' ⟨⟨t0, t1⟩, t2, t3⟩; go_wp2; exact ⟨rfl, rfl, rfl⟩)))
      iterate 1 (first | (apply seg_skip rfl rfl; simp only [Act.put, List.setIfInBounds_toArray, List.set_cons_succ, List.set_cons_zero]) | (apply seg_pure rfl rfl rfl; · (rintro w' ⟨⟨t0, t1⟩, t2, t3⟩; go_wp2; exact ⟨rfl, rfl, rfl⟩)))
      refine seg_nil ?_
      refine NoPanic.normal ?_
      go_wp2_with fail
      go_ret
      refine ⟨false, rfl, ⟨fun h => (by cases h), fun h => ?_⟩, hb.drew⟩
      have h1 := HE.out
      rw [h, HD.out] at h1
      injection h1 with h1
      exact (HX.out (by rw [h1])).elim

set_option maxRecDepth 100000 in
set_option maxHeartbeats 4000000 in
theorem slEqualL_any (va vb : Value) (la lb : List LEnt) (w : World) (ha : IsRws 2 encL w va la) (hb : IsRws 2 encL w vb lb) : Calls Try.prog 34 #[va, vb] w (EqVEnd la lb w) := by
  have HA := Lib.hid ha
  have HB := Lib.hid hb
  obtain ⟨a, cap, rfl, h1, h2, _⟩ := ha
  obtain ⟨a2, cap2, rfl, h3, h4, _⟩ := hb
  unfold maxLen at h2 h4
  by_cases hlen : la.length = lb.length
  rotate_left
  · have f1 : (((la.length : Int)) != ((lb.length : Int))) = true := ine_true (by omega)
    have HL := Lib.hid hlen
    clear hlen
    go_enter Try.func34, Try.ntmps34
    go_wp2_with fail
    go_ret
    exact ⟨false, rfl, ⟨fun h => (by cases h), fun h => absurd (congrArg List.length h) HL.out⟩, Below.refl _ _⟩
  rw [← hlen] at h3 ⊢
  have HL := Lib.hid hlen
  clear hlen
  go_enter Try.func34, Try.ntmps34
  go_wp2_with fail
  refine wp_loop_r (fun a' w' => ∃ (k : Nat), a' = { tmps := #[.slice a la.length cap, .slice a2 la.length cap2, slot a' 2, slot a' 3, slot a' 4, slot a' 5, slot a' 6, slot a' 7, slot a' 8, slot a' 9, slot a' 10, slot a' 11, .int .i64 la.length, .int .i64 k, slot a' 14, slot a' 15, slot a' 16, slot a' 17, slot a' 18, slot a' 19, slot a' 20, slot a' 21, slot a' 22, slot a' 23, slot a' 24, slot a' 25], defers := [] } ∧ EqVJ la lb w w' k) (fun a' _ => (la.length - (intOf (a'.tmps.getD 13 undef)).toNat)) ?_ ?_
  · exact ⟨0, rfl, by omega, rfl, Below.refl _ _⟩
  · skip
    rintro R a' w1 ⟨k, hfr, hJ⟩ HR
    obtain ⟨f, hf⟩ : ∃ f, f = slot a' := ⟨_, rfl⟩
    rw [← hf] at hfr
    clear hf
    subst hfr
    obtain ⟨hk, htk, hb⟩ := hJ
    have HT := Lib.hid htk
    clear htk
    by_cases hkl : k < la.length
    rotate_left
    · obtain rfl : k = la.length := by omega
      go_wp2_with fail
      go_ret
      refine ⟨true, rfl, ⟨fun _ => ?_, fun _ => rfl⟩, hb⟩
      have := HT.out
      rw [List.take_length, HL.out, List.take_length] at this
      exact this
    obtain ⟨e, he⟩ : ∃ e, la[k]? = some e := ⟨_, List.getElem?_eq_getElem hkl⟩
    obtain ⟨d, hd⟩ : ∃ d, lb[k]? = some d := ⟨_, List.getElem?_eq_getElem (by have := HL.out; omega)⟩
    obtain ⟨a', cap', hv, _, _, hcells⟩ := HA.out.below (hb.mono (Nat.le_refl _))
    obtain ⟨a2', cap2', hv2, _, _, hcells2⟩ := HB.out.below (hb.mono (Nat.le_refl _))
    injection hv with e1 e2 e3
    injection hv2 with e4 e5 e6
    subst e1 e3 e4 e6
    obtain ⟨b, off, rfl, hlt, hc⟩ := hcells k e he
    obtain ⟨b2, off2, rfl, hlt2, hc2⟩ := hcells2 k d hd
    have c0 := hc 0 _ rfl
    have c1 := hc 1 _ rfl
    have c2 := hc2 0 _ rfl
    have c3 := hc2 1 _ rfl
    rw [Nat.add_zero] at c0 c2
    have HE := Lib.hid he
    have HD := Lib.hid hd
    have cc : Cells22L b off b2 off2 k e d w1.drew := ⟨⟨c0, c1⟩, c2, c3⟩
    have CC := Lib.hid cc
    clear hcells hcells2 e2 e5 he hd hc hc2 c0 c1 c2 c3 cc
    by_cases q1 : e.pos = d.pos
    · have f1 := ieq_true q1
      have Q1 := Lib.hid q1
      clear q1
      by_cases q2 : e.height = d.height
      · have f2 := ieq_true q2
        have Q2 := Lib.hid q2
        clear q2
        go_wp2_with fail
        refine wp_region_seq (Cells22L b off b2 off2 k e d) [(0, true), (1, true), (2, true), (3, true), (4, true), (5, true), (6, true), (7, true), (8, true)] (by kernel_rfl) (by kernel_rfl) CC.out ?_
        iterate 8 (first | (apply seg_skip rfl rfl; simp only [Act.put, List.setIfInBounds_toArray, List.set_cons_succ, List.set_cons_zero]) | (apply seg_pure rfl rfl rfl; · (rintro w' ⟨⟨t0, t1⟩, t2, t3⟩; go_wp2; exact ⟨rfl, rfl, rfl⟩)))
        iterate 1 (first | (apply seg_skip rfl rfl; simp only [Act.put, List.setIfInBounds_toArray, List.set_cons_succ, List.set_cons_zero]) | (apply seg_pure rfl rfl rfl; · (rintro w' ⟨⟨t0, t1⟩, t2, t3⟩; go_wp2; exact ⟨rfl, rfl, rfl⟩)))
        refine seg_nil ?_
        refine NoPanic.normal ?_
        go_wp2_with fail
        refine HR.out _ _ ⟨k + 1, rfl, by omega, ?_, hb.drew⟩ ?_
        · rw [List.take_add_one, List.take_add_one, HT.out, HE.out, HD.out]
          obtain ⟨x0, x1⟩ := e
          obtain ⟨y0, y1⟩ := d
          have g0 := Q1.out
          have g1 := Q2.out
          simp only at g0 g1
          rw [g0, g1]
        · simp [intOf]
          omega
      · have f2 := ieq_false q2
        have HX := Lib.hid (show e.height ≠ d.height from q2)
        clear q2
        go_wp2_with fail
        refine wp_region_seq (Cells22L b off b2 off2 k e d) [(0, true), (1, true), (2, true), (3, true), (4, true), (5, true), (6, true), (7, true), (8, true)] (by kernel_rfl) (by kernel_rfl) CC.out ?_
        iterate 8 (first | (apply seg_skip rfl rfl; simp only [Act.put, List.setIfInBounds_toArray, List.set_cons_succ, List.set_cons_zero]) | (apply seg_pure rfl rfl rfl; · (rintro w' ⟨⟨t0, t1⟩, t2, t3⟩; go_wp2; exact ⟨rfl, rfl, rfl⟩)))
        iterate 1 (first | (apply seg_skip rfl rfl; simp only [Act.put, List.setIfInBounds_toArray, List.set_cons_succ, List.set_cons_zero]) | (apply seg_pure rfl rfl rfl; · (rintro w' ⟨⟨t0, t1⟩, t2, t3⟩; go_wp2; exact ⟨rfl, rfl, rfl⟩)))
        refine seg_nil ?_
        refine NoPanic.normal ?_
        go_wp2_with fail
        go_ret
        refine ⟨false, rfl, ⟨fun h => (by cases h), fun h => ?_⟩, hb.drew⟩
        have h1 := HE.out
        rw [h, HD.out] at h1
        injection h1 with h1
        exact (HX.out (by rw [h1])).elim
    · have f1 := ieq_false q1
      have HX := Lib.hid (show e.pos ≠ d.pos from q1)
      clear q1
      go_wp2_with fail
      refine wp_region_seq (Cells22L b off b2 off2 k e d) [(0, true), (1, true), (2, true), (3, true), (4, true), (5, true), (6, true), (7, true), (8, true)] (by kernel_rfl) (by kernel_rfl) CC.out ?_
      iterate 8 (first | (apply seg_skip rfl rfl; simp only [Act.put, List.setIfInBounds_toArray, List.set_cons_succ, List.set_cons_zero]) | (apply seg_pure rfl rfl rfl; · (rintro w' ⟨⟨t0, t1⟩, t2, t3⟩; go_wp2; exact ⟨rfl, rfl, rfl⟩)))
      iterate 1 (first | (apply seg_skip rfl rfl; simp only [Act.put, List.setIfInBounds_toArray, List.set_cons_succ, List.set_cons_zero]) | (apply seg_pure rfl rfl rfl; · (rintro w' ⟨⟨t0, t1⟩, t2, t3⟩; go_wp2; exact ⟨rfl, rfl, rfl⟩)))
      refine seg_nil ?_
      refine NoPanic.normal ?_
      go_wp2_with fail
      go_ret
      refine ⟨false, rfl, ⟨fun h => (by cases h), fun h => ?_⟩, hb.drew⟩
      have h1 := HE.out
      rw [h, HD.out] at h1
      injection h1 with h1
      exact (HX.out (by rw [h1])).elim
end Go.Proofs.Ytpknafidbmnjpaa
