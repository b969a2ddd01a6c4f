/-
  Walk of the statements' own function eq.
-/
import Derived.Test.YtbgeijdfkdfdoaaDirI
namespace Go.Proofs.Ytbgeijdfkdfdoaa
open Go.RowKit

def EqEnd (la lb : List DEnt) (w : World) (e : Ending) (w' : World) : Prop := ∃ r : Bool, e = .returned (.bool r) ∧ (r = true ↔ la = lb) ∧ Below w.heap.size w w'

def EqJ (la lb : List DEnt) (w w' : World) (k : Nat) : Prop := k ≤ la.length ∧ la.take k = lb.take k ∧ Below w.heap.size w w'

/-- The two entries' cells. -/
def Cells8 (b off b2 off2 k : Nat) (e d : DEnt) (w : World) : Prop :=
  (w.cell? ⟨b, off + k * 4, none⟩ = some (.string (bs e.name)) ∧ w.cell? ⟨b, off + k * 4 + 1, none⟩ = some (.int .i64 e.len) ∧ w.cell? ⟨b, off + k * 4 + 2, none⟩ = some (.int .i64 e.pos) ∧ w.cell? ⟨b, off + k * 4 + 3, none⟩ = some (.int .i64 e.sp)) ∧
  w.cell? ⟨b2, off2 + k * 4, none⟩ = some (.string (bs d.name)) ∧ w.cell? ⟨b2, off2 + k * 4 + 1, none⟩ = some (.int .i64 d.len) ∧ w.cell? ⟨b2, off2 + k * 4 + 2, none⟩ = some (.int .i64 d.pos) ∧ w.cell? ⟨b2, off2 + k * 4 + 3, none⟩ = some (.int .i64 d.sp)


set_option maxRecDepth 100000 in
set_option maxHeartbeats 4000000 in
theorem eq_any (va vb : Value) (la lb : List DEnt) (w : World) (ha : IsEnts w va la) (hb : IsEnts w vb lb) : Calls Try.prog 33 #[va, vb] w (EqEnd la lb w) := by
  have HA := Lib.hid ha
  have HB := Lib.hid hb
  obtain ⟨a, cap, rfl, h1, h2, _⟩ := ha
  obtain ⟨a2, cap2, rfl, h3, h4, _⟩ := hb
  unfold maxLen at h2 h4
  by_cases hlen : la.length = lb.length
  · rw [← hlen] at h3 ⊢
    have HL := Lib.hid hlen
    clear hlen
    go_enter Try.func33, Try.ntmps33
    go_wp2_with fail
    refine wp_loop_r (fun a' w' => ∃ (k : Nat), a' = { tmps := #[.slice a la.length cap, .slice a2 la.length cap2, slot a' 2, slot a' 3, slot a' 4, .int .i64 k, slot a' 6, slot a' 7, slot a' 8, slot a' 9, slot a' 10, slot a' 11, slot a' 12, slot a' 13, slot a' 14, slot a' 15, slot a' 16, slot a' 17, slot a' 18, slot a' 19, slot a' 20, slot a' 21, slot a' 22, slot a' 23, slot a' 24, slot a' 25, slot a' 26, slot a' 27, slot a' 28, slot a' 29, slot a' 30, slot a' 31, slot a' 32, slot a' 33, slot a' 34, slot a' 35, slot a' 36, slot a' 37, slot a' 38, slot a' 39, slot a' 40, slot a' 41, slot a' 42, slot a' 43, slot a' 44, slot a' 45, slot a' 46, slot a' 47, slot a' 48, slot a' 49, slot a' 50, slot a' 51, slot a' 52, slot a' 53, slot a' 54, slot a' 55, slot a' 56, slot a' 57, slot a' 58, slot a' 59, slot a' 60, slot a' 61, slot a' 62, slot a' 63, slot a' 64, slot a' 65, slot a' 66, slot a' 67, slot a' 68, slot a' 69, slot a' 70], defers := [] } ∧ EqJ la lb w w' k) (fun a' _ => (la.length - (intOf (a'.tmps.getD 5 undef)).toNat)) ?_ ?_
    · exact ⟨0, rfl, by omega, rfl, Below.refl _ _⟩
    · skip
      rintro R a' w1 ⟨k, hfr, hJ⟩ HR
      obtain ⟨f, hf⟩ : ∃ f, f = slot a' := ⟨_, rfl⟩
      rw [← hf] at hfr
      clear hf
      subst hfr
      obtain ⟨hk, htk, hb⟩ := hJ
      have HT := Lib.hid htk
      clear htk
      by_cases hkl : k < la.length
      · obtain ⟨e, he⟩ : ∃ e, la[k]? = some e := ⟨_, List.getElem?_eq_getElem hkl⟩
        obtain ⟨d, hd⟩ : ∃ d, lb[k]? = some d := ⟨_, List.getElem?_eq_getElem (by have := HL.out; omega)⟩
        obtain ⟨a', cap', hv, _, _, hcells⟩ := HA.out.below (hb.mono (Nat.le_refl _))
        obtain ⟨a2', cap2', hv2, _, _, hcells2⟩ := HB.out.below (hb.mono (Nat.le_refl _))
        injection hv with e1 e2 e3
        injection hv2 with e4 e5 e6
        subst e1 e3 e4 e6
        obtain ⟨hok, b, off, rfl, c0, c1, c2, c3⟩ := hcells k e he
        obtain ⟨hok2, b2, off2, rfl, c4, c5, c6, c7⟩ := hcells2 k d hd
        have HE := Lib.hid he
        have HD := Lib.hid hd
        have cc : Cells8 b off b2 off2 k e d w1.drew := ⟨⟨c0, c1, c2, c3⟩, c4, c5, c6, c7⟩
        have CC := Lib.hid cc
        clear hcells hcells2 e2 e5 he hd hok hok2 c0 c1 c2 c3 c4 c5 c6 c7 cc
        by_cases q0 : e.name = d.name
        · have f1 : ((bs e.name).toList == (bs d.name).toList) = true := by rw [q0]; exact beq_self_eq_true _
          have Q0 := Lib.hid q0
          clear q0
          by_cases q1 : e.len = d.len
          · have f2 := ine_false q1
            have Q1 := Lib.hid q1
            clear q1
            by_cases q2 : e.pos = d.pos
            · have f3 := ine_false q2
              have Q2 := Lib.hid q2
              clear q2
              by_cases q3 : e.sp = d.sp
              · have f4 := ine_false q3
                have Q3 := Lib.hid q3
                clear q3
                go_wp2_with fail
                refine wp_region_seq (Cells8 b off b2 off2 k e d) [(0, true), (1, true), (2, true), (3, true), (4, true), (5, true), (6, true), (7, true), (8, true), (9, true),
                      (10, true), (11, true), (12, true), (13, true), (14, true), (15, true), (16, true), (17, true), (18, true),
                      (19, true), (20, true), (21, true), (22, true), (23, true), (24, true), (25, true), (26, true), (27, true),
                      (28, true), (29, true), (30, true), (31, true), (32, true), (33, true), (34, true), (35, true), (36, true),
                      (37, true), (38, true), (39, true), (40, true), (41, true), (42, true), (43, true), (44, true), (45, true),
                      (46, true), (47, true), (48, true), (49, true), (50, true), (51, true), (52, true), (53, true)] (by kernel_rfl) (by kernel_rfl) ?_ ?_
                · exact CC.out
                iterate 54 (first | (apply seg_skip rfl rfl; simp only [Act.put, List.setIfInBounds_toArray, List.set_cons_succ, List.set_cons_zero]) | (apply seg_pure rfl rfl rfl; · (rintro w' ⟨⟨t0, t1, t2, t3⟩, t4, t5, t6, t7⟩; go_wp2; exact ⟨rfl, rfl, rfl⟩)))
                refine seg_nil ?_
                refine NoPanic.normal ?_
                go_wp2_with fail
                refine HR.out _ _ ⟨k + 1, rfl, by omega, ?_, hb.drew⟩ ?_
                · rw [List.take_add_one, List.take_add_one, HT.out, HE.out, HD.out]
                  obtain ⟨x0, x1, x2, x3⟩ := e
                  obtain ⟨y0, y1, y2, y3⟩ := d
                  have g0 := Q0.out
                  have g1 := Q1.out
                  have g2 := Q2.out
                  have g3 := Q3.out
                  simp only at g0 g1 g2 g3
                  rw [g0, g1, g2, g3]
                · simp [intOf]
                  omega
              · have f4 := ine_true q3
                have HX := Lib.hid (show e.sp ≠ d.sp from q3)
                clear q3
                go_wp2_with fail
                refine wp_region_seq (Cells8 b off b2 off2 k e d) [(0, true), (1, true), (2, true), (3, true), (4, true), (5, true), (6, true), (7, true), (8, true), (9, true),
                      (10, true), (11, true), (12, true), (13, true), (14, true), (15, true), (16, true), (17, true), (18, true),
                      (19, true), (20, true), (21, true), (22, true), (23, true), (24, true), (25, true), (26, true), (27, true),
                      (28, true), (29, true), (30, true), (31, true), (32, true), (33, true), (34, true), (35, true), (36, true),
                      (37, true), (38, true), (39, true), (40, true), (41, true), (42, true), (43, true), (44, true), (45, true),
                      (46, true), (47, true), (48, true), (49, true), (50, true), (51, true), (52, true), (53, true)] (by kernel_rfl) (by kernel_rfl) ?_ ?_
                · exact CC.out
                iterate 54 (first | (apply seg_skip rfl rfl; simp only [Act.put, List.setIfInBounds_toArray, List.set_cons_succ, List.set_cons_zero]) | (apply seg_pure rfl rfl rfl; · (rintro w' ⟨⟨t0, t1, t2, t3⟩, t4, t5, t6, t7⟩; go_wp2; exact ⟨rfl, rfl, rfl⟩)))
                refine seg_nil ?_
                refine NoPanic.normal ?_
                go_wp2_with fail
                go_ret
                refine ⟨false, rfl, ⟨fun h => (by cases h), fun h => ?_⟩, hb.drew⟩
                have h1 := HE.out
                rw [h, HD.out] at h1
                injection h1 with h1
                exact (HX.out (by rw [h1])).elim
            · have f3 := ine_true q2
              have HX := Lib.hid (show e.pos ≠ d.pos from q2)
              clear q2
              go_wp2_with fail
              refine wp_region_seq (Cells8 b off b2 off2 k e d) [(0, true), (1, true), (2, true), (3, true), (4, true), (5, true), (6, true), (7, true), (8, true), (9, true),
                    (10, true), (11, true), (12, true), (13, true), (14, true), (15, true), (16, true), (17, true), (18, true),
                    (19, true), (20, true), (21, true), (22, true), (23, true), (24, true), (25, true), (26, true), (27, true),
                    (28, true), (29, true), (30, true), (31, true), (32, true), (33, true), (34, true), (35, true), (36, true),
                    (37, true), (38, true), (39, true), (40, true), (41, true), (42, true), (43, true), (44, true), (45, true),
                    (46, true), (47, true), (48, true), (49, true), (50, true), (51, true), (52, true), (53, true)] (by kernel_rfl) (by kernel_rfl) ?_ ?_
              · exact CC.out
              iterate 54 (first | (apply seg_skip rfl rfl; simp only [Act.put, List.setIfInBounds_toArray, List.set_cons_succ, List.set_cons_zero]) | (apply seg_pure rfl rfl rfl; · (rintro w' ⟨⟨t0, t1, t2, t3⟩, t4, t5, t6, t7⟩; go_wp2; exact ⟨rfl, rfl, rfl⟩)))
              refine seg_nil ?_
              refine NoPanic.normal ?_
              go_wp2_with fail
              go_ret
              refine ⟨false, rfl, ⟨fun h => (by cases h), fun h => ?_⟩, hb.drew⟩
              have h1 := HE.out
              rw [h, HD.out] at h1
              injection h1 with h1
              exact (HX.out (by rw [h1])).elim
          · have f2 := ine_true q1
            have HX := Lib.hid (show e.len ≠ d.len from q1)
            clear q1
            go_wp2_with fail
            refine wp_region_seq (Cells8 b off b2 off2 k e d) [(0, true), (1, true), (2, true), (3, true), (4, true), (5, true), (6, true), (7, true), (8, true), (9, true),
                  (10, true), (11, true), (12, true), (13, true), (14, true), (15, true), (16, true), (17, true), (18, true),
                  (19, true), (20, true), (21, true), (22, true), (23, true), (24, true), (25, true), (26, true), (27, true),
                  (28, true), (29, true), (30, true), (31, true), (32, true), (33, true), (34, true), (35, true), (36, true),
                  (37, true), (38, true), (39, true), (40, true), (41, true), (42, true), (43, true), (44, true), (45, true),
                  (46, true), (47, true), (48, true), (49, true), (50, true), (51, true), (52, true), (53, true)] (by kernel_rfl) (by kernel_rfl) ?_ ?_
            · exact CC.out
            iterate 54 (first | (apply seg_skip rfl rfl; simp only [Act.put, List.setIfInBounds_toArray, List.set_cons_succ, List.set_cons_zero]) | (apply seg_pure rfl rfl rfl; · (rintro w' ⟨⟨t0, t1, t2, t3⟩, t4, t5, t6, t7⟩; go_wp2; exact ⟨rfl, rfl, rfl⟩)))
            refine seg_nil ?_
            refine NoPanic.normal ?_
            go_wp2_with fail
            go_ret
            refine ⟨false, rfl, ⟨fun h => (by cases h), fun h => ?_⟩, hb.drew⟩
            have h1 := HE.out
            rw [h, HD.out] at h1
            injection h1 with h1
            exact (HX.out (by rw [h1])).elim
        · have f1 : ((bs e.name).toList == (bs d.name).toList) = false := by
            rw [bs_toList, bs_toList]
            exact beq_eq_false_iff_ne.2 q0
          have HX := Lib.hid (show e.name ≠ d.name from q0)
          clear q0
          go_wp2_with fail
          refine wp_region_seq (Cells8 b off b2 off2 k e d) [(0, true), (1, true), (2, true), (3, true), (4, true), (5, true), (6, true), (7, true), (8, true), (9, true),
                (10, true), (11, true), (12, true), (13, true), (14, true), (15, true), (16, true), (17, true), (18, true),
                (19, true), (20, true), (21, true), (22, true), (23, true), (24, true), (25, true), (26, true), (27, true),
                (28, true), (29, true), (30, true), (31, true), (32, true), (33, true), (34, true), (35, true), (36, true),
                (37, true), (38, true), (39, true), (40, true), (41, true), (42, true), (43, true), (44, true), (45, true),
                (46, true), (47, true), (48, true), (49, true), (50, true), (51, true), (52, true), (53, true)] (by kernel_rfl) (by kernel_rfl) ?_ ?_
          · exact CC.out
          iterate 54 (first | (apply seg_skip rfl rfl; simp only [Act.put, List.setIfInBounds_toArray, List.set_cons_succ, List.set_cons_zero]) | (apply seg_pure rfl rfl rfl; · (rintro w' ⟨⟨t0, t1, t2, t3⟩, t4, t5, t6, t7⟩; go_wp2; exact ⟨rfl, rfl, rfl⟩)))
          refine seg_nil ?_
          refine NoPanic.normal ?_
          go_wp2_with fail
          go_ret
          refine ⟨false, rfl, ⟨fun h => (by cases h), fun h => ?_⟩, hb.drew⟩
          have h1 := HE.out
          rw [h, HD.out] at h1
          injection h1 with h1
          exact (HX.out (by rw [h1])).elim
      · obtain rfl : k = la.length := by omega
        go_wp2_with fail
        go_ret
        refine ⟨true, rfl, ⟨fun _ => ?_, fun _ => rfl⟩, hb⟩
        have := HT.out
        rw [List.take_length, HL.out, List.take_length] at this
        exact this
  · have f1 : (((la.length : Int)) != ((lb.length : Int))) = true := ine_true (by omega)
    have HL := Lib.hid hlen
    clear hlen
    go_enter Try.func33, Try.ntmps33
    go_wp2_with fail
    go_ret
    exact ⟨false, rfl, ⟨fun h => (by cases h), fun h => absurd (congrArg List.length h) HL.out⟩, Below.refl _ _⟩
end Go.Proofs.Ytbgeijdfkdfdoaa
