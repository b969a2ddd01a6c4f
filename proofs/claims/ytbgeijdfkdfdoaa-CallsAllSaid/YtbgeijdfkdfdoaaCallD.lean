/-
  Walk of the statements' own function may (calls).
-/
import Derived.Test.YtbgeijdfkdfdoaaCallA
namespace Go.Proofs.Ytbgeijdfkdfdoaa
open Go.RowKit

def LmJ (args : List VEnt) (X : Nat) (cs : Array Value) (w w' : World) (k : Nat) : Prop :=
  k ≤ args.length ∧ (∀ i, i < k → ∀ v, args[i]? = some v → v.may) ∧ Blk w' X cs 82 ∧ Below w.heap.size w w'


set_option maxRecDepth 100000 in
set_option maxHeartbeats 8000000 in
theorem lawMayC_any (v : Value) (l : List CEnt) (w : World) (hl : IsCalls w v l) : Calls Try.prog 40 #[v] w (MayCEnd l w) := by
  have HI := Lib.hid hl
  obtain ⟨a, cap, rfl, h1, h2⟩ := hl.slice
  clear hl
  go_enter Try.func40, Try.ntmps40
  go_wp2_with fail
  refine wp_loop_r (fun a' w' => ∃ (k : Nat), a' = { tmps := #[.slice a l.length cap, slot a' 1, slot a' 2, .int .i64 k, slot a' 4, slot a' 5, slot a' 6, slot a' 7, slot a' 8, slot a' 9, slot a' 10, slot a' 11, slot a' 12, slot a' 13, slot a' 14, slot a' 15, slot a' 16, slot a' 17, slot a' 18, slot a' 19, slot a' 20, slot a' 21, slot a' 22, slot a' 23, slot a' 24, slot a' 25, slot a' 26, slot a' 27, slot a' 28, slot a' 29, slot a' 30, slot a' 31, slot a' 32, slot a' 33, slot a' 34, slot a' 35, slot a' 36, slot a' 37, slot a' 38, slot a' 39, slot a' 40, slot a' 41, slot a' 42, slot a' 43, slot a' 44, slot a' 45, slot a' 46, slot a' 47, slot a' 48, slot a' 49, slot a' 50, slot a' 51, slot a' 52, slot a' 53, slot a' 54, slot a' 55, slot a' 56, slot a' 57, slot a' 58, slot a' 59, slot a' 60, slot a' 61, slot a' 62, slot a' 63, slot a' 64, slot a' 65, slot a' 66, slot a' 67, slot a' 68, slot a' 69, slot a' 70, slot a' 71, slot a' 72, slot a' 73, slot a' 74, slot a' 75, slot a' 76, slot a' 77, slot a' 78, slot a' 79, slot a' 80, slot a' 81, slot a' 82, slot a' 83, slot a' 84, slot a' 85, slot a' 86, slot a' 87, slot a' 88, slot a' 89, slot a' 90, slot a' 91, slot a' 92, slot a' 93, slot a' 94, slot a' 95, slot a' 96, slot a' 97, slot a' 98, slot a' 99], defers := [] } ∧ MayCJ l w w' k) (fun a' _ => (l.length - (intOf (a'.tmps.getD 3 undef)).toNat)) ?_ ?_
  · exact ⟨0, rfl, by omega, fun i hi => by omega, Below.refl _ _⟩
  · skip
    rintro R a' w1 ⟨k, hfr, hJ⟩ HR
    obtain ⟨f, hf⟩ : ∃ f, f = slot a' := ⟨_, rfl⟩
    rw [← hf] at hfr
    clear hf
    subst hfr
    obtain ⟨hk, hm, hb⟩ := hJ
    have HMM := Lib.hid hm
    clear hm
    by_cases hkl : k < l.length
    · obtain ⟨c, he⟩ : ∃ e, l[k]? = some e := ⟨_, List.getElem?_eq_getElem hkl⟩
      obtain ⟨d, hd0⟩ : ∃ d, l[k - 1]? = some d := ⟨_, List.getElem?_eq_getElem (by omega)⟩
      have hi := HI.out.below (hb.mono (Nat.le_refl _))
      obtain ⟨b, off, u, rfl, hlt, ⟨c0, c1, c2, c3, c4, c5⟩, hu, hok⟩ := hi.get he
      obtain ⟨b', off', u', hbo, -, ⟨hd, -, -, -, -, -⟩, -, hokd⟩ := hi.get hd0
      injection hbo with hbo
      injection hbo with hbo1 hbo2
      subst hbo1 hbo2
      obtain ⟨o1, o2⟩ := hok.1
      obtain ⟨p1, p2⟩ := hokd.1
      obtain ⟨hs, hhs⟩ : ∃ hs, hs = c.has := ⟨_, rfl⟩
      rw [← hhs] at c4
      have HHS := Lib.hid hhs
      clear hhs
      have HU := Lib.hid hu
      obtain ⟨au, capu, rfl, _, hcu, -⟩ := hu
      unfold maxLen at hcu
      have HE := Lib.hid he
      have HD0 := Lib.hid hd0
      clear he hd0 hi hok hokd
      obtain ⟨j, hj⟩ : ∃ j, j = k - 1 := ⟨_, rfl⟩
      rw [← hj] at hd
      by_cases q1 : c.n < 1
      · have f1 : decide (c.n < 1) = true := decide_eq_true q1
        have HX := Lib.hid (show ¬ (c.may ∧ (∀ d, 0 < k → l[k - 1]? = some d → c.n = d.n + 1) ∧ (k + 1 < l.length → c.has = true)) from (fun h => absurd h.1.1 (by omega)))
        go_wp2_with fail
        refine wp_region_seq (Cells7 b off j w1.heap.size c d (.slice au c.args.length capu) hs) [(0, true), (1, true), (2, true), (3, true), (4, true), (5, true), (6, true), (7, true), (8, true), (9, true), (10, true), (11, true), (12, true), (13, true), (14, true), (15, true), (16, true), (17, true), (18, true), (19, true), (20, true), (21, true), (22, true), (23, true), (24, true), (25, true), (26, true), (27, true), (28, true), (29, true), (30, true), (31, true), (32, true), (33, true), (34, true), (35, true), (36, true), (37, true), (38, true), (39, true), (40, true), (41, true), (42, true), (43, true), (44, true), (45, true), (46, true), (47, true), (48, true), (49, true), (50, true), (51, true), (52, true), (53, true), (54, true), (55, true), (56, true), (57, true), (58, true), (59, true), (60, true), (61, true), (62, true), (63, true), (64, true), (65, true), (66, true)] (by kernel_rfl) (by kernel_rfl) ?_ ?_
        · exact ⟨by simp, by simp, by simp, by simp, by simp, by simp, cell_alloc_old hd⟩
        iterate 67 (first | (apply seg_skip rfl rfl; simp only [Act.put, List.setIfInBounds_toArray, List.set_cons_succ, List.set_cons_zero]) | (apply seg_pure rfl rfl rfl; · (rintro w' ⟨t0, t1, t2, t3, t4, t5, t6⟩; go_wp2; exact ⟨rfl, rfl, rfl⟩)))
        refine seg_nil ?_
        refine NoPanic.normal ?_
        go_wp2_with fail
        go_ret
        exact ⟨false, rfl, ⟨fun h => (by cases h), fun h => absurd (h.1 (k) hkl c HE.out) HX.out⟩, (hb.alloc hb.size _).drew⟩
      have f1 : decide (c.n < 1) = false := decide_eq_false q1
      by_cases q2 : 1000000 < c.n
      · have f2 : decide (1000000 < c.n) = true := decide_eq_true q2
        have HX := Lib.hid (show ¬ (c.may ∧ (∀ d, 0 < k → l[k - 1]? = some d → c.n = d.n + 1) ∧ (k + 1 < l.length → c.has = true)) from (fun h => absurd h.1.2.1 (by omega)))
        go_wp2_with fail
        refine wp_region_seq (Cells7 b off j w1.heap.size c d (.slice au c.args.length capu) hs) [(0, true), (1, true), (2, true), (3, true), (4, true), (5, true), (6, true), (7, true), (8, true), (9, true), (10, true), (11, true), (12, true), (13, true), (14, true), (15, true), (16, true), (17, true), (18, true), (19, true), (20, true), (21, true), (22, true), (23, true), (24, true), (25, true), (26, true), (27, true), (28, true), (29, true), (30, true), (31, true), (32, true), (33, true), (34, true), (35, true), (36, true), (37, true), (38, true), (39, true), (40, true), (41, true), (42, true), (43, true), (44, true), (45, true), (46, true), (47, true), (48, true), (49, true), (50, true), (51, true), (52, true), (53, true), (54, true), (55, true), (56, true), (57, true), (58, true), (59, true), (60, true), (61, true), (62, true), (63, true), (64, true), (65, true), (66, true)] (by kernel_rfl) (by kernel_rfl) ?_ ?_
        · exact ⟨by simp, by simp, by simp, by simp, by simp, by simp, cell_alloc_old hd⟩
        iterate 67 (first | (apply seg_skip rfl rfl; simp only [Act.put, List.setIfInBounds_toArray, List.set_cons_succ, List.set_cons_zero]) | (apply seg_pure rfl rfl rfl; · (rintro w' ⟨t0, t1, t2, t3, t4, t5, t6⟩; go_wp2; exact ⟨rfl, rfl, rfl⟩)))
        refine seg_nil ?_
        refine NoPanic.normal ?_
        go_wp2_with fail
        go_ret
        exact ⟨false, rfl, ⟨fun h => (by cases h), fun h => absurd (h.1 (k) hkl c HE.out) HX.out⟩, (hb.alloc hb.size _).drew⟩
      have f2 : decide (1000000 < c.n) = false := decide_eq_false q2
      rcases Nat.eq_zero_or_pos k with hk0 | hk0
      · subst hk0
        have f0 : decide ((0 : Int) < ((0 : Nat) : Int)) = false := rfl
        have HLT := Lib.hid (show ∀ d, 0 < 0 → l[0 - 1]? = some d → c.n = d.n + 1 from fun d h => by omega)
        simp only [Nat.zero_mul, Nat.add_zero] at c0 c1 c2 c3 c4 c5
        by_cases q4 : c.fn < 0
        · have f4 : decide (c.fn < 0) = true := decide_eq_true q4
          have HX := Lib.hid (show ¬ (c.may ∧ (∀ d, 0 < 0 → l[0 - 1]? = some d → c.n = d.n + 1) ∧ (0 + 1 < l.length → c.has = true)) from (fun h => absurd h.1.2.2.1 (by omega)))
          go_wp2_with fail
          refine wp_region_seq (Cells7 b off j w1.heap.size c d (.slice au c.args.length capu) hs) [(0, true), (1, true), (2, true), (3, true), (4, true), (5, true), (6, true), (7, true), (8, true), (9, true), (10, true), (11, true), (12, true), (13, true), (14, true), (15, true), (16, true), (17, true), (18, true), (19, true), (20, true), (21, true), (22, true), (23, true), (24, true), (25, true), (26, true), (27, true), (28, true), (29, true), (30, true), (31, true), (32, true), (33, true), (34, true), (35, true), (36, true), (37, true), (38, true), (39, true), (40, true), (41, true), (42, true), (43, true), (44, true), (45, true), (46, true), (47, true), (48, true), (49, true), (50, true), (51, true), (52, true), (53, true), (54, true), (55, true), (56, true), (57, true), (58, true), (59, true), (60, true), (61, true), (62, true), (63, true), (64, true), (65, true), (66, true)] (by kernel_rfl) (by kernel_rfl) ?_ ?_
          · exact ⟨by simp, by simp, by simp, by simp, by simp, by simp, cell_alloc_old hd⟩
          iterate 67 (first | (apply seg_skip rfl rfl; simp only [Act.put, List.setIfInBounds_toArray, List.set_cons_succ, List.set_cons_zero]) | (apply seg_pure rfl rfl rfl; · (rintro w' ⟨t0, t1, t2, t3, t4, t5, t6⟩; go_wp2; exact ⟨rfl, rfl, rfl⟩)))
          refine seg_nil ?_
          refine NoPanic.normal ?_
          go_wp2_with fail
          go_ret
          exact ⟨false, rfl, ⟨fun h => (by cases h), fun h => absurd (h.1 (0) hkl c HE.out) HX.out⟩, (hb.alloc hb.size _).drew⟩
        have f4 : decide (c.fn < 0) = false := decide_eq_false q4
        by_cases q5 : 1000000 < c.fn
        · have f5 : decide (1000000 < c.fn) = true := decide_eq_true q5
          have HX := Lib.hid (show ¬ (c.may ∧ (∀ d, 0 < 0 → l[0 - 1]? = some d → c.n = d.n + 1) ∧ (0 + 1 < l.length → c.has = true)) from (fun h => absurd h.1.2.2.2.1 (by omega)))
          go_wp2_with fail
          refine wp_region_seq (Cells7 b off j w1.heap.size c d (.slice au c.args.length capu) hs) [(0, true), (1, true), (2, true), (3, true), (4, true), (5, true), (6, true), (7, true), (8, true), (9, true), (10, true), (11, true), (12, true), (13, true), (14, true), (15, true), (16, true), (17, true), (18, true), (19, true), (20, true), (21, true), (22, true), (23, true), (24, true), (25, true), (26, true), (27, true), (28, true), (29, true), (30, true), (31, true), (32, true), (33, true), (34, true), (35, true), (36, true), (37, true), (38, true), (39, true), (40, true), (41, true), (42, true), (43, true), (44, true), (45, true), (46, true), (47, true), (48, true), (49, true), (50, true), (51, true), (52, true), (53, true), (54, true), (55, true), (56, true), (57, true), (58, true), (59, true), (60, true), (61, true), (62, true), (63, true), (64, true), (65, true), (66, true)] (by kernel_rfl) (by kernel_rfl) ?_ ?_
          · exact ⟨by simp, by simp, by simp, by simp, by simp, by simp, cell_alloc_old hd⟩
          iterate 67 (first | (apply seg_skip rfl rfl; simp only [Act.put, List.setIfInBounds_toArray, List.set_cons_succ, List.set_cons_zero]) | (apply seg_pure rfl rfl rfl; · (rintro w' ⟨t0, t1, t2, t3, t4, t5, t6⟩; go_wp2; exact ⟨rfl, rfl, rfl⟩)))
          refine seg_nil ?_
          refine NoPanic.normal ?_
          go_wp2_with fail
          go_ret
          exact ⟨false, rfl, ⟨fun h => (by cases h), fun h => absurd (h.1 (0) hkl c HE.out) HX.out⟩, (hb.alloc hb.size _).drew⟩
        have f5 : decide (1000000 < c.fn) = false := decide_eq_false q5
        by_cases q6 : c.pos < 0
        · have f6 : decide (c.pos < 0) = true := decide_eq_true q6
          have HX := Lib.hid (show ¬ (c.may ∧ (∀ d, 0 < 0 → l[0 - 1]? = some d → c.n = d.n + 1) ∧ (0 + 1 < l.length → c.has = true)) from (fun h => absurd h.1.2.2.2.2.1 (by omega)))
          go_wp2_with fail
          refine wp_region_seq (Cells7 b off j w1.heap.size c d (.slice au c.args.length capu) hs) [(0, true), (1, true), (2, true), (3, true), (4, true), (5, true), (6, true), (7, true), (8, true), (9, true), (10, true), (11, true), (12, true), (13, true), (14, true), (15, true), (16, true), (17, true), (18, true), (19, true), (20, true), (21, true), (22, true), (23, true), (24, true), (25, true), (26, true), (27, true), (28, true), (29, true), (30, true), (31, true), (32, true), (33, true), (34, true), (35, true), (36, true), (37, true), (38, true), (39, true), (40, true), (41, true), (42, true), (43, true), (44, true), (45, true), (46, true), (47, true), (48, true), (49, true), (50, true), (51, true), (52, true), (53, true), (54, true), (55, true), (56, true), (57, true), (58, true), (59, true), (60, true), (61, true), (62, true), (63, true), (64, true), (65, true), (66, true)] (by kernel_rfl) (by kernel_rfl) ?_ ?_
          · exact ⟨by simp, by simp, by simp, by simp, by simp, by simp, cell_alloc_old hd⟩
          iterate 67 (first | (apply seg_skip rfl rfl; simp only [Act.put, List.setIfInBounds_toArray, List.set_cons_succ, List.set_cons_zero]) | (apply seg_pure rfl rfl rfl; · (rintro w' ⟨t0, t1, t2, t3, t4, t5, t6⟩; go_wp2; exact ⟨rfl, rfl, rfl⟩)))
          refine seg_nil ?_
          refine NoPanic.normal ?_
          go_wp2_with fail
          go_ret
          exact ⟨false, rfl, ⟨fun h => (by cases h), fun h => absurd (h.1 (0) hkl c HE.out) HX.out⟩, (hb.alloc hb.size _).drew⟩
        have f6 : decide (c.pos < 0) = false := decide_eq_false q6
        by_cases q7 : 1000000 < c.pos
        · have f7 : decide (1000000 < c.pos) = true := decide_eq_true q7
          have HX := Lib.hid (show ¬ (c.may ∧ (∀ d, 0 < 0 → l[0 - 1]? = some d → c.n = d.n + 1) ∧ (0 + 1 < l.length → c.has = true)) from (fun h => absurd h.1.2.2.2.2.2.1 (by omega)))
          go_wp2_with fail
          refine wp_region_seq (Cells7 b off j w1.heap.size c d (.slice au c.args.length capu) hs) [(0, true), (1, true), (2, true), (3, true), (4, true), (5, true), (6, true), (7, true), (8, true), (9, true), (10, true), (11, true), (12, true), (13, true), (14, true), (15, true), (16, true), (17, true), (18, true), (19, true), (20, true), (21, true), (22, true), (23, true), (24, true), (25, true), (26, true), (27, true), (28, true), (29, true), (30, true), (31, true), (32, true), (33, true), (34, true), (35, true), (36, true), (37, true), (38, true), (39, true), (40, true), (41, true), (42, true), (43, true), (44, true), (45, true), (46, true), (47, true), (48, true), (49, true), (50, true), (51, true), (52, true), (53, true), (54, true), (55, true), (56, true), (57, true), (58, true), (59, true), (60, true), (61, true), (62, true), (63, true), (64, true), (65, true), (66, true)] (by kernel_rfl) (by kernel_rfl) ?_ ?_
          · exact ⟨by simp, by simp, by simp, by simp, by simp, by simp, cell_alloc_old hd⟩
          iterate 67 (first | (apply seg_skip rfl rfl; simp only [Act.put, List.setIfInBounds_toArray, List.set_cons_succ, List.set_cons_zero]) | (apply seg_pure rfl rfl rfl; · (rintro w' ⟨t0, t1, t2, t3, t4, t5, t6⟩; go_wp2; exact ⟨rfl, rfl, rfl⟩)))
          refine seg_nil ?_
          refine NoPanic.normal ?_
          go_wp2_with fail
          go_ret
          exact ⟨false, rfl, ⟨fun h => (by cases h), fun h => absurd (h.1 (0) hkl c HE.out) HX.out⟩, (hb.alloc hb.size _).drew⟩
        have f7 : decide (1000000 < c.pos) = false := decide_eq_false q7
        by_cases q8 : 32 < c.args.length
        · have f8 : decide (32 < (c.args.length : Int)) = true := decide_eq_true (by omega)
          have HX := Lib.hid (show ¬ (c.may ∧ (∀ d, 0 < 0 → l[0 - 1]? = some d → c.n = d.n + 1) ∧ (0 + 1 < l.length → c.has = true)) from (fun h => absurd h.1.2.2.2.2.2.2.1 (by omega)))
          go_wp2_with fail
          refine wp_region_seq (Cells7 b off j w1.heap.size c d (.slice au c.args.length capu) hs) [(0, true), (1, true), (2, true), (3, true), (4, true), (5, true), (6, true), (7, true), (8, true), (9, true), (10, true), (11, true), (12, true), (13, true), (14, true), (15, true), (16, true), (17, true), (18, true), (19, true), (20, true), (21, true), (22, true), (23, true), (24, true), (25, true), (26, true), (27, true), (28, true), (29, true), (30, true), (31, true), (32, true), (33, true), (34, true), (35, true), (36, true), (37, true), (38, true), (39, true), (40, true), (41, true), (42, true), (43, true), (44, true), (45, true), (46, true), (47, true), (48, true), (49, true), (50, true), (51, true), (52, true), (53, true), (54, true), (55, true), (56, true), (57, true), (58, true), (59, true), (60, true), (61, true), (62, true), (63, true), (64, true), (65, true), (66, true)] (by kernel_rfl) (by kernel_rfl) ?_ ?_
          · exact ⟨by simp, by simp, by simp, by simp, by simp, by simp, cell_alloc_old hd⟩
          iterate 67 (first | (apply seg_skip rfl rfl; simp only [Act.put, List.setIfInBounds_toArray, List.set_cons_succ, List.set_cons_zero]) | (apply seg_pure rfl rfl rfl; · (rintro w' ⟨t0, t1, t2, t3, t4, t5, t6⟩; go_wp2; exact ⟨rfl, rfl, rfl⟩)))
          refine seg_nil ?_
          refine NoPanic.normal ?_
          go_wp2_with fail
          go_ret
          exact ⟨false, rfl, ⟨fun h => (by cases h), fun h => absurd (h.1 (0) hkl c HE.out) HX.out⟩, (hb.alloc hb.size _).drew⟩
        have f8 : decide (32 < (c.args.length : Int)) = false := decide_eq_false (by omega)
        cases hs with
        | true =>
          skip
          have HX := Lib.hid (show (∀ v ∈ c.args, v.may) → c.may from (fun h => ⟨by omega, by omega, by omega, by omega, by omega, by omega, by omega, h, .inl HHS.out.symm⟩))
          have HHH := Lib.hid (show 0 + 1 < l.length → c.has = true from (fun _ => HHS.out.symm))
          go_wp2_with fail
          refine wp_region_seq (Cells7 b off j w1.heap.size c d (.slice au c.args.length capu) true) [(0, true), (1, true), (2, true), (3, true), (4, true), (5, true), (6, true), (7, true), (8, true), (9, true), (10, true), (11, true), (12, true), (13, true), (14, true), (15, true), (16, true), (17, true), (18, true), (19, true), (20, true), (21, true), (22, true), (23, true), (24, true), (25, true), (26, true), (27, true), (28, true), (29, true), (30, true), (31, true), (32, true), (33, true), (34, true), (35, true), (36, true), (37, true), (38, true), (39, true), (40, true), (41, true), (42, true), (43, true), (44, true), (45, true), (46, true), (47, true), (48, true), (49, true), (50, true), (51, true), (52, true), (53, true), (54, true), (55, true), (56, true), (57, true), (58, true), (59, true), (60, true), (61, true), (62, true), (63, true), (64, true), (65, true), (66, true)] (by kernel_rfl) (by kernel_rfl) ?_ ?_
          · exact ⟨by simp, by simp, by simp, by simp, by simp, by simp, cell_alloc_old hd⟩
          iterate 67 (first | (apply seg_skip rfl rfl; simp only [Act.put, List.setIfInBounds_toArray, List.set_cons_succ, List.set_cons_zero]) | (apply seg_pure rfl rfl rfl; · (rintro w' ⟨t0, t1, t2, t3, t4, t5, t6⟩; go_wp2; exact ⟨rfl, rfl, rfl⟩)))
          refine seg_nil ?_
          refine NoPanic.normal ?_
          go_wp2_with fail
          have hbx := (Blk.new w1 #[.int .i64 c.n, .int .i64 c.fn, .int .i64 c.pos, .slice au c.args.length capu, .bool true, .int .i64 c.ans] 82).drew
          obtain ⟨X, hX⟩ : ∃ X, X = w1.heap.size := ⟨_, rfl⟩
          rw [← hX] at hbx ⊢
          clear hX
          have hu0 := HU.out.below (((Below.refl _ _).alloc (Nat.le_refl _) (.cells #[.int .i64 c.n, .int .i64 c.fn, .int .i64 c.pos, .slice au c.args.length capu, .bool true, .int .i64 c.ans] 82)).drew)
          have hb0 := (hb.alloc hb.size (.cells #[.int .i64 c.n, .int .i64 c.fn, .int .i64 c.pos, .slice au c.args.length capu, .bool true, .int .i64 c.ans] 82)).drew
          generalize (w1.alloc (.cells #[.int .i64 c.n, .int .i64 c.fn, .int .i64 c.pos, .slice au c.args.length capu, .bool true, .int .i64 c.ans] 82)).drew = w2 at hbx hu0 hb0 ⊢
          have HU2 := Lib.hid hu0
          have HRO := HR
          clear HR hu0 hb
          refine wp_loop_r (fun a' w' => ∃ (m : Nat), a' = { tmps := #[.slice (some ⟨b, off, none⟩) l.length cap, slot a' 1, slot a' 2, .int .i64 ((0 : Nat) : Int), .pointer (some ⟨X, 0, none⟩), .int .i64 m, slot a' 6, slot a' 7, slot a' 8, slot a' 9, slot a' 10, slot a' 11, slot a' 12, slot a' 13, slot a' 14, slot a' 15, slot a' 16, slot a' 17, slot a' 18, slot a' 19, slot a' 20, slot a' 21, slot a' 22, slot a' 23, slot a' 24, slot a' 25, slot a' 26, slot a' 27, slot a' 28, slot a' 29, slot a' 30, slot a' 31, slot a' 32, slot a' 33, slot a' 34, slot a' 35, slot a' 36, slot a' 37, slot a' 38, slot a' 39, slot a' 40, slot a' 41, slot a' 42, slot a' 43, slot a' 44, slot a' 45, slot a' 46, slot a' 47, slot a' 48, slot a' 49, slot a' 50, slot a' 51, slot a' 52, slot a' 53, slot a' 54, slot a' 55, slot a' 56, slot a' 57, slot a' 58, slot a' 59, slot a' 60, slot a' 61, slot a' 62, slot a' 63, slot a' 64, slot a' 65, slot a' 66, slot a' 67, slot a' 68, slot a' 69, slot a' 70, slot a' 71, slot a' 72, slot a' 73, slot a' 74, slot a' 75, slot a' 76, slot a' 77, slot a' 78, slot a' 79, slot a' 80, slot a' 81, slot a' 82, slot a' 83, slot a' 84, slot a' 85, slot a' 86, slot a' 87, slot a' 88, slot a' 89, slot a' 90, slot a' 91, slot a' 92, slot a' 93, slot a' 94, slot a' 95, slot a' 96, slot a' 97, slot a' 98, slot a' 99], defers := [] } ∧ LmJ c.args X #[.int .i64 c.n, .int .i64 c.fn, .int .i64 c.pos, .slice au c.args.length capu, .bool true, .int .i64 c.ans] w2 w' m) (fun a' _ => (c.args.length - (intOf (a'.tmps.getD 5 undef)).toNat)) ?_ ?_
          · exact ⟨0, rfl, by omega, fun i hi => by omega, hbx, Below.refl _ _⟩
          · clear hbx
            rintro R a' w3 ⟨m, hfr, hJ⟩ HR
            obtain ⟨f, hf⟩ : ∃ f, f = slot a' := ⟨_, rfl⟩
            rw [← hf] at hfr
            clear hf
            subst hfr
            obtain ⟨hm, hmm, hbx, hb3⟩ := hJ
            have hbw := hb0.trans (hb3.mono hb0.size)
            have HMV := Lib.hid hmm
            obtain ⟨⟨x0, x1, x2, x3, x4, x5⟩, -⟩ := hbx.six
            clear hmm
            by_cases hml : m < c.args.length
            · obtain ⟨v, hv⟩ : ∃ v, c.args[m]? = some v := ⟨_, List.getElem?_eq_getElem hml⟩
              obtain ⟨a', cap', hva, _, _, hcells⟩ := HU2.out.below hb3
              injection hva with e1 e2 e3
              subst e1 e3
              obtain ⟨bv', offv, rfl, hltv, hcv⟩ := hcells m v hv
              have y0 := hcv 0 _ rfl
              have y1 := hcv 1 _ rfl
              rw [Nat.add_zero] at y0
              have HV := Lib.hid hv
              clear hcells hcv e2 hv
              go_wp2_with fail
              refine (refMay_any v _).mono ?_
              rintro x w4 ⟨rfl, hb4⟩
              have hbx4 := hbx.below hb4 hbx.lt
              have hbw4 := hbw.trans (hb4.mono hbw.size)
              have hb34 := hb3.trans (hb4.mono hb3.size)
              clear hb4 hb3 hbw x0 x1 x2 x3 x4 x5 y0 y1 hbx
              by_cases hvm : v.may
              · have hr : decide v.may = true := decide_eq_true hvm
                have HVM := Lib.hid hvm
                clear hvm
                rw [hr]
                clear hr
                go_wp2_with fail
                refine HR.out _ _ ⟨m + 1, rfl, by omega, ?_, hbx4, hb34⟩ ?_
                · intro i hi x hx
                  rcases Nat.lt_or_ge i m with h | h
                  · exact HMV.out i h x hx
                  · obtain rfl : i = m := by omega
                    rw [HV.out] at hx
                    injection hx with hx
                    rw [← hx]
                    exact HVM.out
                · simp [intOf]
                  omega
              · have hr : decide v.may = false := decide_eq_false hvm
                have HVM := Lib.hid hvm
                clear hvm
                rw [hr]
                clear hr
                go_wp2_with fail
                go_ret
                exact ⟨false, rfl, ⟨fun h => (by cases h), fun h => absurd ((h.1 (0) hkl c HE.out).1.2.2.2.2.2.2.2.1 v (List.mem_of_getElem? HV.out)) HVM.out⟩, hbw4⟩
            · obtain rfl : m = c.args.length := by omega
              go_wp2_with fail
              refine HRO.out _ _ ⟨0 + 1, rfl, by omega, ?_, hbw⟩ ?_
              · intro i hi x hx
                rcases Nat.lt_or_ge i (0) with h | h
                · exact HMM.out i h x hx
                · obtain rfl : i = 0 := by omega
                  rw [HE.out] at hx
                  injection hx with hx
                  subst hx
                  refine ⟨HX.out (fun v hv => ?_), HLT.out, HHH.out⟩
                  obtain ⟨i, hi⟩ := List.mem_iff_getElem?.1 hv
                  exact HMV.out i (List.getElem?_eq_some_iff.1 hi).1 v hi
              · simp [intOf]
                omega
        | false =>
          have hno : ¬ c.has = true := fun h => by have := HHS.out; rw [h] at this; cases this
          have HNO := Lib.hid hno
          clear hno
          by_cases q9 : 0 + 1 < l.length
          · have f9 : decide ((1 : Int) < (l.length : Int)) = true := decide_eq_true (by omega)
            have HX := Lib.hid (show ¬ (c.may ∧ (∀ d, 0 < 0 → l[0 - 1]? = some d → c.n = d.n + 1) ∧ (0 + 1 < l.length → c.has = true)) from (fun h => HNO.out (h.2.2 q9)))
            go_wp2_with fail
            refine wp_region_seq (Cells7 b off j w1.heap.size c d (.slice au c.args.length capu) false) [(0, true), (1, true), (2, true), (3, true), (4, true), (5, true), (6, true), (7, true), (8, true), (9, true), (10, true), (11, true), (12, true), (13, true), (14, true), (15, true), (16, true), (17, true), (18, true), (19, true), (20, true), (21, true), (22, true), (23, true), (24, true), (25, true), (26, true), (27, true), (28, true), (29, true), (30, true), (31, true), (32, true), (33, true), (34, true), (35, true), (36, true), (37, true), (38, true), (39, true), (40, true), (41, true), (42, true), (43, true), (44, true), (45, true), (46, true), (47, true), (48, true), (49, true), (50, true), (51, true), (52, true), (53, true), (54, true), (55, true), (56, true), (57, true), (58, true), (59, true), (60, true), (61, true), (62, true), (63, true), (64, true), (65, true), (66, true)] (by kernel_rfl) (by kernel_rfl) ?_ ?_
            · exact ⟨by simp, by simp, by simp, by simp, by simp, by simp, cell_alloc_old hd⟩
            iterate 67 (first | (apply seg_skip rfl rfl; simp only [Act.put, List.setIfInBounds_toArray, List.set_cons_succ, List.set_cons_zero]) | (apply seg_pure rfl rfl rfl; · (rintro w' ⟨t0, t1, t2, t3, t4, t5, t6⟩; go_wp2; exact ⟨rfl, rfl, rfl⟩)))
            refine seg_nil ?_
            refine NoPanic.normal ?_
            go_wp2_with fail
            go_ret
            exact ⟨false, rfl, ⟨fun h => (by cases h), fun h => absurd (h.1 (0) hkl c HE.out) HX.out⟩, (hb.alloc hb.size _).drew⟩
          have f9 : decide ((1 : Int) < (l.length : Int)) = false := decide_eq_false (by omega)
          by_cases q10 : c.ans = 0
          · have f10 := ine_false q10
            have H10 := Lib.hid q10
            clear q10
            have HX := Lib.hid (show (∀ v ∈ c.args, v.may) → c.may from (fun h => ⟨by omega, by omega, by omega, by omega, by omega, by omega, by omega, h, .inr H10.out⟩))
            have HHH := Lib.hid (show 0 + 1 < l.length → c.has = true from (fun h => absurd h q9))
            go_wp2_with fail
            refine wp_region_seq (Cells7 b off j w1.heap.size c d (.slice au c.args.length capu) false) [(0, true), (1, true), (2, true), (3, true), (4, true), (5, true), (6, true), (7, true), (8, true), (9, true), (10, true), (11, true), (12, true), (13, true), (14, true), (15, true), (16, true), (17, true), (18, true), (19, true), (20, true), (21, true), (22, true), (23, true), (24, true), (25, true), (26, true), (27, true), (28, true), (29, true), (30, true), (31, true), (32, true), (33, true), (34, true), (35, true), (36, true), (37, true), (38, true), (39, true), (40, true), (41, true), (42, true), (43, true), (44, true), (45, true), (46, true), (47, true), (48, true), (49, true), (50, true), (51, true), (52, true), (53, true), (54, true), (55, true), (56, true), (57, true), (58, true), (59, true), (60, true), (61, true), (62, true), (63, true), (64, true), (65, true), (66, true)] (by kernel_rfl) (by kernel_rfl) ?_ ?_
            · exact ⟨by simp, by simp, by simp, by simp, by simp, by simp, cell_alloc_old hd⟩
            iterate 67 (first | (apply seg_skip rfl rfl; simp only [Act.put, List.setIfInBounds_toArray, List.set_cons_succ, List.set_cons_zero]) | (apply seg_pure rfl rfl rfl; · (rintro w' ⟨t0, t1, t2, t3, t4, t5, t6⟩; go_wp2; exact ⟨rfl, rfl, rfl⟩)))
            refine seg_nil ?_
            refine NoPanic.normal ?_
            go_wp2_with fail
            have hbx := (Blk.new w1 #[.int .i64 c.n, .int .i64 c.fn, .int .i64 c.pos, .slice au c.args.length capu, .bool false, .int .i64 c.ans] 82).drew
            obtain ⟨X, hX⟩ : ∃ X, X = w1.heap.size := ⟨_, rfl⟩
            rw [← hX] at hbx ⊢
            clear hX
            have hu0 := HU.out.below (((Below.refl _ _).alloc (Nat.le_refl _) (.cells #[.int .i64 c.n, .int .i64 c.fn, .int .i64 c.pos, .slice au c.args.length capu, .bool false, .int .i64 c.ans] 82)).drew)
            have hb0 := (hb.alloc hb.size (.cells #[.int .i64 c.n, .int .i64 c.fn, .int .i64 c.pos, .slice au c.args.length capu, .bool false, .int .i64 c.ans] 82)).drew
            generalize (w1.alloc (.cells #[.int .i64 c.n, .int .i64 c.fn, .int .i64 c.pos, .slice au c.args.length capu, .bool false, .int .i64 c.ans] 82)).drew = w2 at hbx hu0 hb0 ⊢
            have HU2 := Lib.hid hu0
            have HRO := HR
            clear HR hu0 hb
            refine wp_loop_r (fun a' w' => ∃ (m : Nat), a' = { tmps := #[.slice (some ⟨b, off, none⟩) l.length cap, slot a' 1, slot a' 2, .int .i64 ((0 : Nat) : Int), .pointer (some ⟨X, 0, none⟩), .int .i64 m, slot a' 6, slot a' 7, slot a' 8, slot a' 9, slot a' 10, slot a' 11, slot a' 12, slot a' 13, slot a' 14, slot a' 15, slot a' 16, slot a' 17, slot a' 18, slot a' 19, slot a' 20, slot a' 21, slot a' 22, slot a' 23, slot a' 24, slot a' 25, slot a' 26, slot a' 27, slot a' 28, slot a' 29, slot a' 30, slot a' 31, slot a' 32, slot a' 33, slot a' 34, slot a' 35, slot a' 36, slot a' 37, slot a' 38, slot a' 39, slot a' 40, slot a' 41, slot a' 42, slot a' 43, slot a' 44, slot a' 45, slot a' 46, slot a' 47, slot a' 48, slot a' 49, slot a' 50, slot a' 51, slot a' 52, slot a' 53, slot a' 54, slot a' 55, slot a' 56, slot a' 57, slot a' 58, slot a' 59, slot a' 60, slot a' 61, slot a' 62, slot a' 63, slot a' 64, slot a' 65, slot a' 66, slot a' 67, slot a' 68, slot a' 69, slot a' 70, slot a' 71, slot a' 72, slot a' 73, slot a' 74, slot a' 75, slot a' 76, slot a' 77, slot a' 78, slot a' 79, slot a' 80, slot a' 81, slot a' 82, slot a' 83, slot a' 84, slot a' 85, slot a' 86, slot a' 87, slot a' 88, slot a' 89, slot a' 90, slot a' 91, slot a' 92, slot a' 93, slot a' 94, slot a' 95, slot a' 96, slot a' 97, slot a' 98, slot a' 99], defers := [] } ∧ LmJ c.args X #[.int .i64 c.n, .int .i64 c.fn, .int .i64 c.pos, .slice au c.args.length capu, .bool false, .int .i64 c.ans] w2 w' m) (fun a' _ => (c.args.length - (intOf (a'.tmps.getD 5 undef)).toNat)) ?_ ?_
            · exact ⟨0, rfl, by omega, fun i hi => by omega, hbx, Below.refl _ _⟩
            · clear hbx
              rintro R a' w3 ⟨m, hfr, hJ⟩ HR
              obtain ⟨f, hf⟩ : ∃ f, f = slot a' := ⟨_, rfl⟩
              rw [← hf] at hfr
              clear hf
              subst hfr
              obtain ⟨hm, hmm, hbx, hb3⟩ := hJ
              have hbw := hb0.trans (hb3.mono hb0.size)
              have HMV := Lib.hid hmm
              obtain ⟨⟨x0, x1, x2, x3, x4, x5⟩, -⟩ := hbx.six
              clear hmm
              by_cases hml : m < c.args.length
              · obtain ⟨v, hv⟩ : ∃ v, c.args[m]? = some v := ⟨_, List.getElem?_eq_getElem hml⟩
                obtain ⟨a', cap', hva, _, _, hcells⟩ := HU2.out.below hb3
                injection hva with e1 e2 e3
                subst e1 e3
                obtain ⟨bv', offv, rfl, hltv, hcv⟩ := hcells m v hv
                have y0 := hcv 0 _ rfl
                have y1 := hcv 1 _ rfl
                rw [Nat.add_zero] at y0
                have HV := Lib.hid hv
                clear hcells hcv e2 hv
                go_wp2_with fail
                refine (refMay_any v _).mono ?_
                rintro x w4 ⟨rfl, hb4⟩
                have hbx4 := hbx.below hb4 hbx.lt
                have hbw4 := hbw.trans (hb4.mono hbw.size)
                have hb34 := hb3.trans (hb4.mono hb3.size)
                clear hb4 hb3 hbw x0 x1 x2 x3 x4 x5 y0 y1 hbx
                by_cases hvm : v.may
                · have hr : decide v.may = true := decide_eq_true hvm
                  have HVM := Lib.hid hvm
                  clear hvm
                  rw [hr]
                  clear hr
                  go_wp2_with fail
                  refine HR.out _ _ ⟨m + 1, rfl, by omega, ?_, hbx4, hb34⟩ ?_
                  · intro i hi x hx
                    rcases Nat.lt_or_ge i m with h | h
                    · exact HMV.out i h x hx
                    · obtain rfl : i = m := by omega
                      rw [HV.out] at hx
                      injection hx with hx
                      rw [← hx]
                      exact HVM.out
                  · simp [intOf]
                    omega
                · have hr : decide v.may = false := decide_eq_false hvm
                  have HVM := Lib.hid hvm
                  clear hvm
                  rw [hr]
                  clear hr
                  go_wp2_with fail
                  go_ret
                  exact ⟨false, rfl, ⟨fun h => (by cases h), fun h => absurd ((h.1 (0) hkl c HE.out).1.2.2.2.2.2.2.2.1 v (List.mem_of_getElem? HV.out)) HVM.out⟩, hbw4⟩
              · obtain rfl : m = c.args.length := by omega
                go_wp2_with fail
                refine HRO.out _ _ ⟨0 + 1, rfl, by omega, ?_, hbw⟩ ?_
                · intro i hi x hx
                  rcases Nat.lt_or_ge i (0) with h | h
                  · exact HMM.out i h x hx
                  · obtain rfl : i = 0 := by omega
                    rw [HE.out] at hx
                    injection hx with hx
                    subst hx
                    refine ⟨HX.out (fun v hv => ?_), HLT.out, HHH.out⟩
                    obtain ⟨i, hi⟩ := List.mem_iff_getElem?.1 hv
                    exact HMV.out i (List.getElem?_eq_some_iff.1 hi).1 v hi
                · simp [intOf]
                  omega
          · have f10 := ine_true q10
            have H10 := Lib.hid q10
            clear q10
            have HX := Lib.hid (show ¬ (c.may ∧ (∀ d, 0 < 0 → l[0 - 1]? = some d → c.n = d.n + 1) ∧ (0 + 1 < l.length → c.has = true)) from (fun h => h.1.2.2.2.2.2.2.2.2.elim HNO.out H10.out))
            go_wp2_with fail
            refine wp_region_seq (Cells7 b off j w1.heap.size c d (.slice au c.args.length capu) false) [(0, true), (1, true), (2, true), (3, true), (4, true), (5, true), (6, true), (7, true), (8, true), (9, true), (10, true), (11, true), (12, true), (13, true), (14, true), (15, true), (16, true), (17, true), (18, true), (19, true), (20, true), (21, true), (22, true), (23, true), (24, true), (25, true), (26, true), (27, true), (28, true), (29, true), (30, true), (31, true), (32, true), (33, true), (34, true), (35, true), (36, true), (37, true), (38, true), (39, true), (40, true), (41, true), (42, true), (43, true), (44, true), (45, true), (46, true), (47, true), (48, true), (49, true), (50, true), (51, true), (52, true), (53, true), (54, true), (55, true), (56, true), (57, true), (58, true), (59, true), (60, true), (61, true), (62, true), (63, true), (64, true), (65, true), (66, true)] (by kernel_rfl) (by kernel_rfl) ?_ ?_
            · exact ⟨by simp, by simp, by simp, by simp, by simp, by simp, cell_alloc_old hd⟩
            iterate 67 (first | (apply seg_skip rfl rfl; simp only [Act.put, List.setIfInBounds_toArray, List.set_cons_succ, List.set_cons_zero]) | (apply seg_pure rfl rfl rfl; · (rintro w' ⟨t0, t1, t2, t3, t4, t5, t6⟩; go_wp2; exact ⟨rfl, rfl, rfl⟩)))
            refine seg_nil ?_
            refine NoPanic.normal ?_
            go_wp2_with fail
            go_ret
            exact ⟨false, rfl, ⟨fun h => (by cases h), fun h => absurd (h.1 (0) hkl c HE.out) HX.out⟩, (hb.alloc hb.size _).drew⟩
      · obtain rfl : k = j + 1 := by omega
        clear hj
        have f0 : decide ((0 : Int) < ((j + 1 : Nat) : Int)) = true := decide_eq_true (by omega)
        rw [Nat.add_sub_cancel] at HD0
        have hdm := (HMM.out j (by omega) d HD0.out).1.2.1
        by_cases q3 : c.n = d.n + 1
        · have f3 := ine_false q3
          have HLT := Lib.hid (show ∀ d, 0 < j + 1 → l[j + 1 - 1]? = some d → c.n = d.n + 1 from fun d' _ hd' => by
            have hde := HD0.out
            rw [Nat.add_sub_cancel, hde] at hd'
            injection hd' with hd'
            rw [← hd']
            exact q3)
          clear q3
          by_cases q4 : c.fn < 0
          · have f4 : decide (c.fn < 0) = true := decide_eq_true q4
            have HX := Lib.hid (show ¬ (c.may ∧ (∀ d, 0 < (j + 1) → l[(j + 1) - 1]? = some d → c.n = d.n + 1) ∧ ((j + 1) + 1 < l.length → c.has = true)) from (fun h => absurd h.1.2.2.1 (by omega)))
            go_wp2_with fail
            refine wp_region_seq (Cells7 b off j w1.heap.size c d (.slice au c.args.length capu) hs) [(0, true), (1, true), (2, true), (3, true), (4, true), (5, true), (6, true), (7, true), (8, true), (9, true), (10, true), (11, true), (12, true), (13, true), (14, true), (15, true), (16, true), (17, true), (18, true), (19, true), (20, true), (21, true), (22, true), (23, true), (24, true), (25, true), (26, true), (27, true), (28, true), (29, true), (30, true), (31, true), (32, true), (33, true), (34, true), (35, true), (36, true), (37, true), (38, true), (39, true), (40, true), (41, true), (42, true), (43, true), (44, true), (45, true), (46, true), (47, true), (48, true), (49, true), (50, true), (51, true), (52, true), (53, true), (54, true), (55, true), (56, true), (57, true), (58, true), (59, true), (60, true), (61, true), (62, true), (63, true), (64, true), (65, true), (66, true)] (by kernel_rfl) (by kernel_rfl) ?_ ?_
            · exact ⟨by simp, by simp, by simp, by simp, by simp, by simp, cell_alloc_old hd⟩
            iterate 67 (first | (apply seg_skip rfl rfl; simp only [Act.put, List.setIfInBounds_toArray, List.set_cons_succ, List.set_cons_zero]) | (apply seg_pure rfl rfl rfl; · (rintro w' ⟨t0, t1, t2, t3, t4, t5, t6⟩; go_wp2; exact ⟨rfl, rfl, rfl⟩)))
            refine seg_nil ?_
            refine NoPanic.normal ?_
            go_wp2_with fail
            go_ret
            exact ⟨false, rfl, ⟨fun h => (by cases h), fun h => absurd (h.1 ((j + 1)) hkl c HE.out) HX.out⟩, (hb.alloc hb.size _).drew⟩
          have f4 : decide (c.fn < 0) = false := decide_eq_false q4
          by_cases q5 : 1000000 < c.fn
          · have f5 : decide (1000000 < c.fn) = true := decide_eq_true q5
            have HX := Lib.hid (show ¬ (c.may ∧ (∀ d, 0 < (j + 1) → l[(j + 1) - 1]? = some d → c.n = d.n + 1) ∧ ((j + 1) + 1 < l.length → c.has = true)) from (fun h => absurd h.1.2.2.2.1 (by omega)))
            go_wp2_with fail
            refine wp_region_seq (Cells7 b off j w1.heap.size c d (.slice au c.args.length capu) hs) [(0, true), (1, true), (2, true), (3, true), (4, true), (5, true), (6, true), (7, true), (8, true), (9, true), (10, true), (11, true), (12, true), (13, true), (14, true), (15, true), (16, true), (17, true), (18, true), (19, true), (20, true), (21, true), (22, true), (23, true), (24, true), (25, true), (26, true), (27, true), (28, true), (29, true), (30, true), (31, true), (32, true), (33, true), (34, true), (35, true), (36, true), (37, true), (38, true), (39, true), (40, true), (41, true), (42, true), (43, true), (44, true), (45, true), (46, true), (47, true), (48, true), (49, true), (50, true), (51, true), (52, true), (53, true), (54, true), (55, true), (56, true), (57, true), (58, true), (59, true), (60, true), (61, true), (62, true), (63, true), (64, true), (65, true), (66, true)] (by kernel_rfl) (by kernel_rfl) ?_ ?_
            · exact ⟨by simp, by simp, by simp, by simp, by simp, by simp, cell_alloc_old hd⟩
            iterate 67 (first | (apply seg_skip rfl rfl; simp only [Act.put, List.setIfInBounds_toArray, List.set_cons_succ, List.set_cons_zero]) | (apply seg_pure rfl rfl rfl; · (rintro w' ⟨t0, t1, t2, t3, t4, t5, t6⟩; go_wp2; exact ⟨rfl, rfl, rfl⟩)))
            refine seg_nil ?_
            refine NoPanic.normal ?_
            go_wp2_with fail
            go_ret
            exact ⟨false, rfl, ⟨fun h => (by cases h), fun h => absurd (h.1 ((j + 1)) hkl c HE.out) HX.out⟩, (hb.alloc hb.size _).drew⟩
          have f5 : decide (1000000 < c.fn) = false := decide_eq_false q5
          by_cases q6 : c.pos < 0
          · have f6 : decide (c.pos < 0) = true := decide_eq_true q6
            have HX := Lib.hid (show ¬ (c.may ∧ (∀ d, 0 < (j + 1) → l[(j + 1) - 1]? = some d → c.n = d.n + 1) ∧ ((j + 1) + 1 < l.length → c.has = true)) from (fun h => absurd h.1.2.2.2.2.1 (by omega)))
            go_wp2_with fail
            refine wp_region_seq (Cells7 b off j w1.heap.size c d (.slice au c.args.length capu) hs) [(0, true), (1, true), (2, true), (3, true), (4, true), (5, true), (6, true), (7, true), (8, true), (9, true), (10, true), (11, true), (12, true), (13, true), (14, true), (15, true), (16, true), (17, true), (18, true), (19, true), (20, true), (21, true), (22, true), (23, true), (24, true), (25, true), (26, true), (27, true), (28, true), (29, true), (30, true), (31, true), (32, true), (33, true), (34, true), (35, true), (36, true), (37, true), (38, true), (39, true), (40, true), (41, true), (42, true), (43, true), (44, true), (45, true), (46, true), (47, true), (48, true), (49, true), (50, true), (51, true), (52, true), (53, true), (54, true), (55, true), (56, true), (57, true), (58, true), (59, true), (60, true), (61, true), (62, true), (63, true), (64, true), (65, true), (66, true)] (by kernel_rfl) (by kernel_rfl) ?_ ?_
            · exact ⟨by simp, by simp, by simp, by simp, by simp, by simp, cell_alloc_old hd⟩
            iterate 67 (first | (apply seg_skip rfl rfl; simp only [Act.put, List.setIfInBounds_toArray, List.set_cons_succ, List.set_cons_zero]) | (apply seg_pure rfl rfl rfl; · (rintro w' ⟨t0, t1, t2, t3, t4, t5, t6⟩; go_wp2; exact ⟨rfl, rfl, rfl⟩)))
            refine seg_nil ?_
            refine NoPanic.normal ?_
            go_wp2_with fail
            go_ret
            exact ⟨false, rfl, ⟨fun h => (by cases h), fun h => absurd (h.1 ((j + 1)) hkl c HE.out) HX.out⟩, (hb.alloc hb.size _).drew⟩
          have f6 : decide (c.pos < 0) = false := decide_eq_false q6
          by_cases q7 : 1000000 < c.pos
          · have f7 : decide (1000000 < c.pos) = true := decide_eq_true q7
            have HX := Lib.hid (show ¬ (c.may ∧ (∀ d, 0 < (j + 1) → l[(j + 1) - 1]? = some d → c.n = d.n + 1) ∧ ((j + 1) + 1 < l.length → c.has = true)) from (fun h => absurd h.1.2.2.2.2.2.1 (by omega)))
            go_wp2_with fail
            refine wp_region_seq (Cells7 b off j w1.heap.size c d (.slice au c.args.length capu) hs) [(0, true), (1, true), (2, true), (3, true), (4, true), (5, true), (6, true), (7, true), (8, true), (9, true), (10, true), (11, true), (12, true), (13, true), (14, true), (15, true), (16, true), (17, true), (18, true), (19, true), (20, true), (21, true), (22, true), (23, true), (24, true), (25, true), (26, true), (27, true), (28, true), (29, true), (30, true), (31, true), (32, true), (33, true), (34, true), (35, true), (36, true), (37, true), (38, true), (39, true), (40, true), (41, true), (42, true), (43, true), (44, true), (45, true), (46, true), (47, true), (48, true), (49, true), (50, true), (51, true), (52, true), (53, true), (54, true), (55, true), (56, true), (57, true), (58, true), (59, true), (60, true), (61, true), (62, true), (63, true), (64, true), (65, true), (66, true)] (by kernel_rfl) (by kernel_rfl) ?_ ?_
            · exact ⟨by simp, by simp, by simp, by simp, by simp, by simp, cell_alloc_old hd⟩
            iterate 67 (first | (apply seg_skip rfl rfl; simp only [Act.put, List.setIfInBounds_toArray, List.set_cons_succ, List.set_cons_zero]) | (apply seg_pure rfl rfl rfl; · (rintro w' ⟨t0, t1, t2, t3, t4, t5, t6⟩; go_wp2; exact ⟨rfl, rfl, rfl⟩)))
            refine seg_nil ?_
            refine NoPanic.normal ?_
            go_wp2_with fail
            go_ret
            exact ⟨false, rfl, ⟨fun h => (by cases h), fun h => absurd (h.1 ((j + 1)) hkl c HE.out) HX.out⟩, (hb.alloc hb.size _).drew⟩
          have f7 : decide (1000000 < c.pos) = false := decide_eq_false q7
          by_cases q8 : 32 < c.args.length
          · have f8 : decide (32 < (c.args.length : Int)) = true := decide_eq_true (by omega)
            have HX := Lib.hid (show ¬ (c.may ∧ (∀ d, 0 < (j + 1) → l[(j + 1) - 1]? = some d → c.n = d.n + 1) ∧ ((j + 1) + 1 < l.length → c.has = true)) from (fun h => absurd h.1.2.2.2.2.2.2.1 (by omega)))
            go_wp2_with fail
            refine wp_region_seq (Cells7 b off j w1.heap.size c d (.slice au c.args.length capu) hs) [(0, true), (1, true), (2, true), (3, true), (4, true), (5, true), (6, true), (7, true), (8, true), (9, true), (10, true), (11, true), (12, true), (13, true), (14, true), (15, true), (16, true), (17, true), (18, true), (19, true), (20, true), (21, true), (22, true), (23, true), (24, true), (25, true), (26, true), (27, true), (28, true), (29, true), (30, true), (31, true), (32, true), (33, true), (34, true), (35, true), (36, true), (37, true), (38, true), (39, true), (40, true), (41, true), (42, true), (43, true), (44, true), (45, true), (46, true), (47, true), (48, true), (49, true), (50, true), (51, true), (52, true), (53, true), (54, true), (55, true), (56, true), (57, true), (58, true), (59, true), (60, true), (61, true), (62, true), (63, true), (64, true), (65, true), (66, true)] (by kernel_rfl) (by kernel_rfl) ?_ ?_
            · exact ⟨by simp, by simp, by simp, by simp, by simp, by simp, cell_alloc_old hd⟩
            iterate 67 (first | (apply seg_skip rfl rfl; simp only [Act.put, List.setIfInBounds_toArray, List.set_cons_succ, List.set_cons_zero]) | (apply seg_pure rfl rfl rfl; · (rintro w' ⟨t0, t1, t2, t3, t4, t5, t6⟩; go_wp2; exact ⟨rfl, rfl, rfl⟩)))
            refine seg_nil ?_
            refine NoPanic.normal ?_
            go_wp2_with fail
            go_ret
            exact ⟨false, rfl, ⟨fun h => (by cases h), fun h => absurd (h.1 ((j + 1)) hkl c HE.out) HX.out⟩, (hb.alloc hb.size _).drew⟩
          have f8 : decide (32 < (c.args.length : Int)) = false := decide_eq_false (by omega)
          cases hs with
          | true =>
            skip
            have HX := Lib.hid (show (∀ v ∈ c.args, v.may) → c.may from (fun h => ⟨by omega, by omega, by omega, by omega, by omega, by omega, by omega, h, .inl HHS.out.symm⟩))
            have HHH := Lib.hid (show (j + 1) + 1 < l.length → c.has = true from (fun _ => HHS.out.symm))
            go_wp2_with fail
            refine wp_region_seq (Cells7 b off j w1.heap.size c d (.slice au c.args.length capu) true) [(0, true), (1, true), (2, true), (3, true), (4, true), (5, true), (6, true), (7, true), (8, true), (9, true), (10, true), (11, true), (12, true), (13, true), (14, true), (15, true), (16, true), (17, true), (18, true), (19, true), (20, true), (21, true), (22, true), (23, true), (24, true), (25, true), (26, true), (27, true), (28, true), (29, true), (30, true), (31, true), (32, true), (33, true), (34, true), (35, true), (36, true), (37, true), (38, true), (39, true), (40, true), (41, true), (42, true), (43, true), (44, true), (45, true), (46, true), (47, true), (48, true), (49, true), (50, true), (51, true), (52, true), (53, true), (54, true), (55, true), (56, true), (57, true), (58, true), (59, true), (60, true), (61, true), (62, true), (63, true), (64, true), (65, true), (66, true)] (by kernel_rfl) (by kernel_rfl) ?_ ?_
            · exact ⟨by simp, by simp, by simp, by simp, by simp, by simp, cell_alloc_old hd⟩
            iterate 67 (first | (apply seg_skip rfl rfl; simp only [Act.put, List.setIfInBounds_toArray, List.set_cons_succ, List.set_cons_zero]) | (apply seg_pure rfl rfl rfl; · (rintro w' ⟨t0, t1, t2, t3, t4, t5, t6⟩; go_wp2; exact ⟨rfl, rfl, rfl⟩)))
            refine seg_nil ?_
            refine NoPanic.normal ?_
            go_wp2_with fail
            have hbx := (Blk.new w1 #[.int .i64 c.n, .int .i64 c.fn, .int .i64 c.pos, .slice au c.args.length capu, .bool true, .int .i64 c.ans] 82).drew
            obtain ⟨X, hX⟩ : ∃ X, X = w1.heap.size := ⟨_, rfl⟩
            rw [← hX] at hbx ⊢
            clear hX
            have hu0 := HU.out.below (((Below.refl _ _).alloc (Nat.le_refl _) (.cells #[.int .i64 c.n, .int .i64 c.fn, .int .i64 c.pos, .slice au c.args.length capu, .bool true, .int .i64 c.ans] 82)).drew)
            have hb0 := (hb.alloc hb.size (.cells #[.int .i64 c.n, .int .i64 c.fn, .int .i64 c.pos, .slice au c.args.length capu, .bool true, .int .i64 c.ans] 82)).drew
            generalize (w1.alloc (.cells #[.int .i64 c.n, .int .i64 c.fn, .int .i64 c.pos, .slice au c.args.length capu, .bool true, .int .i64 c.ans] 82)).drew = w2 at hbx hu0 hb0 ⊢
            have HU2 := Lib.hid hu0
            have HRO := HR
            clear HR hu0 hb
            refine wp_loop_r (fun a' w' => ∃ (m : Nat), a' = { tmps := #[.slice (some ⟨b, off, none⟩) l.length cap, slot a' 1, slot a' 2, .int .i64 ((j + 1 : Nat) : Int), .pointer (some ⟨X, 0, none⟩), .int .i64 m, slot a' 6, slot a' 7, slot a' 8, slot a' 9, slot a' 10, slot a' 11, slot a' 12, slot a' 13, slot a' 14, slot a' 15, slot a' 16, slot a' 17, slot a' 18, slot a' 19, slot a' 20, slot a' 21, slot a' 22, slot a' 23, slot a' 24, slot a' 25, slot a' 26, slot a' 27, slot a' 28, slot a' 29, slot a' 30, slot a' 31, slot a' 32, slot a' 33, slot a' 34, slot a' 35, slot a' 36, slot a' 37, slot a' 38, slot a' 39, slot a' 40, slot a' 41, slot a' 42, slot a' 43, slot a' 44, slot a' 45, slot a' 46, slot a' 47, slot a' 48, slot a' 49, slot a' 50, slot a' 51, slot a' 52, slot a' 53, slot a' 54, slot a' 55, slot a' 56, slot a' 57, slot a' 58, slot a' 59, slot a' 60, slot a' 61, slot a' 62, slot a' 63, slot a' 64, slot a' 65, slot a' 66, slot a' 67, slot a' 68, slot a' 69, slot a' 70, slot a' 71, slot a' 72, slot a' 73, slot a' 74, slot a' 75, slot a' 76, slot a' 77, slot a' 78, slot a' 79, slot a' 80, slot a' 81, slot a' 82, slot a' 83, slot a' 84, slot a' 85, slot a' 86, slot a' 87, slot a' 88, slot a' 89, slot a' 90, slot a' 91, slot a' 92, slot a' 93, slot a' 94, slot a' 95, slot a' 96, slot a' 97, slot a' 98, slot a' 99], defers := [] } ∧ LmJ c.args X #[.int .i64 c.n, .int .i64 c.fn, .int .i64 c.pos, .slice au c.args.length capu, .bool true, .int .i64 c.ans] w2 w' m) (fun a' _ => (c.args.length - (intOf (a'.tmps.getD 5 undef)).toNat)) ?_ ?_
            · exact ⟨0, rfl, by omega, fun i hi => by omega, hbx, Below.refl _ _⟩
            · clear hbx
              rintro R a' w3 ⟨m, hfr, hJ⟩ HR
              obtain ⟨f, hf⟩ : ∃ f, f = slot a' := ⟨_, rfl⟩
              rw [← hf] at hfr
              clear hf
              subst hfr
              obtain ⟨hm, hmm, hbx, hb3⟩ := hJ
              have hbw := hb0.trans (hb3.mono hb0.size)
              have HMV := Lib.hid hmm
              obtain ⟨⟨x0, x1, x2, x3, x4, x5⟩, -⟩ := hbx.six
              clear hmm
              by_cases hml : m < c.args.length
              · obtain ⟨v, hv⟩ : ∃ v, c.args[m]? = some v := ⟨_, List.getElem?_eq_getElem hml⟩
                obtain ⟨a', cap', hva, _, _, hcells⟩ := HU2.out.below hb3
                injection hva with e1 e2 e3
                subst e1 e3
                obtain ⟨bv', offv, rfl, hltv, hcv⟩ := hcells m v hv
                have y0 := hcv 0 _ rfl
                have y1 := hcv 1 _ rfl
                rw [Nat.add_zero] at y0
                have HV := Lib.hid hv
                clear hcells hcv e2 hv
                go_wp2_with fail
                refine (refMay_any v _).mono ?_
                rintro x w4 ⟨rfl, hb4⟩
                have hbx4 := hbx.below hb4 hbx.lt
                have hbw4 := hbw.trans (hb4.mono hbw.size)
                have hb34 := hb3.trans (hb4.mono hb3.size)
                clear hb4 hb3 hbw x0 x1 x2 x3 x4 x5 y0 y1 hbx
                by_cases hvm : v.may
                · have hr : decide v.may = true := decide_eq_true hvm
                  have HVM := Lib.hid hvm
                  clear hvm
                  rw [hr]
                  clear hr
                  go_wp2_with fail
                  refine HR.out _ _ ⟨m + 1, rfl, by omega, ?_, hbx4, hb34⟩ ?_
                  · intro i hi x hx
                    rcases Nat.lt_or_ge i m with h | h
                    · exact HMV.out i h x hx
                    · obtain rfl : i = m := by omega
                      rw [HV.out] at hx
                      injection hx with hx
                      rw [← hx]
                      exact HVM.out
                  · simp [intOf]
                    omega
                · have hr : decide v.may = false := decide_eq_false hvm
                  have HVM := Lib.hid hvm
                  clear hvm
                  rw [hr]
                  clear hr
                  go_wp2_with fail
                  go_ret
                  exact ⟨false, rfl, ⟨fun h => (by cases h), fun h => absurd ((h.1 ((j + 1)) hkl c HE.out).1.2.2.2.2.2.2.2.1 v (List.mem_of_getElem? HV.out)) HVM.out⟩, hbw4⟩
              · obtain rfl : m = c.args.length := by omega
                go_wp2_with fail
                refine HRO.out _ _ ⟨(j + 1) + 1, rfl, by omega, ?_, hbw⟩ ?_
                · intro i hi x hx
                  rcases Nat.lt_or_ge i ((j + 1)) with h | h
                  · exact HMM.out i h x hx
                  · obtain rfl : i = (j + 1) := by omega
                    rw [HE.out] at hx
                    injection hx with hx
                    subst hx
                    refine ⟨HX.out (fun v hv => ?_), HLT.out, HHH.out⟩
                    obtain ⟨i, hi⟩ := List.mem_iff_getElem?.1 hv
                    exact HMV.out i (List.getElem?_eq_some_iff.1 hi).1 v hi
                · simp [intOf]
                  omega
          | false =>
            have hno : ¬ c.has = true := fun h => by have := HHS.out; rw [h] at this; cases this
            have HNO := Lib.hid hno
            clear hno
            by_cases q9 : (j + 1) + 1 < l.length
            · have f9 : decide ((j : Int) + 1 < (l.length : Int) - 1) = true := decide_eq_true (by omega)
              have HX := Lib.hid (show ¬ (c.may ∧ (∀ d, 0 < (j + 1) → l[(j + 1) - 1]? = some d → c.n = d.n + 1) ∧ ((j + 1) + 1 < l.length → c.has = true)) from (fun h => HNO.out (h.2.2 q9)))
              go_wp2_with fail
              refine wp_region_seq (Cells7 b off j w1.heap.size c d (.slice au c.args.length capu) false) [(0, true), (1, true), (2, true), (3, true), (4, true), (5, true), (6, true), (7, true), (8, true), (9, true), (10, true), (11, true), (12, true), (13, true), (14, true), (15, true), (16, true), (17, true), (18, true), (19, true), (20, true), (21, true), (22, true), (23, true), (24, true), (25, true), (26, true), (27, true), (28, true), (29, true), (30, true), (31, true), (32, true), (33, true), (34, true), (35, true), (36, true), (37, true), (38, true), (39, true), (40, true), (41, true), (42, true), (43, true), (44, true), (45, true), (46, true), (47, true), (48, true), (49, true), (50, true), (51, true), (52, true), (53, true), (54, true), (55, true), (56, true), (57, true), (58, true), (59, true), (60, true), (61, true), (62, true), (63, true), (64, true), (65, true), (66, true)] (by kernel_rfl) (by kernel_rfl) ?_ ?_
              · exact ⟨by simp, by simp, by simp, by simp, by simp, by simp, cell_alloc_old hd⟩
              iterate 67 (first | (apply seg_skip rfl rfl; simp only [Act.put, List.setIfInBounds_toArray, List.set_cons_succ, List.set_cons_zero]) | (apply seg_pure rfl rfl rfl; · (rintro w' ⟨t0, t1, t2, t3, t4, t5, t6⟩; go_wp2; exact ⟨rfl, rfl, rfl⟩)))
              refine seg_nil ?_
              refine NoPanic.normal ?_
              go_wp2_with fail
              go_ret
              exact ⟨false, rfl, ⟨fun h => (by cases h), fun h => absurd (h.1 ((j + 1)) hkl c HE.out) HX.out⟩, (hb.alloc hb.size _).drew⟩
            have f9 : decide ((j : Int) + 1 < (l.length : Int) - 1) = false := decide_eq_false (by omega)
            by_cases q10 : c.ans = 0
            · have f10 := ine_false q10
              have H10 := Lib.hid q10
              clear q10
              have HX := Lib.hid (show (∀ v ∈ c.args, v.may) → c.may from (fun h => ⟨by omega, by omega, by omega, by omega, by omega, by omega, by omega, h, .inr H10.out⟩))
              have HHH := Lib.hid (show (j + 1) + 1 < l.length → c.has = true from (fun h => absurd h q9))
              go_wp2_with fail
              refine wp_region_seq (Cells7 b off j w1.heap.size c d (.slice au c.args.length capu) false) [(0, true), (1, true), (2, true), (3, true), (4, true), (5, true), (6, true), (7, true), (8, true), (9, true), (10, true), (11, true), (12, true), (13, true), (14, true), (15, true), (16, true), (17, true), (18, true), (19, true), (20, true), (21, true), (22, true), (23, true), (24, true), (25, true), (26, true), (27, true), (28, true), (29, true), (30, true), (31, true), (32, true), (33, true), (34, true), (35, true), (36, true), (37, true), (38, true), (39, true), (40, true), (41, true), (42, true), (43, true), (44, true), (45, true), (46, true), (47, true), (48, true), (49, true), (50, true), (51, true), (52, true), (53, true), (54, true), (55, true), (56, true), (57, true), (58, true), (59, true), (60, true), (61, true), (62, true), (63, true), (64, true), (65, true), (66, true)] (by kernel_rfl) (by kernel_rfl) ?_ ?_
              · exact ⟨by simp, by simp, by simp, by simp, by simp, by simp, cell_alloc_old hd⟩
              iterate 67 (first | (apply seg_skip rfl rfl; simp only [Act.put, List.setIfInBounds_toArray, List.set_cons_succ, List.set_cons_zero]) | (apply seg_pure rfl rfl rfl; · (rintro w' ⟨t0, t1, t2, t3, t4, t5, t6⟩; go_wp2; exact ⟨rfl, rfl, rfl⟩)))
              refine seg_nil ?_
              refine NoPanic.normal ?_
              go_wp2_with fail
              have hbx := (Blk.new w1 #[.int .i64 c.n, .int .i64 c.fn, .int .i64 c.pos, .slice au c.args.length capu, .bool false, .int .i64 c.ans] 82).drew
              obtain ⟨X, hX⟩ : ∃ X, X = w1.heap.size := ⟨_, rfl⟩
              rw [← hX] at hbx ⊢
              clear hX
              have hu0 := HU.out.below (((Below.refl _ _).alloc (Nat.le_refl _) (.cells #[.int .i64 c.n, .int .i64 c.fn, .int .i64 c.pos, .slice au c.args.length capu, .bool false, .int .i64 c.ans] 82)).drew)
              have hb0 := (hb.alloc hb.size (.cells #[.int .i64 c.n, .int .i64 c.fn, .int .i64 c.pos, .slice au c.args.length capu, .bool false, .int .i64 c.ans] 82)).drew
              generalize (w1.alloc (.cells #[.int .i64 c.n, .int .i64 c.fn, .int .i64 c.pos, .slice au c.args.length capu, .bool false, .int .i64 c.ans] 82)).drew = w2 at hbx hu0 hb0 ⊢
              have HU2 := Lib.hid hu0
              have HRO := HR
              clear HR hu0 hb
              refine wp_loop_r (fun a' w' => ∃ (m : Nat), a' = { tmps := #[.slice (some ⟨b, off, none⟩) l.length cap, slot a' 1, slot a' 2, .int .i64 ((j + 1 : Nat) : Int), .pointer (some ⟨X, 0, none⟩), .int .i64 m, slot a' 6, slot a' 7, slot a' 8, slot a' 9, slot a' 10, slot a' 11, slot a' 12, slot a' 13, slot a' 14, slot a' 15, slot a' 16, slot a' 17, slot a' 18, slot a' 19, slot a' 20, slot a' 21, slot a' 22, slot a' 23, slot a' 24, slot a' 25, slot a' 26, slot a' 27, slot a' 28, slot a' 29, slot a' 30, slot a' 31, slot a' 32, slot a' 33, slot a' 34, slot a' 35, slot a' 36, slot a' 37, slot a' 38, slot a' 39, slot a' 40, slot a' 41, slot a' 42, slot a' 43, slot a' 44, slot a' 45, slot a' 46, slot a' 47, slot a' 48, slot a' 49, slot a' 50, slot a' 51, slot a' 52, slot a' 53, slot a' 54, slot a' 55, slot a' 56, slot a' 57, slot a' 58, slot a' 59, slot a' 60, slot a' 61, slot a' 62, slot a' 63, slot a' 64, slot a' 65, slot a' 66, slot a' 67, slot a' 68, slot a' 69, slot a' 70, slot a' 71, slot a' 72, slot a' 73, slot a' 74, slot a' 75, slot a' 76, slot a' 77, slot a' 78, slot a' 79, slot a' 80, slot a' 81, slot a' 82, slot a' 83, slot a' 84, slot a' 85, slot a' 86, slot a' 87, slot a' 88, slot a' 89, slot a' 90, slot a' 91, slot a' 92, slot a' 93, slot a' 94, slot a' 95, slot a' 96, slot a' 97, slot a' 98, slot a' 99], defers := [] } ∧ LmJ c.args X #[.int .i64 c.n, .int .i64 c.fn, .int .i64 c.pos, .slice au c.args.length capu, .bool false, .int .i64 c.ans] w2 w' m) (fun a' _ => (c.args.length - (intOf (a'.tmps.getD 5 undef)).toNat)) ?_ ?_
              · exact ⟨0, rfl, by omega, fun i hi => by omega, hbx, Below.refl _ _⟩
              · clear hbx
                rintro R a' w3 ⟨m, hfr, hJ⟩ HR
                obtain ⟨f, hf⟩ : ∃ f, f = slot a' := ⟨_, rfl⟩
                rw [← hf] at hfr
                clear hf
                subst hfr
                obtain ⟨hm, hmm, hbx, hb3⟩ := hJ
                have hbw := hb0.trans (hb3.mono hb0.size)
                have HMV := Lib.hid hmm
                obtain ⟨⟨x0, x1, x2, x3, x4, x5⟩, -⟩ := hbx.six
                clear hmm
                by_cases hml : m < c.args.length
                · obtain ⟨v, hv⟩ : ∃ v, c.args[m]? = some v := ⟨_, List.getElem?_eq_getElem hml⟩
                  obtain ⟨a', cap', hva, _, _, hcells⟩ := HU2.out.below hb3
                  injection hva with e1 e2 e3
                  subst e1 e3
                  obtain ⟨bv', offv, rfl, hltv, hcv⟩ := hcells m v hv
                  have y0 := hcv 0 _ rfl
                  have y1 := hcv 1 _ rfl
                  rw [Nat.add_zero] at y0
                  have HV := Lib.hid hv
                  clear hcells hcv e2 hv
                  go_wp2_with fail
                  refine (refMay_any v _).mono ?_
                  rintro x w4 ⟨rfl, hb4⟩
                  have hbx4 := hbx.below hb4 hbx.lt
                  have hbw4 := hbw.trans (hb4.mono hbw.size)
                  have hb34 := hb3.trans (hb4.mono hb3.size)
                  clear hb4 hb3 hbw x0 x1 x2 x3 x4 x5 y0 y1 hbx
                  by_cases hvm : v.may
                  · have hr : decide v.may = true := decide_eq_true hvm
                    have HVM := Lib.hid hvm
                    clear hvm
                    rw [hr]
                    clear hr
                    go_wp2_with fail
                    refine HR.out _ _ ⟨m + 1, rfl, by omega, ?_, hbx4, hb34⟩ ?_
                    · intro i hi x hx
                      rcases Nat.lt_or_ge i m with h | h
                      · exact HMV.out i h x hx
                      · obtain rfl : i = m := by omega
                        rw [HV.out] at hx
                        injection hx with hx
                        rw [← hx]
                        exact HVM.out
                    · simp [intOf]
                      omega
                  · have hr : decide v.may = false := decide_eq_false hvm
                    have HVM := Lib.hid hvm
                    clear hvm
                    rw [hr]
                    clear hr
                    go_wp2_with fail
                    go_ret
                    exact ⟨false, rfl, ⟨fun h => (by cases h), fun h => absurd ((h.1 ((j + 1)) hkl c HE.out).1.2.2.2.2.2.2.2.1 v (List.mem_of_getElem? HV.out)) HVM.out⟩, hbw4⟩
                · obtain rfl : m = c.args.length := by omega
                  go_wp2_with fail
                  refine HRO.out _ _ ⟨(j + 1) + 1, rfl, by omega, ?_, hbw⟩ ?_
                  · intro i hi x hx
                    rcases Nat.lt_or_ge i ((j + 1)) with h | h
                    · exact HMM.out i h x hx
                    · obtain rfl : i = (j + 1) := by omega
                      rw [HE.out] at hx
                      injection hx with hx
                      subst hx
                      refine ⟨HX.out (fun v hv => ?_), HLT.out, HHH.out⟩
                      obtain ⟨i, hi⟩ := List.mem_iff_getElem?.1 hv
                      exact HMV.out i (List.getElem?_eq_some_iff.1 hi).1 v hi
                  · simp [intOf]
                    omega
            · have f10 := ine_true q10
              have H10 := Lib.hid q10
              clear q10
              have HX := Lib.hid (show ¬ (c.may ∧ (∀ d, 0 < (j + 1) → l[(j + 1) - 1]? = some d → c.n = d.n + 1) ∧ ((j + 1) + 1 < l.length → c.has = true)) from (fun h => h.1.2.2.2.2.2.2.2.2.elim HNO.out H10.out))
              go_wp2_with fail
              refine wp_region_seq (Cells7 b off j w1.heap.size c d (.slice au c.args.length capu) false) [(0, true), (1, true), (2, true), (3, true), (4, true), (5, true), (6, true), (7, true), (8, true), (9, true), (10, true), (11, true), (12, true), (13, true), (14, true), (15, true), (16, true), (17, true), (18, true), (19, true), (20, true), (21, true), (22, true), (23, true), (24, true), (25, true), (26, true), (27, true), (28, true), (29, true), (30, true), (31, true), (32, true), (33, true), (34, true), (35, true), (36, true), (37, true), (38, true), (39, true), (40, true), (41, true), (42, true), (43, true), (44, true), (45, true), (46, true), (47, true), (48, true), (49, true), (50, true), (51, true), (52, true), (53, true), (54, true), (55, true), (56, true), (57, true), (58, true), (59, true), (60, true), (61, true), (62, true), (63, true), (64, true), (65, true), (66, true)] (by kernel_rfl) (by kernel_rfl) ?_ ?_
              · exact ⟨by simp, by simp, by simp, by simp, by simp, by simp, cell_alloc_old hd⟩
              iterate 67 (first | (apply seg_skip rfl rfl; simp only [Act.put, List.setIfInBounds_toArray, List.set_cons_succ, List.set_cons_zero]) | (apply seg_pure rfl rfl rfl; · (rintro w' ⟨t0, t1, t2, t3, t4, t5, t6⟩; go_wp2; exact ⟨rfl, rfl, rfl⟩)))
              refine seg_nil ?_
              refine NoPanic.normal ?_
              go_wp2_with fail
              go_ret
              exact ⟨false, rfl, ⟨fun h => (by cases h), fun h => absurd (h.1 ((j + 1)) hkl c HE.out) HX.out⟩, (hb.alloc hb.size _).drew⟩
        · have f3 := ine_true q3
          have Q3 := Lib.hid q3
          clear q3
          have HX := Lib.hid (show ¬ (c.may ∧ (∀ d, 0 < (j + 1) → l[(j + 1) - 1]? = some d → c.n = d.n + 1) ∧ ((j + 1) + 1 < l.length → c.has = true)) from (fun h => Q3.out (h.2.1 d (by omega) HD0.out)))
          go_wp2_with fail
          refine wp_region_seq (Cells7 b off j w1.heap.size c d (.slice au c.args.length capu) hs) [(0, true), (1, true), (2, true), (3, true), (4, true), (5, true), (6, true), (7, true), (8, true), (9, true), (10, true), (11, true), (12, true), (13, true), (14, true), (15, true), (16, true), (17, true), (18, true), (19, true), (20, true), (21, true), (22, true), (23, true), (24, true), (25, true), (26, true), (27, true), (28, true), (29, true), (30, true), (31, true), (32, true), (33, true), (34, true), (35, true), (36, true), (37, true), (38, true), (39, true), (40, true), (41, true), (42, true), (43, true), (44, true), (45, true), (46, true), (47, true), (48, true), (49, true), (50, true), (51, true), (52, true), (53, true), (54, true), (55, true), (56, true), (57, true), (58, true), (59, true), (60, true), (61, true), (62, true), (63, true), (64, true), (65, true), (66, true)] (by kernel_rfl) (by kernel_rfl) ?_ ?_
          · exact ⟨by simp, by simp, by simp, by simp, by simp, by simp, cell_alloc_old hd⟩
          iterate 67 (first | (apply seg_skip rfl rfl; simp only [Act.put, List.setIfInBounds_toArray, List.set_cons_succ, List.set_cons_zero]) | (apply seg_pure rfl rfl rfl; · (rintro w' ⟨t0, t1, t2, t3, t4, t5, t6⟩; go_wp2; exact ⟨rfl, rfl, rfl⟩)))
          refine seg_nil ?_
          refine NoPanic.normal ?_
          go_wp2_with fail
          go_ret
          exact ⟨false, rfl, ⟨fun h => (by cases h), fun h => absurd (h.1 ((j + 1)) hkl c HE.out) HX.out⟩, (hb.alloc hb.size _).drew⟩
    · obtain rfl : k = l.length := by omega
      by_cases h32 : l.length ≤ 8
      · have f3 : decide ((l.length : Int) ≤ 8) = true := decide_eq_true (by omega)
        go_wp2_with fail
        go_ret
        exact ⟨true, rfl, ⟨fun _ => ⟨HMM.out, h32⟩, fun _ => rfl⟩, hb⟩
      · have f3 : decide ((l.length : Int) ≤ 8) = false := decide_eq_false (by omega)
        go_wp2_with fail
        go_ret
        exact ⟨false, rfl, ⟨fun h => (by cases h), fun h => absurd h.2 h32⟩, hb⟩
end Go.Proofs.Ytbgeijdfkdfdoaa
