/-
  Walk of the statements' own function may.
-/
import Derived.Test.YtbgeijdfkdfdoaaDirJ
namespace Go.Proofs.Ytbgeijdfkdfdoaa
open Go.RowKit

theorem less_tri : ∀ (x y : List UInt8), (Op.bytesLess y x || y == x) = !Op.bytesLess x y
  | [], [] => rfl
  | [], b :: y => rfl
  | a :: x, [] => rfl
  | a :: x, b :: y => by
    have ih := less_tri x y
    have hb : ((b :: y) == (a :: x)) = (b == a && y == x) := rfl
    rw [hb, Op.bytesLess, Op.bytesLess]
    rcases Nat.lt_trichotomy a.toNat b.toNat with h | h | h
    · have h1 : (decide (a < b)) = true := decide_eq_true (UInt8.lt_iff_toNat_lt.2 h)
      have h2 : (decide (b < a)) = false := decide_eq_false (fun g => by have := UInt8.lt_iff_toNat_lt.1 g; omega)
      have h3 : (b == a) = false := beq_eq_false_iff_ne.2 (fun g => by rw [g] at h; omega)
      rw [h1, h2, h3]
      rfl
    · have e : a = b := UInt8.toNat_inj.1 h
      subst e
      have h1 : (decide (a < a)) = false := decide_eq_false (fun g => by have := UInt8.lt_iff_toNat_lt.1 g; omega)
      rw [h1, beq_self_eq_true]
      simpa using ih
    · have h1 : (decide (b < a)) = true := decide_eq_true (UInt8.lt_iff_toNat_lt.2 h)
      have h2 : (decide (a < b)) = false := decide_eq_false (fun g => by have := UInt8.lt_iff_toNat_lt.1 g; omega)
      have h3 : (a == b) = false := beq_eq_false_iff_ne.2 (fun g => by rw [g] at h; omega)
      rw [h1, h2, h3]
      rfl

def Cells5 (b off j X : Nat) (e d : DEnt) (w : World) : Prop :=
  w.cell? ⟨X, 0, none⟩ = some (.string (bs e.name)) ∧ w.cell? ⟨X, 1, none⟩ = some (.int .i64 e.len) ∧ w.cell? ⟨X, 2, none⟩ = some (.int .i64 e.pos) ∧ w.cell? ⟨X, 3, none⟩ = some (.int .i64 e.sp) ∧
  w.cell? ⟨b, off + j * 4, none⟩ = some (.string (bs d.name))



set_option maxRecDepth 100000 in
set_option maxHeartbeats 4000000 in
theorem lawMay_any (v : Value) (l : List DEnt) (w : World) (hl : IsEnts w v l) : Calls Try.prog 30 #[v] w (MayEnd l w) := by
  have HI := Lib.hid hl
  obtain ⟨a, cap, rfl, h1, h2, _⟩ := hl
  unfold maxLen at h2
  go_enter Try.func30, Try.ntmps30
  go_wp2_with fail
  refine wp_loop_r (fun a' w' => ∃ (k : Nat), a' = { tmps := #[.slice a l.length cap, slot a' 1, slot a' 2, .int .i64 k, slot a' 4, slot a' 5, slot a' 6, slot a' 7, slot a' 8, slot a' 9, slot a' 10, slot a' 11, slot a' 12, slot a' 13, slot a' 14, slot a' 15, slot a' 16, slot a' 17, slot a' 18, slot a' 19, slot a' 20, slot a' 21, slot a' 22, slot a' 23, slot a' 24, slot a' 25, slot a' 26, slot a' 27, slot a' 28, slot a' 29, slot a' 30, slot a' 31, slot a' 32, slot a' 33, slot a' 34, slot a' 35, slot a' 36, slot a' 37, slot a' 38, slot a' 39, slot a' 40, slot a' 41, slot a' 42, slot a' 43, slot a' 44, slot a' 45, slot a' 46, slot a' 47, slot a' 48, slot a' 49, slot a' 50, slot a' 51, slot a' 52, slot a' 53, slot a' 54, slot a' 55, slot a' 56, slot a' 57, slot a' 58, slot a' 59, slot a' 60, slot a' 61, slot a' 62, slot a' 63, slot a' 64, slot a' 65, slot a' 66, slot a' 67, slot a' 68, slot a' 69, slot a' 70, slot a' 71, slot a' 72, slot a' 73, slot a' 74, slot a' 75, slot a' 76, slot a' 77, slot a' 78, slot a' 79, slot a' 80, slot a' 81, slot a' 82, slot a' 83, slot a' 84], defers := [] } ∧ MayJ l w w' k) (fun a' _ => (l.length - (intOf (a'.tmps.getD 3 undef)).toNat)) ?_ ?_
  · exact ⟨0, rfl, by omega, fun i hi => by omega, Below.refl _ _⟩
  · skip
    rintro R a' w1 ⟨k, hfr, hJ⟩ HR
    obtain ⟨f, hf⟩ : ∃ f, f = slot a' := ⟨_, rfl⟩
    rw [← hf] at hfr
    clear hf
    subst hfr
    obtain ⟨hk, hm, hb⟩ := hJ
    have HMM := Lib.hid hm
    clear hm
    by_cases hkl : k < l.length
    · obtain ⟨e, he⟩ : ∃ e, l[k]? = some e := ⟨_, List.getElem?_eq_getElem hkl⟩
      obtain ⟨d, hd0⟩ : ∃ d, l[k - 1]? = some d := ⟨_, List.getElem?_eq_getElem (by omega)⟩
      obtain ⟨a', cap', hv, _, _, hcells⟩ := HI.out.below (hb.mono (Nat.le_refl _))
      injection hv with e1 e2 e3
      subst e1 e3
      obtain ⟨ho, b, off, rfl, c0, c1, c2, c3⟩ := hcells k e he
      obtain ⟨-, b', off', hbo, hd, -⟩ := hcells (k - 1) d hd0
      injection hbo with hbo
      injection hbo with hbo1 hbo2
      subst hbo1 hbo2
      obtain ⟨b1, ⟨b2, b3⟩, ⟨b4, b5⟩, ⟨b6, b7⟩⟩ := ho
      clear hcells e2
      have HE := Lib.hid he
      have HD0 := Lib.hid hd0
      have hsz := bs_size e.name
      have HSZ := Lib.hid hsz
      have HN := Lib.hid (show ∀ k : Int, ((bs e.name).size : Int) < k ↔ (e.name.length : Int) < k from fun k => by rw [hsz])
      have HK := Lib.hid (show ∀ k : Int, k < ((bs e.name).size : Int) ↔ k < (e.name.length : Int) from fun k => by rw [hsz])
      clear he hd0 hsz
      obtain ⟨j, hj⟩ : ∃ j, j = k - 1 := ⟨_, rfl⟩
      rw [← hj] at hd
      by_cases q1 : e.name.length < 1
      · have f1 : decide (((bs e.name).size : Int) < 1) = true := decide_eq_true ((HN.out 1).2 (by omega))
        have HX := Lib.hid (show ¬ (e.may ∧ ∀ d, 0 < k → l[k - 1]? = some d → Op.bytesLess d.name e.name = true) from (fun h => absurd h.1.1 (by omega)))
        go_wp2_with fail
        refine wp_region_seq (Cells5 b off j w1.heap.size e d) [(0, true), (1, true), (2, true), (3, true), (4, true), (5, true), (6, true), (7, true), (8, true), (9, true),
              (10, true), (11, true), (12, true), (13, true), (14, true), (15, true), (16, true), (17, true), (18, true),
              (19, true), (20, true), (21, true), (22, true), (23, true), (24, true), (25, true), (26, true), (27, true),
              (28, true), (29, true), (30, true), (31, true), (32, true), (33, true), (34, true), (35, true), (36, true),
              (37, true), (38, true), (39, true), (40, true), (41, true), (42, true), (43, true), (44, true)] (by kernel_rfl) (by kernel_rfl) ?_ ?_
        · exact ⟨by simp, by simp, by simp, by simp, cell_alloc_old hd⟩
        iterate 45 (first | (apply seg_skip rfl rfl; simp only [Act.put, List.setIfInBounds_toArray, List.set_cons_succ, List.set_cons_zero]) | (apply seg_pure rfl rfl rfl; · (rintro w' ⟨t0, t1, t2, t3, t4⟩; go_wp2; exact ⟨rfl, rfl, rfl⟩)))
        refine seg_nil ?_
        refine NoPanic.normal ?_
        go_wp2_with fail
        go_ret
        exact ⟨false, rfl, ⟨fun h => (by cases h), fun h => absurd (h.1 (k) hkl e HE.out) HX.out⟩, (hb.alloc hb.size _).drew⟩
      have f1 : decide (((bs e.name).size : Int) < 1) = false := decide_eq_false (fun h => by have := (HN.out 1).1 h; omega)
      by_cases q2 : 20 < e.name.length
      · have f2 : decide (20 < ((bs e.name).size : Int)) = true := decide_eq_true ((HK.out 20).2 (by omega))
        have HX := Lib.hid (show ¬ (e.may ∧ ∀ d, 0 < k → l[k - 1]? = some d → Op.bytesLess d.name e.name = true) from (fun h => absurd h.1.2.1 (by omega)))
        go_wp2_with fail
        refine wp_region_seq (Cells5 b off j w1.heap.size e d) [(0, true), (1, true), (2, true), (3, true), (4, true), (5, true), (6, true), (7, true), (8, true), (9, true),
              (10, true), (11, true), (12, true), (13, true), (14, true), (15, true), (16, true), (17, true), (18, true),
              (19, true), (20, true), (21, true), (22, true), (23, true), (24, true), (25, true), (26, true), (27, true),
              (28, true), (29, true), (30, true), (31, true), (32, true), (33, true), (34, true), (35, true), (36, true),
              (37, true), (38, true), (39, true), (40, true), (41, true), (42, true), (43, true), (44, true)] (by kernel_rfl) (by kernel_rfl) ?_ ?_
        · exact ⟨by simp, by simp, by simp, by simp, cell_alloc_old hd⟩
        iterate 45 (first | (apply seg_skip rfl rfl; simp only [Act.put, List.setIfInBounds_toArray, List.set_cons_succ, List.set_cons_zero]) | (apply seg_pure rfl rfl rfl; · (rintro w' ⟨t0, t1, t2, t3, t4⟩; go_wp2; exact ⟨rfl, rfl, rfl⟩)))
        refine seg_nil ?_
        refine NoPanic.normal ?_
        go_wp2_with fail
        go_ret
        exact ⟨false, rfl, ⟨fun h => (by cases h), fun h => absurd (h.1 (k) hkl e HE.out) HX.out⟩, (hb.alloc hb.size _).drew⟩
      have f2 : decide (20 < ((bs e.name).size : Int)) = false := decide_eq_false (fun h => by have := (HK.out 20).1 h; omega)
      rcases Nat.eq_zero_or_pos k with hk0 | hk0
      · subst hk0
        have f0 : decide ((0 : Int) < ((0 : Nat) : Int)) = false := rfl
        have HLT := Lib.hid (show ∀ d, 0 < 0 → l[0 - 1]? = some d → Op.bytesLess d.name e.name = true from fun d h => by omega)
        simp only [Nat.zero_mul, Nat.add_zero] at c0 c1 c2 c3
        by_cases q4 : e.len < 0
        · have f4 : decide (e.len < 0) = true := decide_eq_true q4
          have HX := Lib.hid (show ¬ (e.may ∧ ∀ d, 0 < 0 → l[0 - 1]? = some d → Op.bytesLess d.name e.name = true) from (fun h => absurd h.1.2.2.1 (by omega)))
          go_wp2_with fail
          refine wp_region_seq (Cells5 b off j w1.heap.size e d) [(0, true), (1, true), (2, true), (3, true), (4, true), (5, true), (6, true), (7, true), (8, true), (9, true),
                (10, true), (11, true), (12, true), (13, true), (14, true), (15, true), (16, true), (17, true), (18, true),
                (19, true), (20, true), (21, true), (22, true), (23, true), (24, true), (25, true), (26, true), (27, true),
                (28, true), (29, true), (30, true), (31, true), (32, true), (33, true), (34, true), (35, true), (36, true),
                (37, true), (38, true), (39, true), (40, true), (41, true), (42, true), (43, true), (44, true)] (by kernel_rfl) (by kernel_rfl) ?_ ?_
          · exact ⟨by simp, by simp, by simp, by simp, cell_alloc_old hd⟩
          iterate 45 (first | (apply seg_skip rfl rfl; simp only [Act.put, List.setIfInBounds_toArray, List.set_cons_succ, List.set_cons_zero]) | (apply seg_pure rfl rfl rfl; · (rintro w' ⟨t0, t1, t2, t3, t4⟩; go_wp2; exact ⟨rfl, rfl, rfl⟩)))
          refine seg_nil ?_
          refine NoPanic.normal ?_
          go_wp2_with fail
          go_ret
          exact ⟨false, rfl, ⟨fun h => (by cases h), fun h => absurd (h.1 (0) hkl e HE.out) HX.out⟩, (hb.alloc hb.size _).drew⟩
        have f4 : decide (e.len < 0) = false := decide_eq_false q4
        by_cases q5 : 65536 < e.len
        · have f5 : decide (65536 < e.len) = true := decide_eq_true q5
          have HX := Lib.hid (show ¬ (e.may ∧ ∀ d, 0 < 0 → l[0 - 1]? = some d → Op.bytesLess d.name e.name = true) from (fun h => absurd h.1.2.2.2.1 (by omega)))
          go_wp2_with fail
          refine wp_region_seq (Cells5 b off j w1.heap.size e d) [(0, true), (1, true), (2, true), (3, true), (4, true), (5, true), (6, true), (7, true), (8, true), (9, true),
                (10, true), (11, true), (12, true), (13, true), (14, true), (15, true), (16, true), (17, true), (18, true),
                (19, true), (20, true), (21, true), (22, true), (23, true), (24, true), (25, true), (26, true), (27, true),
                (28, true), (29, true), (30, true), (31, true), (32, true), (33, true), (34, true), (35, true), (36, true),
                (37, true), (38, true), (39, true), (40, true), (41, true), (42, true), (43, true), (44, true)] (by kernel_rfl) (by kernel_rfl) ?_ ?_
          · exact ⟨by simp, by simp, by simp, by simp, cell_alloc_old hd⟩
          iterate 45 (first | (apply seg_skip rfl rfl; simp only [Act.put, List.setIfInBounds_toArray, List.set_cons_succ, List.set_cons_zero]) | (apply seg_pure rfl rfl rfl; · (rintro w' ⟨t0, t1, t2, t3, t4⟩; go_wp2; exact ⟨rfl, rfl, rfl⟩)))
          refine seg_nil ?_
          refine NoPanic.normal ?_
          go_wp2_with fail
          go_ret
          exact ⟨false, rfl, ⟨fun h => (by cases h), fun h => absurd (h.1 (0) hkl e HE.out) HX.out⟩, (hb.alloc hb.size _).drew⟩
        have f5 : decide (65536 < e.len) = false := decide_eq_false q5
        by_cases q6 : e.sp = (e.len + 63) / 64
        · have f6 := ine_false q6
          have Q6 := Lib.hid q6
          have q6' : e.sp = 0 ↔ e.len = 0 := by omega
          have Q6' := Lib.hid q6'
          clear q6 q6'
          by_cases q7 : e.pos < 0
          · have f7 : decide (e.pos < 0) = true := decide_eq_true q7
            have HX := Lib.hid (show ¬ (e.may ∧ ∀ d, 0 < 0 → l[0 - 1]? = some d → Op.bytesLess d.name e.name = true) from (fun h => absurd h.1.2.2.2.2.2.1 (by omega)))
            go_wp2_with fail
            refine wp_region_seq (Cells5 b off j w1.heap.size e d) [(0, true), (1, true), (2, true), (3, true), (4, true), (5, true), (6, true), (7, true), (8, true), (9, true),
                  (10, true), (11, true), (12, true), (13, true), (14, true), (15, true), (16, true), (17, true), (18, true),
                  (19, true), (20, true), (21, true), (22, true), (23, true), (24, true), (25, true), (26, true), (27, true),
                  (28, true), (29, true), (30, true), (31, true), (32, true), (33, true), (34, true), (35, true), (36, true),
                  (37, true), (38, true), (39, true), (40, true), (41, true), (42, true), (43, true), (44, true)] (by kernel_rfl) (by kernel_rfl) ?_ ?_
            · exact ⟨by simp, by simp, by simp, by simp, cell_alloc_old hd⟩
            iterate 45 (first | (apply seg_skip rfl rfl; simp only [Act.put, List.setIfInBounds_toArray, List.set_cons_succ, List.set_cons_zero]) | (apply seg_pure rfl rfl rfl; · (rintro w' ⟨t0, t1, t2, t3, t4⟩; go_wp2; exact ⟨rfl, rfl, rfl⟩)))
            refine seg_nil ?_
            refine NoPanic.normal ?_
            go_wp2_with fail
            go_ret
            exact ⟨false, rfl, ⟨fun h => (by cases h), fun h => absurd (h.1 (0) hkl e HE.out) HX.out⟩, (hb.alloc hb.size _).drew⟩
          have f7 : decide (e.pos < 0) = false := decide_eq_false q7
          by_cases q8 : 2048 < e.pos
          · have f8 : decide (2048 < e.pos) = true := decide_eq_true q8
            have HX := Lib.hid (show ¬ (e.may ∧ ∀ d, 0 < 0 → l[0 - 1]? = some d → Op.bytesLess d.name e.name = true) from (fun h => absurd h.1.2.2.2.2.2.2.1 (by omega)))
            go_wp2_with fail
            refine wp_region_seq (Cells5 b off j w1.heap.size e d) [(0, true), (1, true), (2, true), (3, true), (4, true), (5, true), (6, true), (7, true), (8, true), (9, true),
                  (10, true), (11, true), (12, true), (13, true), (14, true), (15, true), (16, true), (17, true), (18, true),
                  (19, true), (20, true), (21, true), (22, true), (23, true), (24, true), (25, true), (26, true), (27, true),
                  (28, true), (29, true), (30, true), (31, true), (32, true), (33, true), (34, true), (35, true), (36, true),
                  (37, true), (38, true), (39, true), (40, true), (41, true), (42, true), (43, true), (44, true)] (by kernel_rfl) (by kernel_rfl) ?_ ?_
            · exact ⟨by simp, by simp, by simp, by simp, cell_alloc_old hd⟩
            iterate 45 (first | (apply seg_skip rfl rfl; simp only [Act.put, List.setIfInBounds_toArray, List.set_cons_succ, List.set_cons_zero]) | (apply seg_pure rfl rfl rfl; · (rintro w' ⟨t0, t1, t2, t3, t4⟩; go_wp2; exact ⟨rfl, rfl, rfl⟩)))
            refine seg_nil ?_
            refine NoPanic.normal ?_
            go_wp2_with fail
            go_ret
            exact ⟨false, rfl, ⟨fun h => (by cases h), fun h => absurd (h.1 (0) hkl e HE.out) HX.out⟩, (hb.alloc hb.size _).drew⟩
          have f8 : decide (2048 < e.pos) = false := decide_eq_false q8
          by_cases q9 : e.sp = 0
          · have f9 := ieq_true q9
            by_cases q10 : e.pos = 0
            · have f10 := ine_false q10
              have HM := Lib.hid (show e.may from ⟨by omega, by omega, by omega, by omega, Q6.out, by omega, by omega, .inr q10⟩)
              clear q9 q10
              have hb3 := (hb.alloc hb.size (.cells #[.string (bs e.name), .int .i64 e.len, .int .i64 e.pos, .int .i64 e.sp] 52)).drew
              go_wp2_with fail
              refine wp_region_seq (Cells5 b off j w1.heap.size e d) [(0, true), (1, true), (2, true), (3, true), (4, true), (5, true), (6, true), (7, true), (8, true), (9, true),
                    (10, true), (11, true), (12, true), (13, true), (14, true), (15, true), (16, true), (17, true), (18, true),
                    (19, true), (20, true), (21, true), (22, true), (23, true), (24, true), (25, true), (26, true), (27, true),
                    (28, true), (29, true), (30, true), (31, true), (32, true), (33, true), (34, true), (35, true), (36, true),
                    (37, true), (38, true), (39, true), (40, true), (41, true), (42, true), (43, true), (44, true)] (by kernel_rfl) (by kernel_rfl) ?_ ?_
              · exact ⟨by simp, by simp, by simp, by simp, cell_alloc_old hd⟩
              iterate 45 (first | (apply seg_skip rfl rfl; simp only [Act.put, List.setIfInBounds_toArray, List.set_cons_succ, List.set_cons_zero]) | (apply seg_pure rfl rfl rfl; · (rintro w' ⟨t0, t1, t2, t3, t4⟩; go_wp2; exact ⟨rfl, rfl, rfl⟩)))
              refine seg_nil ?_
              refine NoPanic.normal ?_
              go_wp2_with fail
              refine HR.out _ _ ⟨0 + 1, rfl, by omega, ?_, hb3⟩ ?_
              · intro i hi x hx
                rcases Nat.lt_or_ge i (0) with h | h
                · exact HMM.out i h x hx
                · obtain rfl : i = 0 := by omega
                  have hxe := HE.out
                  rw [hx] at hxe
                  injection hxe with hxe
                  subst hxe
                  exact ⟨HM.out, HLT.out⟩
              · simp [intOf]
                omega
            · have f10 := ine_true q10
              have q11 : e.len = 0 := Q6'.out.1 q9
              have HX := Lib.hid (show ¬ (0 < e.len ∨ e.pos = 0) from fun h => h.elim (fun h => by omega) q10)
              clear q9 q10 q11
              have HX := Lib.hid (show ¬ (e.may ∧ ∀ d, 0 < 0 → l[0 - 1]? = some d → Op.bytesLess d.name e.name = true) from (fun h => HX.out h.1.2.2.2.2.2.2.2))
              go_wp2_with fail
              refine wp_region_seq (Cells5 b off j w1.heap.size e d) [(0, true), (1, true), (2, true), (3, true), (4, true), (5, true), (6, true), (7, true), (8, true), (9, true),
                    (10, true), (11, true), (12, true), (13, true), (14, true), (15, true), (16, true), (17, true), (18, true),
                    (19, true), (20, true), (21, true), (22, true), (23, true), (24, true), (25, true), (26, true), (27, true),
                    (28, true), (29, true), (30, true), (31, true), (32, true), (33, true), (34, true), (35, true), (36, true),
                    (37, true), (38, true), (39, true), (40, true), (41, true), (42, true), (43, true), (44, true)] (by kernel_rfl) (by kernel_rfl) ?_ ?_
              · exact ⟨by simp, by simp, by simp, by simp, cell_alloc_old hd⟩
              iterate 45 (first | (apply seg_skip rfl rfl; simp only [Act.put, List.setIfInBounds_toArray, List.set_cons_succ, List.set_cons_zero]) | (apply seg_pure rfl rfl rfl; · (rintro w' ⟨t0, t1, t2, t3, t4⟩; go_wp2; exact ⟨rfl, rfl, rfl⟩)))
              refine seg_nil ?_
              refine NoPanic.normal ?_
              go_wp2_with fail
              go_ret
              exact ⟨false, rfl, ⟨fun h => (by cases h), fun h => absurd (h.1 (0) hkl e HE.out) HX.out⟩, (hb.alloc hb.size _).drew⟩
          · have f9 := ieq_false q9
            have HM := Lib.hid (show e.may from ⟨by omega, by omega, by omega, by omega, Q6.out, by omega, by omega, .inl (by by_cases g : e.len = 0; exact absurd (Q6'.out.2 g) q9; omega)⟩)
            clear q9
            have hb3 := (hb.alloc hb.size (.cells #[.string (bs e.name), .int .i64 e.len, .int .i64 e.pos, .int .i64 e.sp] 52)).drew
            go_wp2_with fail
            refine wp_region_seq (Cells5 b off j w1.heap.size e d) [(0, true), (1, true), (2, true), (3, true), (4, true), (5, true), (6, true), (7, true), (8, true), (9, true),
                  (10, true), (11, true), (12, true), (13, true), (14, true), (15, true), (16, true), (17, true), (18, true),
                  (19, true), (20, true), (21, true), (22, true), (23, true), (24, true), (25, true), (26, true), (27, true),
                  (28, true), (29, true), (30, true), (31, true), (32, true), (33, true), (34, true), (35, true), (36, true),
                  (37, true), (38, true), (39, true), (40, true), (41, true), (42, true), (43, true), (44, true)] (by kernel_rfl) (by kernel_rfl) ?_ ?_
            · exact ⟨by simp, by simp, by simp, by simp, cell_alloc_old hd⟩
            iterate 45 (first | (apply seg_skip rfl rfl; simp only [Act.put, List.setIfInBounds_toArray, List.set_cons_succ, List.set_cons_zero]) | (apply seg_pure rfl rfl rfl; · (rintro w' ⟨t0, t1, t2, t3, t4⟩; go_wp2; exact ⟨rfl, rfl, rfl⟩)))
            refine seg_nil ?_
            refine NoPanic.normal ?_
            go_wp2_with fail
            refine HR.out _ _ ⟨0 + 1, rfl, by omega, ?_, hb3⟩ ?_
            · intro i hi x hx
              rcases Nat.lt_or_ge i (0) with h | h
              · exact HMM.out i h x hx
              · obtain rfl : i = 0 := by omega
                have hxe := HE.out
                rw [hx] at hxe
                injection hxe with hxe
                subst hxe
                exact ⟨HM.out, HLT.out⟩
            · simp [intOf]
              omega
        · have f6 := ine_true q6
          have HX := Lib.hid (show ¬ (e.may ∧ ∀ d, 0 < 0 → l[0 - 1]? = some d → Op.bytesLess d.name e.name = true) from (fun h => q6 h.1.2.2.2.2.1))
          go_wp2_with fail
          refine wp_region_seq (Cells5 b off j w1.heap.size e d) [(0, true), (1, true), (2, true), (3, true), (4, true), (5, true), (6, true), (7, true), (8, true), (9, true),
                (10, true), (11, true), (12, true), (13, true), (14, true), (15, true), (16, true), (17, true), (18, true),
                (19, true), (20, true), (21, true), (22, true), (23, true), (24, true), (25, true), (26, true), (27, true),
                (28, true), (29, true), (30, true), (31, true), (32, true), (33, true), (34, true), (35, true), (36, true),
                (37, true), (38, true), (39, true), (40, true), (41, true), (42, true), (43, true), (44, true)] (by kernel_rfl) (by kernel_rfl) ?_ ?_
          · exact ⟨by simp, by simp, by simp, by simp, cell_alloc_old hd⟩
          iterate 45 (first | (apply seg_skip rfl rfl; simp only [Act.put, List.setIfInBounds_toArray, List.set_cons_succ, List.set_cons_zero]) | (apply seg_pure rfl rfl rfl; · (rintro w' ⟨t0, t1, t2, t3, t4⟩; go_wp2; exact ⟨rfl, rfl, rfl⟩)))
          refine seg_nil ?_
          refine NoPanic.normal ?_
          go_wp2_with fail
          go_ret
          exact ⟨false, rfl, ⟨fun h => (by cases h), fun h => absurd (h.1 (0) hkl e HE.out) HX.out⟩, (hb.alloc hb.size _).drew⟩
      · obtain rfl : k = j + 1 := by omega
        clear hj
        have f0 : decide ((0 : Int) < ((j + 1 : Nat) : Int)) = true := decide_eq_true (by omega)
        have tl1 := bs_toList d.name
        have tl2 := bs_toList e.name
        rw [Nat.add_sub_cancel] at HD0
        cases hbl' : Op.bytesLess d.name e.name
        · have tl3 : (Op.bytesLess (bs e.name).toList (bs d.name).toList || (bs e.name).toList == (bs d.name).toList) = !Op.bytesLess d.name e.name := by rw [tl1, tl2]; exact less_tri _ _
          rw [hbl'] at tl3
          rw [Bool.not_false] at tl3
          have HBL := Lib.hid hbl'
          clear tl1 tl2 hbl'
          have HX := Lib.hid (show ¬ (e.may ∧ ∀ d, 0 < (j + 1) → l[(j + 1) - 1]? = some d → Op.bytesLess d.name e.name = true) from (fun h => by have := h.2 d (by omega) HD0.out; rw [HBL.out] at this; cases this))
          go_wp2_with fail
          refine wp_region_seq (Cells5 b off j w1.heap.size e d) [(0, true), (1, true), (2, true), (3, true), (4, true), (5, true), (6, true), (7, true), (8, true), (9, true),
                (10, true), (11, true), (12, true), (13, true), (14, true), (15, true), (16, true), (17, true), (18, true),
                (19, true), (20, true), (21, true), (22, true), (23, true), (24, true), (25, true), (26, true), (27, true),
                (28, true), (29, true), (30, true), (31, true), (32, true), (33, true), (34, true), (35, true), (36, true),
                (37, true), (38, true), (39, true), (40, true), (41, true), (42, true), (43, true), (44, true)] (by kernel_rfl) (by kernel_rfl) ?_ ?_
          · exact ⟨by simp, by simp, by simp, by simp, cell_alloc_old hd⟩
          iterate 45 (first | (apply seg_skip rfl rfl; simp only [Act.put, List.setIfInBounds_toArray, List.set_cons_succ, List.set_cons_zero]) | (apply seg_pure rfl rfl rfl; · (rintro w' ⟨t0, t1, t2, t3, t4⟩; go_wp2; exact ⟨rfl, rfl, rfl⟩)))
          refine seg_nil ?_
          refine NoPanic.normal ?_
          go_wp2_with fail
          go_ret
          exact ⟨false, rfl, ⟨fun h => (by cases h), fun h => absurd (h.1 ((j + 1)) hkl e HE.out) HX.out⟩, (hb.alloc hb.size _).drew⟩
        · have tl3 : (Op.bytesLess (bs e.name).toList (bs d.name).toList || (bs e.name).toList == (bs d.name).toList) = !Op.bytesLess d.name e.name := by rw [tl1, tl2]; exact less_tri _ _
          rw [hbl'] at tl3
          rw [Bool.not_true] at tl3
          have HBL := Lib.hid hbl'
          clear tl1 tl2 hbl'
          have HLT := Lib.hid (show ∀ d, 0 < j + 1 → l[j + 1 - 1]? = some d → Op.bytesLess d.name e.name = true from fun d' _ hd' => by
            have hde := HD0.out
            rw [Nat.add_sub_cancel, hde] at hd'
            injection hd' with hd'
            rw [← hd']
            exact HBL.out)
          by_cases q4 : e.len < 0
          · have f4 : decide (e.len < 0) = true := decide_eq_true q4
            have HX := Lib.hid (show ¬ (e.may ∧ ∀ d, 0 < (j + 1) → l[(j + 1) - 1]? = some d → Op.bytesLess d.name e.name = true) from (fun h => absurd h.1.2.2.1 (by omega)))
            go_wp2_with fail
            refine wp_region_seq (Cells5 b off j w1.heap.size e d) [(0, true), (1, true), (2, true), (3, true), (4, true), (5, true), (6, true), (7, true), (8, true), (9, true),
                  (10, true), (11, true), (12, true), (13, true), (14, true), (15, true), (16, true), (17, true), (18, true),
                  (19, true), (20, true), (21, true), (22, true), (23, true), (24, true), (25, true), (26, true), (27, true),
                  (28, true), (29, true), (30, true), (31, true), (32, true), (33, true), (34, true), (35, true), (36, true),
                  (37, true), (38, true), (39, true), (40, true), (41, true), (42, true), (43, true), (44, true)] (by kernel_rfl) (by kernel_rfl) ?_ ?_
            · exact ⟨by simp, by simp, by simp, by simp, cell_alloc_old hd⟩
            iterate 45 (first | (apply seg_skip rfl rfl; simp only [Act.put, List.setIfInBounds_toArray, List.set_cons_succ, List.set_cons_zero]) | (apply seg_pure rfl rfl rfl; · (rintro w' ⟨t0, t1, t2, t3, t4⟩; go_wp2; exact ⟨rfl, rfl, rfl⟩)))
            refine seg_nil ?_
            refine NoPanic.normal ?_
            go_wp2_with fail
            go_ret
            exact ⟨false, rfl, ⟨fun h => (by cases h), fun h => absurd (h.1 ((j + 1)) hkl e HE.out) HX.out⟩, (hb.alloc hb.size _).drew⟩
          have f4 : decide (e.len < 0) = false := decide_eq_false q4
          by_cases q5 : 65536 < e.len
          · have f5 : decide (65536 < e.len) = true := decide_eq_true q5
            have HX := Lib.hid (show ¬ (e.may ∧ ∀ d, 0 < (j + 1) → l[(j + 1) - 1]? = some d → Op.bytesLess d.name e.name = true) from (fun h => absurd h.1.2.2.2.1 (by omega)))
            go_wp2_with fail
            refine wp_region_seq (Cells5 b off j w1.heap.size e d) [(0, true), (1, true), (2, true), (3, true), (4, true), (5, true), (6, true), (7, true), (8, true), (9, true),
                  (10, true), (11, true), (12, true), (13, true), (14, true), (15, true), (16, true), (17, true), (18, true),
                  (19, true), (20, true), (21, true), (22, true), (23, true), (24, true), (25, true), (26, true), (27, true),
                  (28, true), (29, true), (30, true), (31, true), (32, true), (33, true), (34, true), (35, true), (36, true),
                  (37, true), (38, true), (39, true), (40, true), (41, true), (42, true), (43, true), (44, true)] (by kernel_rfl) (by kernel_rfl) ?_ ?_
            · exact ⟨by simp, by simp, by simp, by simp, cell_alloc_old hd⟩
            iterate 45 (first | (apply seg_skip rfl rfl; simp only [Act.put, List.setIfInBounds_toArray, List.set_cons_succ, List.set_cons_zero]) | (apply seg_pure rfl rfl rfl; · (rintro w' ⟨t0, t1, t2, t3, t4⟩; go_wp2; exact ⟨rfl, rfl, rfl⟩)))
            refine seg_nil ?_
            refine NoPanic.normal ?_
            go_wp2_with fail
            go_ret
            exact ⟨false, rfl, ⟨fun h => (by cases h), fun h => absurd (h.1 ((j + 1)) hkl e HE.out) HX.out⟩, (hb.alloc hb.size _).drew⟩
          have f5 : decide (65536 < e.len) = false := decide_eq_false q5
          by_cases q6 : e.sp = (e.len + 63) / 64
          · have f6 := ine_false q6
            have Q6 := Lib.hid q6
            have q6' : e.sp = 0 ↔ e.len = 0 := by omega
            have Q6' := Lib.hid q6'
            clear q6 q6'
            by_cases q7 : e.pos < 0
            · have f7 : decide (e.pos < 0) = true := decide_eq_true q7
              have HX := Lib.hid (show ¬ (e.may ∧ ∀ d, 0 < (j + 1) → l[(j + 1) - 1]? = some d → Op.bytesLess d.name e.name = true) from (fun h => absurd h.1.2.2.2.2.2.1 (by omega)))
              go_wp2_with fail
              refine wp_region_seq (Cells5 b off j w1.heap.size e d) [(0, true), (1, true), (2, true), (3, true), (4, true), (5, true), (6, true), (7, true), (8, true), (9, true),
                    (10, true), (11, true), (12, true), (13, true), (14, true), (15, true), (16, true), (17, true), (18, true),
                    (19, true), (20, true), (21, true), (22, true), (23, true), (24, true), (25, true), (26, true), (27, true),
                    (28, true), (29, true), (30, true), (31, true), (32, true), (33, true), (34, true), (35, true), (36, true),
                    (37, true), (38, true), (39, true), (40, true), (41, true), (42, true), (43, true), (44, true)] (by kernel_rfl) (by kernel_rfl) ?_ ?_
              · exact ⟨by simp, by simp, by simp, by simp, cell_alloc_old hd⟩
              iterate 45 (first | (apply seg_skip rfl rfl; simp only [Act.put, List.setIfInBounds_toArray, List.set_cons_succ, List.set_cons_zero]) | (apply seg_pure rfl rfl rfl; · (rintro w' ⟨t0, t1, t2, t3, t4⟩; go_wp2; exact ⟨rfl, rfl, rfl⟩)))
              refine seg_nil ?_
              refine NoPanic.normal ?_
              go_wp2_with fail
              go_ret
              exact ⟨false, rfl, ⟨fun h => (by cases h), fun h => absurd (h.1 ((j + 1)) hkl e HE.out) HX.out⟩, (hb.alloc hb.size _).drew⟩
            have f7 : decide (e.pos < 0) = false := decide_eq_false q7
            by_cases q8 : 2048 < e.pos
            · have f8 : decide (2048 < e.pos) = true := decide_eq_true q8
              have HX := Lib.hid (show ¬ (e.may ∧ ∀ d, 0 < (j + 1) → l[(j + 1) - 1]? = some d → Op.bytesLess d.name e.name = true) from (fun h => absurd h.1.2.2.2.2.2.2.1 (by omega)))
              go_wp2_with fail
              refine wp_region_seq (Cells5 b off j w1.heap.size e d) [(0, true), (1, true), (2, true), (3, true), (4, true), (5, true), (6, true), (7, true), (8, true), (9, true),
                    (10, true), (11, true), (12, true), (13, true), (14, true), (15, true), (16, true), (17, true), (18, true),
                    (19, true), (20, true), (21, true), (22, true), (23, true), (24, true), (25, true), (26, true), (27, true),
                    (28, true), (29, true), (30, true), (31, true), (32, true), (33, true), (34, true), (35, true), (36, true),
                    (37, true), (38, true), (39, true), (40, true), (41, true), (42, true), (43, true), (44, true)] (by kernel_rfl) (by kernel_rfl) ?_ ?_
              · exact ⟨by simp, by simp, by simp, by simp, cell_alloc_old hd⟩
              iterate 45 (first | (apply seg_skip rfl rfl; simp only [Act.put, List.setIfInBounds_toArray, List.set_cons_succ, List.set_cons_zero]) | (apply seg_pure rfl rfl rfl; · (rintro w' ⟨t0, t1, t2, t3, t4⟩; go_wp2; exact ⟨rfl, rfl, rfl⟩)))
              refine seg_nil ?_
              refine NoPanic.normal ?_
              go_wp2_with fail
              go_ret
              exact ⟨false, rfl, ⟨fun h => (by cases h), fun h => absurd (h.1 ((j + 1)) hkl e HE.out) HX.out⟩, (hb.alloc hb.size _).drew⟩
            have f8 : decide (2048 < e.pos) = false := decide_eq_false q8
            by_cases q9 : e.sp = 0
            · have f9 := ieq_true q9
              by_cases q10 : e.pos = 0
              · have f10 := ine_false q10
                have HM := Lib.hid (show e.may from ⟨by omega, by omega, by omega, by omega, Q6.out, by omega, by omega, .inr q10⟩)
                clear q9 q10
                have hb3 := (hb.alloc hb.size (.cells #[.string (bs e.name), .int .i64 e.len, .int .i64 e.pos, .int .i64 e.sp] 52)).drew
                go_wp2_with fail
                refine wp_region_seq (Cells5 b off j w1.heap.size e d) [(0, true), (1, true), (2, true), (3, true), (4, true), (5, true), (6, true), (7, true), (8, true), (9, true),
                      (10, true), (11, true), (12, true), (13, true), (14, true), (15, true), (16, true), (17, true), (18, true),
                      (19, true), (20, true), (21, true), (22, true), (23, true), (24, true), (25, true), (26, true), (27, true),
                      (28, true), (29, true), (30, true), (31, true), (32, true), (33, true), (34, true), (35, true), (36, true),
                      (37, true), (38, true), (39, true), (40, true), (41, true), (42, true), (43, true), (44, true)] (by kernel_rfl) (by kernel_rfl) ?_ ?_
                · exact ⟨by simp, by simp, by simp, by simp, cell_alloc_old hd⟩
                iterate 45 (first | (apply seg_skip rfl rfl; simp only [Act.put, List.setIfInBounds_toArray, List.set_cons_succ, List.set_cons_zero]) | (apply seg_pure rfl rfl rfl; · (rintro w' ⟨t0, t1, t2, t3, t4⟩; go_wp2; exact ⟨rfl, rfl, rfl⟩)))
                refine seg_nil ?_
                refine NoPanic.normal ?_
                go_wp2_with fail
                refine HR.out _ _ ⟨(j + 1) + 1, rfl, by omega, ?_, hb3⟩ ?_
                · intro i hi x hx
                  rcases Nat.lt_or_ge i ((j + 1)) with h | h
                  · exact HMM.out i h x hx
                  · obtain rfl : i = (j + 1) := by omega
                    have hxe := HE.out
                    rw [hx] at hxe
                    injection hxe with hxe
                    subst hxe
                    exact ⟨HM.out, HLT.out⟩
                · simp [intOf]
                  omega
              · have f10 := ine_true q10
                have q11 : e.len = 0 := Q6'.out.1 q9
                have HX := Lib.hid (show ¬ (0 < e.len ∨ e.pos = 0) from fun h => h.elim (fun h => by omega) q10)
                clear q9 q10 q11
                have HX := Lib.hid (show ¬ (e.may ∧ ∀ d, 0 < (j + 1) → l[(j + 1) - 1]? = some d → Op.bytesLess d.name e.name = true) from (fun h => HX.out h.1.2.2.2.2.2.2.2))
                go_wp2_with fail
                refine wp_region_seq (Cells5 b off j w1.heap.size e d) [(0, true), (1, true), (2, true), (3, true), (4, true), (5, true), (6, true), (7, true), (8, true), (9, true),
                      (10, true), (11, true), (12, true), (13, true), (14, true), (15, true), (16, true), (17, true), (18, true),
                      (19, true), (20, true), (21, true), (22, true), (23, true), (24, true), (25, true), (26, true), (27, true),
                      (28, true), (29, true), (30, true), (31, true), (32, true), (33, true), (34, true), (35, true), (36, true),
                      (37, true), (38, true), (39, true), (40, true), (41, true), (42, true), (43, true), (44, true)] (by kernel_rfl) (by kernel_rfl) ?_ ?_
                · exact ⟨by simp, by simp, by simp, by simp, cell_alloc_old hd⟩
                iterate 45 (first | (apply seg_skip rfl rfl; simp only [Act.put, List.setIfInBounds_toArray, List.set_cons_succ, List.set_cons_zero]) | (apply seg_pure rfl rfl rfl; · (rintro w' ⟨t0, t1, t2, t3, t4⟩; go_wp2; exact ⟨rfl, rfl, rfl⟩)))
                refine seg_nil ?_
                refine NoPanic.normal ?_
                go_wp2_with fail
                go_ret
                exact ⟨false, rfl, ⟨fun h => (by cases h), fun h => absurd (h.1 ((j + 1)) hkl e HE.out) HX.out⟩, (hb.alloc hb.size _).drew⟩
            · have f9 := ieq_false q9
              have HM := Lib.hid (show e.may from ⟨by omega, by omega, by omega, by omega, Q6.out, by omega, by omega, .inl (by by_cases g : e.len = 0; exact absurd (Q6'.out.2 g) q9; omega)⟩)
              clear q9
              have hb3 := (hb.alloc hb.size (.cells #[.string (bs e.name), .int .i64 e.len, .int .i64 e.pos, .int .i64 e.sp] 52)).drew
              go_wp2_with fail
              refine wp_region_seq (Cells5 b off j w1.heap.size e d) [(0, true), (1, true), (2, true), (3, true), (4, true), (5, true), (6, true), (7, true), (8, true), (9, true),
                    (10, true), (11, true), (12, true), (13, true), (14, true), (15, true), (16, true), (17, true), (18, true),
                    (19, true), (20, true), (21, true), (22, true), (23, true), (24, true), (25, true), (26, true), (27, true),
                    (28, true), (29, true), (30, true), (31, true), (32, true), (33, true), (34, true), (35, true), (36, true),
                    (37, true), (38, true), (39, true), (40, true), (41, true), (42, true), (43, true), (44, true)] (by kernel_rfl) (by kernel_rfl) ?_ ?_
              · exact ⟨by simp, by simp, by simp, by simp, cell_alloc_old hd⟩
              iterate 45 (first | (apply seg_skip rfl rfl; simp only [Act.put, List.setIfInBounds_toArray, List.set_cons_succ, List.set_cons_zero]) | (apply seg_pure rfl rfl rfl; · (rintro w' ⟨t0, t1, t2, t3, t4⟩; go_wp2; exact ⟨rfl, rfl, rfl⟩)))
              refine seg_nil ?_
              refine NoPanic.normal ?_
              go_wp2_with fail
              refine HR.out _ _ ⟨(j + 1) + 1, rfl, by omega, ?_, hb3⟩ ?_
              · intro i hi x hx
                rcases Nat.lt_or_ge i ((j + 1)) with h | h
                · exact HMM.out i h x hx
                · obtain rfl : i = (j + 1) := by omega
                  have hxe := HE.out
                  rw [hx] at hxe
                  injection hxe with hxe
                  subst hxe
                  exact ⟨HM.out, HLT.out⟩
              · simp [intOf]
                omega
          · have f6 := ine_true q6
            have HX := Lib.hid (show ¬ (e.may ∧ ∀ d, 0 < (j + 1) → l[(j + 1) - 1]? = some d → Op.bytesLess d.name e.name = true) from (fun h => q6 h.1.2.2.2.2.1))
            go_wp2_with fail
            refine wp_region_seq (Cells5 b off j w1.heap.size e d) [(0, true), (1, true), (2, true), (3, true), (4, true), (5, true), (6, true), (7, true), (8, true), (9, true),
                  (10, true), (11, true), (12, true), (13, true), (14, true), (15, true), (16, true), (17, true), (18, true),
                  (19, true), (20, true), (21, true), (22, true), (23, true), (24, true), (25, true), (26, true), (27, true),
                  (28, true), (29, true), (30, true), (31, true), (32, true), (33, true), (34, true), (35, true), (36, true),
                  (37, true), (38, true), (39, true), (40, true), (41, true), (42, true), (43, true), (44, true)] (by kernel_rfl) (by kernel_rfl) ?_ ?_
            · exact ⟨by simp, by simp, by simp, by simp, cell_alloc_old hd⟩
            iterate 45 (first | (apply seg_skip rfl rfl; simp only [Act.put, List.setIfInBounds_toArray, List.set_cons_succ, List.set_cons_zero]) | (apply seg_pure rfl rfl rfl; · (rintro w' ⟨t0, t1, t2, t3, t4⟩; go_wp2; exact ⟨rfl, rfl, rfl⟩)))
            refine seg_nil ?_
            refine NoPanic.normal ?_
            go_wp2_with fail
            go_ret
            exact ⟨false, rfl, ⟨fun h => (by cases h), fun h => absurd (h.1 ((j + 1)) hkl e HE.out) HX.out⟩, (hb.alloc hb.size _).drew⟩
    · obtain rfl : k = l.length := by omega
      by_cases h32 : l.length ≤ 32
      · have f3 : decide ((l.length : Int) ≤ 32) = true := decide_eq_true (by omega)
        go_wp2_with fail
        go_ret
        exact ⟨true, rfl, ⟨fun _ => ⟨HMM.out, h32⟩, fun _ => rfl⟩, hb⟩
      · have f3 : decide ((l.length : Int) ≤ 32) = false := decide_eq_false (by omega)
        go_wp2_with fail
        go_ret
        exact ⟨false, rfl, ⟨fun h => (by cases h), fun h => absurd h.2 h32⟩, hb⟩
end Go.Proofs.Ytbgeijdfkdfdoaa
