/-
  Walks of dir.Sectors, dir.may: which entries may be.
-/
import Derived.Test.YtbgeijdfkdfdoaaPlain
namespace Go.Proofs.Ytbgeijdfkdfdoaa
open Go.RowKit

/-- An entry of a list. -/
structure DEnt where
  name : List UInt8
  len : Int
  pos : Int
  sp : Int

def encE (e : DEnt) : List Value := [.string (bs e.name), .int .i64 e.len, .int .i64 e.pos, .int .i64 e.sp]

/-- Its numbers are Go's. -/
def DEnt.ok (e : DEnt) : Prop := e.name.length ≤ 9223372036854775807 ∧ (-9223372036854775808 ≤ e.len ∧ e.len ≤ 9223372036854775807) ∧ (-9223372036854775808 ≤ e.pos ∧ e.pos ≤ 9223372036854775807) ∧ (-9223372036854775808 ≤ e.sp ∧ e.sp ≤ 9223372036854775807)

/-- May it be? -/
def DEnt.may (e : DEnt) : Prop :=
  1 ≤ e.name.length ∧ e.name.length ≤ 20 ∧ 0 ≤ e.len ∧ e.len ≤ 65536 ∧ e.sp = (e.len + 63) / 64 ∧ 0 ≤ e.pos ∧ e.pos ≤ 2048 ∧ (0 < e.len ∨ e.pos = 0)
instance (e : DEnt) : Decidable e.may := by unfold DEnt.may; infer_instance

def SecEnd (n : Int) (w : World) (e : Ending) (w' : World) : Prop := e = .returned (.int .i64 ((n + 63) / 64)) ∧ w = w'

theorem sectors_any (n : Int) (w : World) (h0 : 0 ≤ n) (h1 : n ≤ 65536) : Calls Try.prog 63 #[.int .i64 n] w (SecEnd n w) := by
  go_enter Try.func63, Try.ntmps63
  go_wp2
  go_ret
  refine ⟨?_, rfl⟩
  rw [show n + 63 = n + 64 - 1 from by omega]
  rfl

def BoolEnd (b : Bool) (w : World) (e : Ending) (w' : World) : Prop := e = .returned (.bool b) ∧ Below w.heap.size w w'


set_option maxRecDepth 100000 in
set_option maxHeartbeats 2000000 in
theorem may_any (e : DEnt) (he : e.ok) (w : World) : Calls Try.prog 48 #[.agg #[.string (bs e.name), .int .i64 e.len, .int .i64 e.pos, .int .i64 e.sp]] w (BoolEnd (decide e.may) w) := by
  obtain ⟨b1, ⟨b2, b3⟩, ⟨b4, b5⟩, ⟨b6, b7⟩⟩ := he
  have hsz := bs_size e.name
  have HSZ := Lib.hid hsz
  clear hsz
  have hN : ∀ k : Int, ((bs e.name).size : Int) < k ↔ (e.name.length : Int) < k := fun k => by rw [HSZ.out]
  have hM : ∀ k : Int, k < ((bs e.name).size : Int) ↔ k < (e.name.length : Int) := fun k => by rw [HSZ.out]
  have HN := Lib.hid hN
  have HM := Lib.hid hM
  clear hN hM
  by_cases c1 : e.name.length < 1
  · have f1 : decide (((bs e.name).size : Int) < 1) = true := decide_eq_true ((HN.out 1).2 (by omega))
    have hr : decide e.may = false := decide_eq_false (fun h => by have := h.1; omega)
    have HR := Lib.hid hr
    clear hr
    go_enter Try.func48, Try.ntmps48
    go_wp2_with fail
    refine wp_region_seq (fun w' => w'.cell? ⟨w.heap.size, 0, none⟩ = some (.string (bs e.name)) ∧ w'.cell? ⟨w.heap.size, 1, none⟩ = some (.int .i64 e.len) ∧ w'.cell? ⟨w.heap.size, 2, none⟩ = some (.int .i64 e.pos) ∧ w'.cell? ⟨w.heap.size, 3, none⟩ = some (.int .i64 e.sp)) [(0, true), (1, true), (2, true), (3, true), (4, true), (5, true), (6, true), (7, true), (8, true), (9, true), (10, true), (11, true), (12, true), (13, true), (14, true), (15, true), (16, true), (17, true), (18, true), (19, true), (20, true), (21, true), (22, true), (23, true), (24, true), (25, true), (26, false), (27, true), (28, true)] (by kernel_rfl) (by kernel_rfl) ⟨by simp, by simp, by simp, by simp⟩ ?_
    iterate 29 (first | (apply seg_skip rfl rfl; simp only [Act.put, List.setIfInBounds_toArray, List.set_cons_succ, List.set_cons_zero]) | (apply seg_pure rfl rfl rfl; · (rintro w' ⟨t0, t1, t2, t3⟩; go_wp2; exact ⟨rfl, rfl, rfl⟩)))
    refine seg_nil ?_
    refine NoPanic.normal ?_
    go_wp2_with fail
    go_ret
    exact ⟨by rw [HR.out]; rfl, ((Below.refl _ _).alloc (Nat.le_refl _) _).drew⟩
  have f1 : decide (((bs e.name).size : Int) < 1) = false := decide_eq_false (fun h => by have := (HN.out 1).1 h; omega)
  by_cases c2 : 20 < e.name.length
  · have f2 : decide (20 < ((bs e.name).size : Int)) = true := decide_eq_true ((HM.out 20).2 (by omega))
    have hr : decide e.may = false := decide_eq_false (fun h => by have := h.2.1; omega)
    have HR := Lib.hid hr
    clear hr
    go_enter Try.func48, Try.ntmps48
    go_wp2_with fail
    refine wp_region_seq (fun w' => w'.cell? ⟨w.heap.size, 0, none⟩ = some (.string (bs e.name)) ∧ w'.cell? ⟨w.heap.size, 1, none⟩ = some (.int .i64 e.len) ∧ w'.cell? ⟨w.heap.size, 2, none⟩ = some (.int .i64 e.pos) ∧ w'.cell? ⟨w.heap.size, 3, none⟩ = some (.int .i64 e.sp)) [(0, true), (1, true), (2, true), (3, true), (4, true), (5, true), (6, true), (7, true), (8, true), (9, true), (10, true), (11, true), (12, true), (13, true), (14, true), (15, true), (16, true), (17, true), (18, true), (19, true), (20, true), (21, true), (22, true), (23, true), (24, true), (25, true), (26, false), (27, true), (28, true)] (by kernel_rfl) (by kernel_rfl) ⟨by simp, by simp, by simp, by simp⟩ ?_
    iterate 29 (first | (apply seg_skip rfl rfl; simp only [Act.put, List.setIfInBounds_toArray, List.set_cons_succ, List.set_cons_zero]) | (apply seg_pure rfl rfl rfl; · (rintro w' ⟨t0, t1, t2, t3⟩; go_wp2; exact ⟨rfl, rfl, rfl⟩)))
    refine seg_nil ?_
    refine NoPanic.normal ?_
    go_wp2_with fail
    go_ret
    exact ⟨by rw [HR.out]; rfl, ((Below.refl _ _).alloc (Nat.le_refl _) _).drew⟩
  have f2 : decide (20 < ((bs e.name).size : Int)) = false := decide_eq_false (fun h => by have := (HM.out 20).1 h; omega)
  by_cases c3 : e.len < 0
  · have f3 : decide (e.len < 0) = true := decide_eq_true c3
    have hr : decide e.may = false := decide_eq_false (fun h => by have := h.2.2.1; omega)
    have HR := Lib.hid hr
    clear hr
    go_enter Try.func48, Try.ntmps48
    go_wp2_with fail
    refine wp_region_seq (fun w' => w'.cell? ⟨w.heap.size, 0, none⟩ = some (.string (bs e.name)) ∧ w'.cell? ⟨w.heap.size, 1, none⟩ = some (.int .i64 e.len) ∧ w'.cell? ⟨w.heap.size, 2, none⟩ = some (.int .i64 e.pos) ∧ w'.cell? ⟨w.heap.size, 3, none⟩ = some (.int .i64 e.sp)) [(0, true), (1, true), (2, true), (3, true), (4, true), (5, true), (6, true), (7, true), (8, true), (9, true), (10, true), (11, true), (12, true), (13, true), (14, true), (15, true), (16, true), (17, true), (18, true), (19, true), (20, true), (21, true), (22, true), (23, true), (24, true), (25, true), (26, false), (27, true), (28, true)] (by kernel_rfl) (by kernel_rfl) ⟨by simp, by simp, by simp, by simp⟩ ?_
    iterate 29 (first | (apply seg_skip rfl rfl; simp only [Act.put, List.setIfInBounds_toArray, List.set_cons_succ, List.set_cons_zero]) | (apply seg_pure rfl rfl rfl; · (rintro w' ⟨t0, t1, t2, t3⟩; go_wp2; exact ⟨rfl, rfl, rfl⟩)))
    refine seg_nil ?_
    refine NoPanic.normal ?_
    go_wp2_with fail
    go_ret
    exact ⟨by rw [HR.out]; rfl, ((Below.refl _ _).alloc (Nat.le_refl _) _).drew⟩
  have f3 : decide (e.len < 0) = false := decide_eq_false c3
  by_cases c4 : 65536 < e.len
  · have f4 : decide (65536 < e.len) = true := decide_eq_true c4
    have hr : decide e.may = false := decide_eq_false (fun h => by have := h.2.2.2.1; omega)
    have HR := Lib.hid hr
    clear hr
    go_enter Try.func48, Try.ntmps48
    go_wp2_with fail
    refine wp_region_seq (fun w' => w'.cell? ⟨w.heap.size, 0, none⟩ = some (.string (bs e.name)) ∧ w'.cell? ⟨w.heap.size, 1, none⟩ = some (.int .i64 e.len) ∧ w'.cell? ⟨w.heap.size, 2, none⟩ = some (.int .i64 e.pos) ∧ w'.cell? ⟨w.heap.size, 3, none⟩ = some (.int .i64 e.sp)) [(0, true), (1, true), (2, true), (3, true), (4, true), (5, true), (6, true), (7, true), (8, true), (9, true), (10, true), (11, true), (12, true), (13, true), (14, true), (15, true), (16, true), (17, true), (18, true), (19, true), (20, true), (21, true), (22, true), (23, true), (24, true), (25, true), (26, false), (27, true), (28, true)] (by kernel_rfl) (by kernel_rfl) ⟨by simp, by simp, by simp, by simp⟩ ?_
    iterate 29 (first | (apply seg_skip rfl rfl; simp only [Act.put, List.setIfInBounds_toArray, List.set_cons_succ, List.set_cons_zero]) | (apply seg_pure rfl rfl rfl; · (rintro w' ⟨t0, t1, t2, t3⟩; go_wp2; exact ⟨rfl, rfl, rfl⟩)))
    refine seg_nil ?_
    refine NoPanic.normal ?_
    go_wp2_with fail
    go_ret
    exact ⟨by rw [HR.out]; rfl, ((Below.refl _ _).alloc (Nat.le_refl _) _).drew⟩
  have f4 : decide (65536 < e.len) = false := decide_eq_false c4
  by_cases c5 : e.sp = (e.len + 63) / 64
  · have f5 : (e.sp != (e.len + 63) / 64) = false := ine_false c5
    have HC5 := Lib.hid c5
    clear c5
    by_cases c6 : e.pos < 0
    · have hr : decide e.may = false := decide_eq_false (fun h => by have := h.2.2.2.2.2.1; omega)
      have HR := Lib.hid hr
      clear hr
      go_enter Try.func48, Try.ntmps48
      go_wp2_with fail
      refine wp_region_seq (fun w' => w'.cell? ⟨w.heap.size, 0, none⟩ = some (.string (bs e.name)) ∧ w'.cell? ⟨w.heap.size, 1, none⟩ = some (.int .i64 e.len) ∧ w'.cell? ⟨w.heap.size, 2, none⟩ = some (.int .i64 e.pos) ∧ w'.cell? ⟨w.heap.size, 3, none⟩ = some (.int .i64 e.sp)) [(0, true), (1, true), (2, true), (3, true), (4, true), (5, true), (6, true), (7, true), (8, true), (9, true), (10, true), (11, true), (12, true), (13, true), (14, true), (15, true), (16, true), (17, true), (18, true), (19, true), (20, true), (21, true), (22, true), (23, true), (24, true), (25, true), (26, false), (27, true), (28, true)] (by kernel_rfl) (by kernel_rfl) ⟨by simp, by simp, by simp, by simp⟩ ?_
      iterate 26 (first | (apply seg_skip rfl rfl; simp only [Act.put, List.setIfInBounds_toArray, List.set_cons_succ, List.set_cons_zero]) | (apply seg_pure rfl rfl rfl; · (rintro w' ⟨t0, t1, t2, t3⟩; go_wp2; exact ⟨rfl, rfl, rfl⟩)))
      refine seg_loud rfl rfl ?_
      go_wp2_with fail
      refine (sectors_any e.len _ (by omega) (by omega)).mono ?_
      rintro x w2 ⟨rfl, rfl⟩
      go_wp2_with fail
      refine ⟨⟨by simp, by simp, by simp, by simp⟩, ?_⟩
      iterate 2 (first | (apply seg_skip rfl rfl; simp only [Act.put, List.setIfInBounds_toArray, List.set_cons_succ, List.set_cons_zero]) | (apply seg_pure rfl rfl rfl; · (rintro w' ⟨t0, t1, t2, t3⟩; go_wp2; exact ⟨rfl, rfl, rfl⟩)))
      refine seg_nil ?_
      refine NoPanic.normal ?_
      go_wp2_with fail
      go_ret
      exact ⟨by rw [HR.out]; rfl, ((Below.refl _ _).alloc (Nat.le_refl _) _).drew⟩
    by_cases c7 : 2048 < e.pos
    · have hr : decide e.may = false := decide_eq_false (fun h => by have := h.2.2.2.2.2.2.1; omega)
      have HR := Lib.hid hr
      clear hr
      go_enter Try.func48, Try.ntmps48
      go_wp2_with fail
      refine wp_region_seq (fun w' => w'.cell? ⟨w.heap.size, 0, none⟩ = some (.string (bs e.name)) ∧ w'.cell? ⟨w.heap.size, 1, none⟩ = some (.int .i64 e.len) ∧ w'.cell? ⟨w.heap.size, 2, none⟩ = some (.int .i64 e.pos) ∧ w'.cell? ⟨w.heap.size, 3, none⟩ = some (.int .i64 e.sp)) [(0, true), (1, true), (2, true), (3, true), (4, true), (5, true), (6, true), (7, true), (8, true), (9, true), (10, true), (11, true), (12, true), (13, true), (14, true), (15, true), (16, true), (17, true), (18, true), (19, true), (20, true), (21, true), (22, true), (23, true), (24, true), (25, true), (26, false), (27, true), (28, true)] (by kernel_rfl) (by kernel_rfl) ⟨by simp, by simp, by simp, by simp⟩ ?_
      iterate 26 (first | (apply seg_skip rfl rfl; simp only [Act.put, List.setIfInBounds_toArray, List.set_cons_succ, List.set_cons_zero]) | (apply seg_pure rfl rfl rfl; · (rintro w' ⟨t0, t1, t2, t3⟩; go_wp2; exact ⟨rfl, rfl, rfl⟩)))
      refine seg_loud rfl rfl ?_
      go_wp2_with fail
      refine (sectors_any e.len _ (by omega) (by omega)).mono ?_
      rintro x w2 ⟨rfl, rfl⟩
      go_wp2_with fail
      refine ⟨⟨by simp, by simp, by simp, by simp⟩, ?_⟩
      iterate 2 (first | (apply seg_skip rfl rfl; simp only [Act.put, List.setIfInBounds_toArray, List.set_cons_succ, List.set_cons_zero]) | (apply seg_pure rfl rfl rfl; · (rintro w' ⟨t0, t1, t2, t3⟩; go_wp2; exact ⟨rfl, rfl, rfl⟩)))
      refine seg_nil ?_
      refine NoPanic.normal ?_
      go_wp2_with fail
      go_ret
      exact ⟨by rw [HR.out]; rfl, ((Below.refl _ _).alloc (Nat.le_refl _) _).drew⟩
    by_cases c8 : 0 < e.len
    · have hr : decide e.may = true := decide_eq_true ⟨by omega, by omega, by omega, by omega, HC5.out, by omega, by omega, .inl c8⟩
      have f8 : decide (0 < e.len) = true := decide_eq_true c8
      have HR := Lib.hid hr
      clear hr
      go_enter Try.func48, Try.ntmps48
      go_wp2_with fail
      refine wp_region_seq (fun w' => w'.cell? ⟨w.heap.size, 0, none⟩ = some (.string (bs e.name)) ∧ w'.cell? ⟨w.heap.size, 1, none⟩ = some (.int .i64 e.len) ∧ w'.cell? ⟨w.heap.size, 2, none⟩ = some (.int .i64 e.pos) ∧ w'.cell? ⟨w.heap.size, 3, none⟩ = some (.int .i64 e.sp)) [(0, true), (1, true), (2, true), (3, true), (4, true), (5, true), (6, true), (7, true), (8, true), (9, true), (10, true), (11, true), (12, true), (13, true), (14, true), (15, true), (16, true), (17, true), (18, true), (19, true), (20, true), (21, true), (22, true), (23, true), (24, true), (25, true), (26, false), (27, true), (28, true)] (by kernel_rfl) (by kernel_rfl) ⟨by simp, by simp, by simp, by simp⟩ ?_
      iterate 26 (first | (apply seg_skip rfl rfl; simp only [Act.put, List.setIfInBounds_toArray, List.set_cons_succ, List.set_cons_zero]) | (apply seg_pure rfl rfl rfl; · (rintro w' ⟨t0, t1, t2, t3⟩; go_wp2; exact ⟨rfl, rfl, rfl⟩)))
      refine seg_loud rfl rfl ?_
      go_wp2_with fail
      refine (sectors_any e.len _ (by omega) (by omega)).mono ?_
      rintro x w2 ⟨rfl, rfl⟩
      go_wp2_with fail
      refine ⟨⟨by simp, by simp, by simp, by simp⟩, ?_⟩
      iterate 2 (first | (apply seg_skip rfl rfl; simp only [Act.put, List.setIfInBounds_toArray, List.set_cons_succ, List.set_cons_zero]) | (apply seg_pure rfl rfl rfl; · (rintro w' ⟨t0, t1, t2, t3⟩; go_wp2; exact ⟨rfl, rfl, rfl⟩)))
      refine seg_nil ?_
      refine NoPanic.normal ?_
      go_wp2_with fail
      go_ret
      exact ⟨by rw [HR.out]; rfl, ((Below.refl _ _).alloc (Nat.le_refl _) _).drew⟩
    have f8 : decide (0 < e.len) = false := decide_eq_false c8
    by_cases c9 : e.pos = 0
    · have hr : decide e.may = true := decide_eq_true ⟨by omega, by omega, by omega, by omega, HC5.out, by omega, by omega, .inr c9⟩
      have f9 := ieq_true c9
      clear c9
      have HR := Lib.hid hr
      clear hr
      go_enter Try.func48, Try.ntmps48
      go_wp2_with fail
      refine wp_region_seq (fun w' => w'.cell? ⟨w.heap.size, 0, none⟩ = some (.string (bs e.name)) ∧ w'.cell? ⟨w.heap.size, 1, none⟩ = some (.int .i64 e.len) ∧ w'.cell? ⟨w.heap.size, 2, none⟩ = some (.int .i64 e.pos) ∧ w'.cell? ⟨w.heap.size, 3, none⟩ = some (.int .i64 e.sp)) [(0, true), (1, true), (2, true), (3, true), (4, true), (5, true), (6, true), (7, true), (8, true), (9, true), (10, true), (11, true), (12, true), (13, true), (14, true), (15, true), (16, true), (17, true), (18, true), (19, true), (20, true), (21, true), (22, true), (23, true), (24, true), (25, true), (26, false), (27, true), (28, true)] (by kernel_rfl) (by kernel_rfl) ⟨by simp, by simp, by simp, by simp⟩ ?_
      iterate 26 (first | (apply seg_skip rfl rfl; simp only [Act.put, List.setIfInBounds_toArray, List.set_cons_succ, List.set_cons_zero]) | (apply seg_pure rfl rfl rfl; · (rintro w' ⟨t0, t1, t2, t3⟩; go_wp2; exact ⟨rfl, rfl, rfl⟩)))
      refine seg_loud rfl rfl ?_
      go_wp2_with fail
      refine (sectors_any e.len _ (by omega) (by omega)).mono ?_
      rintro x w2 ⟨rfl, rfl⟩
      go_wp2_with fail
      refine ⟨⟨by simp, by simp, by simp, by simp⟩, ?_⟩
      iterate 2 (first | (apply seg_skip rfl rfl; simp only [Act.put, List.setIfInBounds_toArray, List.set_cons_succ, List.set_cons_zero]) | (apply seg_pure rfl rfl rfl; · (rintro w' ⟨t0, t1, t2, t3⟩; go_wp2; exact ⟨rfl, rfl, rfl⟩)))
      refine seg_nil ?_
      refine NoPanic.normal ?_
      go_wp2_with fail
      go_ret
      exact ⟨by rw [HR.out]; rfl, ((Below.refl _ _).alloc (Nat.le_refl _) _).drew⟩
    · have hr : decide e.may = false := decide_eq_false (fun h => by have := h.2.2.2.2.2.2.2; omega)
      have f9 := ieq_false c9
      clear c9
      have HR := Lib.hid hr
      clear hr
      go_enter Try.func48, Try.ntmps48
      go_wp2_with fail
      refine wp_region_seq (fun w' => w'.cell? ⟨w.heap.size, 0, none⟩ = some (.string (bs e.name)) ∧ w'.cell? ⟨w.heap.size, 1, none⟩ = some (.int .i64 e.len) ∧ w'.cell? ⟨w.heap.size, 2, none⟩ = some (.int .i64 e.pos) ∧ w'.cell? ⟨w.heap.size, 3, none⟩ = some (.int .i64 e.sp)) [(0, true), (1, true), (2, true), (3, true), (4, true), (5, true), (6, true), (7, true), (8, true), (9, true), (10, true), (11, true), (12, true), (13, true), (14, true), (15, true), (16, true), (17, true), (18, true), (19, true), (20, true), (21, true), (22, true), (23, true), (24, true), (25, true), (26, false), (27, true), (28, true)] (by kernel_rfl) (by kernel_rfl) ⟨by simp, by simp, by simp, by simp⟩ ?_
      iterate 26 (first | (apply seg_skip rfl rfl; simp only [Act.put, List.setIfInBounds_toArray, List.set_cons_succ, List.set_cons_zero]) | (apply seg_pure rfl rfl rfl; · (rintro w' ⟨t0, t1, t2, t3⟩; go_wp2; exact ⟨rfl, rfl, rfl⟩)))
      refine seg_loud rfl rfl ?_
      go_wp2_with fail
      refine (sectors_any e.len _ (by omega) (by omega)).mono ?_
      rintro x w2 ⟨rfl, rfl⟩
      go_wp2_with fail
      refine ⟨⟨by simp, by simp, by simp, by simp⟩, ?_⟩
      iterate 2 (first | (apply seg_skip rfl rfl; simp only [Act.put, List.setIfInBounds_toArray, List.set_cons_succ, List.set_cons_zero]) | (apply seg_pure rfl rfl rfl; · (rintro w' ⟨t0, t1, t2, t3⟩; go_wp2; exact ⟨rfl, rfl, rfl⟩)))
      refine seg_nil ?_
      refine NoPanic.normal ?_
      go_wp2_with fail
      go_ret
      exact ⟨by rw [HR.out]; rfl, ((Below.refl _ _).alloc (Nat.le_refl _) _).drew⟩
  · have f5 : (e.sp != (e.len + 63) / 64) = true := ine_true c5
    have hr : decide e.may = false := decide_eq_false (fun h => c5 h.2.2.2.2.1)
    have HR := Lib.hid hr
    clear hr c5
    go_enter Try.func48, Try.ntmps48
    go_wp2_with fail
    refine wp_region_seq (fun w' => w'.cell? ⟨w.heap.size, 0, none⟩ = some (.string (bs e.name)) ∧ w'.cell? ⟨w.heap.size, 1, none⟩ = some (.int .i64 e.len) ∧ w'.cell? ⟨w.heap.size, 2, none⟩ = some (.int .i64 e.pos) ∧ w'.cell? ⟨w.heap.size, 3, none⟩ = some (.int .i64 e.sp)) [(0, true), (1, true), (2, true), (3, true), (4, true), (5, true), (6, true), (7, true), (8, true), (9, true), (10, true), (11, true), (12, true), (13, true), (14, true), (15, true), (16, true), (17, true), (18, true), (19, true), (20, true), (21, true), (22, true), (23, true), (24, true), (25, true), (26, false), (27, true), (28, true)] (by kernel_rfl) (by kernel_rfl) ⟨by simp, by simp, by simp, by simp⟩ ?_
    iterate 26 (first | (apply seg_skip rfl rfl; simp only [Act.put, List.setIfInBounds_toArray, List.set_cons_succ, List.set_cons_zero]) | (apply seg_pure rfl rfl rfl; · (rintro w' ⟨t0, t1, t2, t3⟩; go_wp2; exact ⟨rfl, rfl, rfl⟩)))
    refine seg_loud rfl rfl ?_
    go_wp2_with fail
    refine (sectors_any e.len _ (by omega) (by omega)).mono ?_
    rintro x w2 ⟨rfl, rfl⟩
    go_wp2_with fail
    refine ⟨⟨by simp, by simp, by simp, by simp⟩, ?_⟩
    iterate 2 (first | (apply seg_skip rfl rfl; simp only [Act.put, List.setIfInBounds_toArray, List.set_cons_succ, List.set_cons_zero]) | (apply seg_pure rfl rfl rfl; · (rintro w' ⟨t0, t1, t2, t3⟩; go_wp2; exact ⟨rfl, rfl, rfl⟩)))
    refine seg_nil ?_
    refine NoPanic.normal ?_
    go_wp2_with fail
    go_ret
    exact ⟨by rw [HR.out]; rfl, ((Below.refl _ _).alloc (Nat.le_refl _) _).drew⟩
end Go.Proofs.Ytbgeijdfkdfdoaa
