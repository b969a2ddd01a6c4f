/-
  Walks of calls.may, calls.May: which calls may be.
-/
import Derived.Test.YtbgeijdfkdfdoaaReadV
namespace Go.Proofs.Ytbgeijdfkdfdoaa
open Go.RowKit

/-- A call. -/
structure CEnt where
  n : Int
  fn : Int
  pos : Int
  args : List VEnt
  has : Bool
  ans : Int
deriving DecidableEq

def encC (x : CEnt × Value) : List Value := [.int .i64 x.1.n, .int .i64 x.1.fn, .int .i64 x.1.pos, x.2, .bool x.1.has, .int .i64 x.1.ans]
theorem encC_len (x : CEnt × Value) : (encC x).length = 6 := rfl

def InI (n : Int) : Prop := -9223372036854775808 ≤ n ∧ n ≤ 9223372036854775807
def CEnt.ok (c : CEnt) : Prop := InI c.n ∧ InI c.fn ∧ InI c.pos ∧ InI c.ans ∧ ∀ v ∈ c.args, v.ok

def CEnt.may (c : CEnt) : Prop :=
  1 ≤ c.n ∧ c.n ≤ 1000000 ∧ 0 ≤ c.fn ∧ c.fn ≤ 1000000 ∧ 0 ≤ c.pos ∧ c.pos ≤ 1000000 ∧ c.args.length ≤ 32 ∧ (∀ v ∈ c.args, v.may) ∧ (c.has = true ∨ c.ans = 0)
instance (c : CEnt) : Decidable c.may := by unfold CEnt.may; infer_instance

/-- A slice that reads as these calls. -/
def IsCalls (w : World) (v : Value) (l : List CEnt) : Prop :=
  ∃ us : List Value, us.length = l.length ∧ IsRws 6 encC w v (l.zip us) ∧ (∀ (i : Nat) (c : CEnt) (u : Value), l[i]? = some c → us[i]? = some u → IsRws 2 encV w u c.args) ∧ ∀ c ∈ l, c.ok

theorem IsCalls.below {w w' : World} {v : Value} {l : List CEnt} (h : IsCalls w v l) (hb : Below w.heap.size w w') : IsCalls w' v l := by
  obtain ⟨us, h1, h2, h3, h4⟩ := h
  exact ⟨us, h1, h2.below hb, fun i c u hc hu => (h3 i c u hc hu).below hb, h4⟩

theorem IsCalls.nil (w : World) : IsCalls w (.slice none 0 0) [] := ⟨[], rfl, IsRws.nil w, by simp, by simp⟩

theorem IsCalls.slice {w : World} {v : Value} {l : List CEnt} (h : IsCalls w v l) : ∃ a cap, v = .slice a l.length cap ∧ l.length ≤ cap ∧ cap ≤ 9223372036854775807 := by
  obtain ⟨us, h1, ⟨a, cap, hv, h2, h3, _⟩, _⟩ := h
  have : (l.zip us).length = l.length := by rw [List.length_zip, h1, Nat.min_self]
  rw [this] at hv h2
  exact ⟨a, cap, hv, h2, h3⟩

theorem IsCalls.get {w : World} {a : Option Addr} {n cap : Nat} {l : List CEnt} (h : IsCalls w (.slice a n cap) l) {k : Nat} {c : CEnt} (hc : l[k]? = some c) : ∃ b off u, a = some ⟨b, off, none⟩ ∧ b < w.heap.size ∧
    (w.cell? ⟨b, off + k * 6, none⟩ = some (.int .i64 c.n) ∧ w.cell? ⟨b, off + k * 6 + 1, none⟩ = some (.int .i64 c.fn) ∧ w.cell? ⟨b, off + k * 6 + 2, none⟩ = some (.int .i64 c.pos) ∧ w.cell? ⟨b, off + k * 6 + 3, none⟩ = some u ∧
      w.cell? ⟨b, off + k * 6 + 4, none⟩ = some (.bool c.has) ∧ w.cell? ⟨b, off + k * 6 + 5, none⟩ = some (.int .i64 c.ans)) ∧ IsRws 2 encV w u c.args ∧ c.ok := by
  obtain ⟨us, h1, ⟨a', cap', hv, _, _, h2⟩, h3, h4⟩ := h
  injection hv with e1 e2 e3
  subst e1
  have hk : k < us.length := by rw [h1]; exact (List.getElem?_eq_some_iff.1 hc).1
  have hu := List.getElem?_eq_getElem hk
  have hz : (l.zip us)[k]? = some (c, us[k]) := (List.getElem?_zip_eq_some (z := (c, us[k]))).2 ⟨hc, hu⟩
  obtain ⟨b, off, ha, hlt, hcell⟩ := h2 k _ hz
  exact ⟨b, off, us[k], ha, hlt, ⟨hcell 0 _ rfl, hcell 1 _ rfl, hcell 2 _ rfl, hcell 3 _ rfl, hcell 4 _ rfl, hcell 5 _ rfl⟩, h3 k c _ hc hu, h4 c (List.mem_of_getElem? hc)⟩

theorem anyBad (l : List VEnt) : l.any badV = false ↔ ∀ v ∈ l, v.may := by
  rw [List.any_eq_false]
  constructor
  · intro h v hv
    have := h v hv
    simpa [badV] using this
  · intro h v hv
    simpa [badV] using h v hv


set_option maxRecDepth 100000 in
set_option maxHeartbeats 2000000 in
theorem callMay_any (c : CEnt) (u : Value) (w : World) (hu : IsRws 2 encV w u c.args) (hok : c.ok) :
    Calls Try.prog 54 #[.agg #[.int .i64 c.n, .int .i64 c.fn, .int .i64 c.pos, u, .bool c.has, .int .i64 c.ans]] w (BoolEnd (decide c.may) w) := by
  have HU := Lib.hid hu
  obtain ⟨a, cap, rfl, h1, h2, _⟩ := hu
  obtain ⟨⟨o1, o2⟩, ⟨o3, o4⟩, ⟨o5, o6⟩, ⟨o7, o8⟩, -⟩ := hok
  unfold maxLen at h2
  go_enter Try.func54, Try.ntmps54
  go_wp2_with fail
  have hbx := Blk.new w #[.int .i64 c.n, .int .i64 c.fn, .int .i64 c.pos, .slice a c.args.length cap, .bool c.has, .int .i64 c.ans] 82
  refine (hasBad_any _ c.args _ (HU.out.below ((Below.refl _ _).alloc (Nat.le_refl _) _))).mono ?_
  rintro x w1 ⟨rfl, hb1⟩
  have hbx1 := hbx.below hb1 (by simp)
  obtain ⟨⟨x0, x1, x2, x3, x4, x5⟩, -⟩ := hbx1.six
  have hb : Below w.heap.size w w1 := ((Below.refl w.heap.size w).alloc (Nat.le_refl _) _).trans (hb1.mono (by simp))
  clear hb1 hbx hbx1
  by_cases q1 : 1 ≤ c.n
  rotate_left
  · have f1 : decide (1 ≤ c.n) = false := decide_eq_false q1
    have HX := Lib.hid (show decide c.may = false from decide_eq_false (fun h => q1 h.1))
    go_wp2_with fail
    go_ret
    exact ⟨by rw [HX.out]; rfl, hb⟩
  have f1 : decide (1 ≤ c.n) = true := decide_eq_true q1
  by_cases q2 : c.n ≤ 1000000
  rotate_left
  · have f2 : decide (c.n ≤ 1000000) = false := decide_eq_false q2
    have HX := Lib.hid (show decide c.may = false from decide_eq_false (fun h => q2 h.2.1))
    go_wp2_with fail
    go_ret
    exact ⟨by rw [HX.out]; rfl, hb⟩
  have f2 : decide (c.n ≤ 1000000) = true := decide_eq_true q2
  by_cases q3 : 0 ≤ c.fn
  rotate_left
  · have f3 : decide (0 ≤ c.fn) = false := decide_eq_false q3
    have HX := Lib.hid (show decide c.may = false from decide_eq_false (fun h => q3 h.2.2.1))
    go_wp2_with fail
    go_ret
    exact ⟨by rw [HX.out]; rfl, hb⟩
  have f3 : decide (0 ≤ c.fn) = true := decide_eq_true q3
  by_cases q4 : c.fn ≤ 1000000
  rotate_left
  · have f4 : decide (c.fn ≤ 1000000) = false := decide_eq_false q4
    have HX := Lib.hid (show decide c.may = false from decide_eq_false (fun h => q4 h.2.2.2.1))
    go_wp2_with fail
    go_ret
    exact ⟨by rw [HX.out]; rfl, hb⟩
  have f4 : decide (c.fn ≤ 1000000) = true := decide_eq_true q4
  by_cases q5 : 0 ≤ c.pos
  rotate_left
  · have f5 : decide (0 ≤ c.pos) = false := decide_eq_false q5
    have HX := Lib.hid (show decide c.may = false from decide_eq_false (fun h => q5 h.2.2.2.2.1))
    go_wp2_with fail
    go_ret
    exact ⟨by rw [HX.out]; rfl, hb⟩
  have f5 : decide (0 ≤ c.pos) = true := decide_eq_true q5
  by_cases q6 : c.pos ≤ 1000000
  rotate_left
  · have f6 : decide (c.pos ≤ 1000000) = false := decide_eq_false q6
    have HX := Lib.hid (show decide c.may = false from decide_eq_false (fun h => q6 h.2.2.2.2.2.1))
    go_wp2_with fail
    go_ret
    exact ⟨by rw [HX.out]; rfl, hb⟩
  have f6 : decide (c.pos ≤ 1000000) = true := decide_eq_true q6
  by_cases q7 : c.args.length ≤ 32
  rotate_left
  · have f7 : decide ((c.args.length : Int) ≤ 32) = false := decide_eq_false (by omega)
    have HX := Lib.hid (show decide c.may = false from decide_eq_false (fun h => q7 h.2.2.2.2.2.2.1))
    go_wp2_with fail
    go_ret
    exact ⟨by rw [HX.out]; rfl, hb⟩
  have f7 : decide ((c.args.length : Int) ≤ 32) = true := decide_eq_true (by omega)
  have hbad := anyBad c.args
  have HBAD := Lib.hid hbad
  clear hbad
  cases q8 : c.args.any badV with
  | true =>
    have HQ := Lib.hid q8
    clear q8
    have HX := Lib.hid (show decide c.may = false from decide_eq_false (fun h => by have := HBAD.out.2 h.2.2.2.2.2.2.2.1; rw [HQ.out] at this; cases this))
    go_wp2_with fail
    go_ret
    exact ⟨by rw [HX.out]; rfl, hb⟩
  | false =>
    have HQ := Lib.hid (HBAD.out.1 q8)
    clear q8
    cases q9 : c.has with
    | true =>
      have H9 := Lib.hid q9
      rw [q9] at x4
      clear q9
      have HX := Lib.hid (show decide c.may = true from decide_eq_true ⟨q1, q2, q3, q4, q5, q6, q7, HQ.out, .inl H9.out⟩)
      go_wp2_with fail
      go_ret
      exact ⟨by rw [HX.out]; rfl, hb⟩
    | false =>
      have H9 := Lib.hid q9
      rw [q9] at x4
      clear q9
      by_cases q10 : c.ans = 0
      · have f10 := ieq_true q10
        have H10 := Lib.hid q10
        clear q10
        have HX := Lib.hid (show decide c.may = true from decide_eq_true ⟨q1, q2, q3, q4, q5, q6, q7, HQ.out, .inr H10.out⟩)
        go_wp2_with fail
        go_ret
        exact ⟨by rw [HX.out]; rfl, hb⟩
      · have f10 := ieq_false q10
        have H10 := Lib.hid q10
        clear q10
        have HX := Lib.hid (show decide c.may = false from decide_eq_false (fun h => h.2.2.2.2.2.2.2.2.elim (fun g => by rw [H9.out] at g; cases g) H10.out))
        go_wp2_with fail
        go_ret
        exact ⟨by rw [HX.out]; rfl, hb⟩

theorem callMay' (c : CEnt) (u : Value) (hs : Bool) (hhs : hs = c.has) (w : World) (hu : IsRws 2 encV w u c.args) (hok : c.ok) :
    Calls Try.prog 54 #[.agg #[.int .i64 c.n, .int .i64 c.fn, .int .i64 c.pos, u, .bool hs, .int .i64 c.ans]] w (BoolEnd (decide c.may) w) := by
  subst hhs
  exact callMay_any c u w hu hok

/-- May the first k of a list be? -/
def mayUpToC (l : List CEnt) (k : Nat) : Prop :=
  ∀ i, i < k → ∀ c, l[i]? = some c → c.may ∧ (∀ d, 0 < i → l[i - 1]? = some d → c.n = d.n + 1) ∧ (i + 1 < l.length → c.has = true)
def mayC (l : List CEnt) : Prop := mayUpToC l l.length ∧ l.length ≤ 8

def MayCEnd (l : List CEnt) (w : World) (e : Ending) (w' : World) : Prop := ∃ r : Bool, e = .returned (.bool r) ∧ (r = true ↔ mayC l) ∧ Below w.heap.size w w'
def MayCJ (l : List CEnt) (w w' : World) (k : Nat) : Prop := k ≤ l.length ∧ mayUpToC l k ∧ Below w.heap.size w w'

def Cells7 (b off j X : Nat) (c d : CEnt) (u : Value) (hs : Bool) (w : World) : Prop :=
  w.cell? ⟨X, 0, none⟩ = some (.int .i64 c.n) ∧ w.cell? ⟨X, 1, none⟩ = some (.int .i64 c.fn) ∧ w.cell? ⟨X, 2, none⟩ = some (.int .i64 c.pos) ∧ w.cell? ⟨X, 3, none⟩ = some u ∧ w.cell? ⟨X, 4, none⟩ = some (.bool hs) ∧ w.cell? ⟨X, 5, none⟩ = some (.int .i64 c.ans) ∧
  w.cell? ⟨b, off + j * 6, none⟩ = some (.int .i64 d.n)

theorem cell_alloc_old {w : World} {o : Obj} {a : Addr} {v : Value} (h : w.cell? a = some v) : (w.alloc o).drew.cell? a = some v := by
  rw [World.cell?_drew]
  exact (((Below.refl w.heap.size w).alloc (Nat.le_refl _) o).cell (World.block_lt_of_cell? w _ h)).trans h


set_option maxRecDepth 100000 in
set_option maxHeartbeats 4000000 in
theorem mayCalls_any (v : Value) (l : List CEnt) (w : World) (hl : IsCalls w v l) : Calls Try.prog 39 #[v] w (MayCEnd l w) := by
  have HI := Lib.hid hl
  obtain ⟨a, cap, rfl, h1, h2⟩ := hl.slice
  clear hl
  go_enter Try.func39, Try.ntmps39
  go_wp2_with fail
  refine wp_loop_r (fun a' w' => ∃ (k : Nat), a' = { tmps := #[.slice a l.length cap, slot a' 1, slot a' 2, slot a' 3, slot a' 4, .slice a l.length cap, .int .i64 l.length, .int .i64 k, slot a' 8, slot a' 9, slot a' 10, slot a' 11, slot a' 12, slot a' 13, slot a' 14, slot a' 15, slot a' 16, slot a' 17, slot a' 18, slot a' 19, slot a' 20, slot a' 21, slot a' 22, slot a' 23, slot a' 24, slot a' 25, slot a' 26, slot a' 27, slot a' 28, slot a' 29, slot a' 30, slot a' 31, slot a' 32, slot a' 33, slot a' 34, slot a' 35, slot a' 36, slot a' 37, slot a' 38, slot a' 39, slot a' 40, slot a' 41, slot a' 42, slot a' 43, slot a' 44, slot a' 45, slot a' 46], defers := [] } ∧ MayCJ l w w' k) (fun a' _ => (l.length - (intOf (a'.tmps.getD 7 undef)).toNat)) ?_ ?_
  · exact ⟨0, rfl, by omega, fun i hi => by omega, Below.refl _ _⟩
  · skip
    rintro R a' w1 ⟨k, hfr, hJ⟩ HR
    obtain ⟨f, hf⟩ : ∃ f, f = slot a' := ⟨_, rfl⟩
    rw [← hf] at hfr
    clear hf
    subst hfr
    obtain ⟨hk, hm, hb⟩ := hJ
    have HMM := Lib.hid hm
    clear hm
    by_cases hkl : k < l.length
    · obtain ⟨c, he⟩ : ∃ e, l[k]? = some e := ⟨_, List.getElem?_eq_getElem hkl⟩
      obtain ⟨d, hd0⟩ : ∃ d, l[k - 1]? = some d := ⟨_, List.getElem?_eq_getElem (by omega)⟩
      have hi := HI.out.below (hb.mono (Nat.le_refl _))
      obtain ⟨b, off, u, rfl, hlt, ⟨c0, c1, c2, c3, c4, c5⟩, hu, hok⟩ := hi.get he
      obtain ⟨b', off', u', hbo, -, ⟨hd, -, -, -, -, -⟩, -, hokd⟩ := hi.get hd0
      injection hbo with hbo
      injection hbo with hbo1 hbo2
      subst hbo1 hbo2
      obtain ⟨o1, o2⟩ := hok.1
      obtain ⟨p1, p2⟩ := hokd.1
      obtain ⟨hs, hhs⟩ : ∃ hs, hs = c.has := ⟨_, rfl⟩
      rw [← hhs] at c4
      have HHS := Lib.hid hhs
      clear hhs
      have HU := Lib.hid hu
      obtain ⟨au, capu, rfl, -, -, -⟩ := hu
      have HOK := Lib.hid hok
      have HE := Lib.hid he
      have HD0 := Lib.hid hd0
      clear he hd0 hi hok hokd
      obtain ⟨j, hj⟩ : ∃ j, j = k - 1 := ⟨_, rfl⟩
      rw [← hj] at hd
      by_cases hem : c.may
      · have hr : decide c.may = true := decide_eq_true hem
        have HR0 := Lib.hid hr
        have HM := Lib.hid hem
        clear hr hem
        rcases Nat.eq_zero_or_pos k with hk0 | hk0
        · subst hk0
          have f0 : decide ((0 : Int) < ((0 : Nat) : Int)) = false := rfl
          have HLT := Lib.hid (show ∀ d, 0 < 0 → l[0 - 1]? = some d → c.n = d.n + 1 from fun d h => by omega)
          simp only [Nat.zero_mul, Nat.add_zero] at c0 c1 c2 c3 c4 c5
          by_cases q3 : 0 + 1 < l.length
          · have f3 : decide ((1 : Int) < (l.length : Int)) = true := decide_eq_true (by omega)
            cases hs with
            | true =>
              have q4 : c.has = true := HHS.out.symm
              have HX := Lib.hid (show c.may ∧ (∀ d, 0 < 0 → l[0 - 1]? = some d → c.n = d.n + 1) ∧ (0 + 1 < l.length → c.has = true) from ⟨HM.out, HLT.out, fun _ => q4⟩)
              have Q4 := Lib.hid q4
              clear q4
              skip
              go_wp2_with fail
              refine wp_region_seq (Cells7 b off j w1.heap.size c d (.slice au c.args.length capu) true) [(0, true), (1, false), (2, true), (3, true), (4, true), (5, true), (6, true), (7, true), (8, true), (9, true),
                    (10, true), (11, true), (12, true), (13, true), (14, true), (15, true), (16, true), (17, true), (18, true),
                    (19, true), (20, true), (21, true), (22, true), (23, true), (24, true), (25, true), (26, true), (27, true),
                    (28, true), (29, true), (30, true)] (by kernel_rfl) (by kernel_rfl) ?_ ?_
              · exact ⟨by simp, by simp, by simp, by simp, by simp, by simp, cell_alloc_old hd⟩
              iterate 1 (first | (apply seg_skip rfl rfl; simp only [Act.put, List.setIfInBounds_toArray, List.set_cons_succ, List.set_cons_zero]) | (apply seg_pure rfl rfl rfl; · (rintro w' ⟨t0, t1, t2, t3, t4, t5, t6⟩; go_wp2; exact ⟨rfl, rfl, rfl⟩)))
              refine seg_loud rfl rfl ?_
              go_wp2_with fail
              refine (callMay' c _ _ HHS.out _ (HU.out.below (((Below.refl _ _).alloc (Nat.le_refl _) _).drew)) HOK.out).mono ?_
              rintro x w2 ⟨rfl, hb2⟩
              rw [HR0.out]
              have hb2' := hb2.size
              simp only [World.size_drew, World.size_alloc] at hb2'
              go_wp2_with fail
              refine ⟨⟨by rw [hb2.cell (by simp)]; simp, by rw [hb2.cell (by simp)]; simp, by rw [hb2.cell (by simp)]; simp, by rw [hb2.cell (by simp)]; simp, by rw [hb2.cell (by simp)]; simp, by rw [hb2.cell (by simp)]; simp, by rw [hb2.cell (by simp; omega)]; exact cell_alloc_old hd⟩, ?_⟩
              have hb3 : Below w1.heap.size w1 w2 := ((Below.refl _ _).alloc (Nat.le_refl _) _).trans ⟨hb2.os, hb2.tape, hb2.output, hb2.size, fun i hi => hb2.block i (by simp; omega)⟩
              replace hb := hb.trans (hb3.mono hb.size)
              iterate 29 (first | (apply seg_skip rfl rfl; simp only [Act.put, List.setIfInBounds_toArray, List.set_cons_succ, List.set_cons_zero]) | (apply seg_pure rfl rfl rfl; · (rintro w' ⟨t0, t1, t2, t3, t4, t5, t6⟩; go_wp2; exact ⟨rfl, rfl, rfl⟩)))
              refine seg_nil ?_
              refine NoPanic.normal ?_
              go_wp2_with fail
              refine HR.out _ _ ⟨0 + 1, rfl, by omega, ?_, hb⟩ ?_
              · intro i hi x hx
                rcases Nat.lt_or_ge i (0) with h | h
                · exact HMM.out i h x hx
                · obtain rfl : i = 0 := by omega
                  rw [HE.out] at hx
                  injection hx with hx
                  subst hx
                  exact HX.out
              · simp [intOf]
                omega
            | false =>
              have q4 : c.has = false := HHS.out.symm
              have HX := Lib.hid (show ¬ (c.may ∧ (∀ d, 0 < 0 → l[0 - 1]? = some d → c.n = d.n + 1) ∧ (0 + 1 < l.length → c.has = true)) from fun h => by rw [h.2.2 q3] at q4; cases q4)
              have Q4 := Lib.hid q4
              clear q4
              skip
              go_wp2_with fail
              refine wp_region_seq (Cells7 b off j w1.heap.size c d (.slice au c.args.length capu) false) [(0, true), (1, false), (2, true), (3, true), (4, true), (5, true), (6, true), (7, true), (8, true), (9, true),
                    (10, true), (11, true), (12, true), (13, true), (14, true), (15, true), (16, true), (17, true), (18, true),
                    (19, true), (20, true), (21, true), (22, true), (23, true), (24, true), (25, true), (26, true), (27, true),
                    (28, true), (29, true), (30, true)] (by kernel_rfl) (by kernel_rfl) ?_ ?_
              · exact ⟨by simp, by simp, by simp, by simp, by simp, by simp, cell_alloc_old hd⟩
              iterate 1 (first | (apply seg_skip rfl rfl; simp only [Act.put, List.setIfInBounds_toArray, List.set_cons_succ, List.set_cons_zero]) | (apply seg_pure rfl rfl rfl; · (rintro w' ⟨t0, t1, t2, t3, t4, t5, t6⟩; go_wp2; exact ⟨rfl, rfl, rfl⟩)))
              refine seg_loud rfl rfl ?_
              go_wp2_with fail
              refine (callMay' c _ _ HHS.out _ (HU.out.below (((Below.refl _ _).alloc (Nat.le_refl _) _).drew)) HOK.out).mono ?_
              rintro x w2 ⟨rfl, hb2⟩
              rw [HR0.out]
              have hb2' := hb2.size
              simp only [World.size_drew, World.size_alloc] at hb2'
              go_wp2_with fail
              refine ⟨⟨by rw [hb2.cell (by simp)]; simp, by rw [hb2.cell (by simp)]; simp, by rw [hb2.cell (by simp)]; simp, by rw [hb2.cell (by simp)]; simp, by rw [hb2.cell (by simp)]; simp, by rw [hb2.cell (by simp)]; simp, by rw [hb2.cell (by simp; omega)]; exact cell_alloc_old hd⟩, ?_⟩
              have hb3 : Below w1.heap.size w1 w2 := ((Below.refl _ _).alloc (Nat.le_refl _) _).trans ⟨hb2.os, hb2.tape, hb2.output, hb2.size, fun i hi => hb2.block i (by simp; omega)⟩
              replace hb := hb.trans (hb3.mono hb.size)
              iterate 29 (first | (apply seg_skip rfl rfl; simp only [Act.put, List.setIfInBounds_toArray, List.set_cons_succ, List.set_cons_zero]) | (apply seg_pure rfl rfl rfl; · (rintro w' ⟨t0, t1, t2, t3, t4, t5, t6⟩; go_wp2; exact ⟨rfl, rfl, rfl⟩)))
              refine seg_nil ?_
              refine NoPanic.normal ?_
              go_wp2_with fail
              go_ret
              exact ⟨false, rfl, ⟨fun h => (by cases h), fun h => absurd (h.1 (0) hkl c HE.out) HX.out⟩, hb⟩
          · have f3 : decide ((1 : Int) < (l.length : Int)) = false := decide_eq_false (by omega)
            have HX := Lib.hid (show c.may ∧ (∀ d, 0 < 0 → l[0 - 1]? = some d → c.n = d.n + 1) ∧ (0 + 1 < l.length → c.has = true) from ⟨HM.out, HLT.out, fun h => absurd h q3⟩)
            go_wp2_with fail
            refine wp_region_seq (Cells7 b off j w1.heap.size c d (.slice au c.args.length capu) hs) [(0, true), (1, false), (2, true), (3, true), (4, true), (5, true), (6, true), (7, true), (8, true), (9, true),
                  (10, true), (11, true), (12, true), (13, true), (14, true), (15, true), (16, true), (17, true), (18, true),
                  (19, true), (20, true), (21, true), (22, true), (23, true), (24, true), (25, true), (26, true), (27, true),
                  (28, true), (29, true), (30, true)] (by kernel_rfl) (by kernel_rfl) ?_ ?_
            · exact ⟨by simp, by simp, by simp, by simp, by simp, by simp, cell_alloc_old hd⟩
            iterate 1 (first | (apply seg_skip rfl rfl; simp only [Act.put, List.setIfInBounds_toArray, List.set_cons_succ, List.set_cons_zero]) | (apply seg_pure rfl rfl rfl; · (rintro w' ⟨t0, t1, t2, t3, t4, t5, t6⟩; go_wp2; exact ⟨rfl, rfl, rfl⟩)))
            refine seg_loud rfl rfl ?_
            go_wp2_with fail
            refine (callMay' c _ _ HHS.out _ (HU.out.below (((Below.refl _ _).alloc (Nat.le_refl _) _).drew)) HOK.out).mono ?_
            rintro x w2 ⟨rfl, hb2⟩
            rw [HR0.out]
            have hb2' := hb2.size
            simp only [World.size_drew, World.size_alloc] at hb2'
            go_wp2_with fail
            refine ⟨⟨by rw [hb2.cell (by simp)]; simp, by rw [hb2.cell (by simp)]; simp, by rw [hb2.cell (by simp)]; simp, by rw [hb2.cell (by simp)]; simp, by rw [hb2.cell (by simp)]; simp, by rw [hb2.cell (by simp)]; simp, by rw [hb2.cell (by simp; omega)]; exact cell_alloc_old hd⟩, ?_⟩
            have hb3 : Below w1.heap.size w1 w2 := ((Below.refl _ _).alloc (Nat.le_refl _) _).trans ⟨hb2.os, hb2.tape, hb2.output, hb2.size, fun i hi => hb2.block i (by simp; omega)⟩
            replace hb := hb.trans (hb3.mono hb.size)
            iterate 29 (first | (apply seg_skip rfl rfl; simp only [Act.put, List.setIfInBounds_toArray, List.set_cons_succ, List.set_cons_zero]) | (apply seg_pure rfl rfl rfl; · (rintro w' ⟨t0, t1, t2, t3, t4, t5, t6⟩; go_wp2; exact ⟨rfl, rfl, rfl⟩)))
            refine seg_nil ?_
            refine NoPanic.normal ?_
            go_wp2_with fail
            refine HR.out _ _ ⟨0 + 1, rfl, by omega, ?_, hb⟩ ?_
            · intro i hi x hx
              rcases Nat.lt_or_ge i (0) with h | h
              · exact HMM.out i h x hx
              · obtain rfl : i = 0 := by omega
                rw [HE.out] at hx
                injection hx with hx
                subst hx
                exact HX.out
            · simp [intOf]
              omega
        · obtain rfl : k = j + 1 := by omega
          clear hj
          have f0 : decide ((0 : Int) < ((j + 1 : Nat) : Int)) = true := decide_eq_true (by omega)
          rw [Nat.add_sub_cancel] at HD0
          have hdm := (HMM.out j (by omega) d HD0.out).1.2.1
          by_cases q2 : c.n = d.n + 1
          · have f2 := ine_false q2
            have HLT := Lib.hid (show ∀ d, 0 < j + 1 → l[j + 1 - 1]? = some d → c.n = d.n + 1 from fun d' _ hd' => by
              have hde := HD0.out
              rw [Nat.add_sub_cancel, hde] at hd'
              injection hd' with hd'
              rw [← hd']
              exact q2)
            clear q2
            by_cases q3 : (j + 1) + 1 < l.length
            · have f3 : decide ((j : Int) + 1 < (l.length : Int) - 1) = true := decide_eq_true (by omega)
              cases hs with
              | true =>
                have q4 : c.has = true := HHS.out.symm
                have HX := Lib.hid (show c.may ∧ (∀ d, 0 < (j + 1) → l[(j + 1) - 1]? = some d → c.n = d.n + 1) ∧ ((j + 1) + 1 < l.length → c.has = true) from ⟨HM.out, HLT.out, fun _ => q4⟩)
                have Q4 := Lib.hid q4
                clear q4
                skip
                go_wp2_with fail
                refine wp_region_seq (Cells7 b off j w1.heap.size c d (.slice au c.args.length capu) true) [(0, true), (1, false), (2, true), (3, true), (4, true), (5, true), (6, true), (7, true), (8, true), (9, true),
                      (10, true), (11, true), (12, true), (13, true), (14, true), (15, true), (16, true), (17, true), (18, true),
                      (19, true), (20, true), (21, true), (22, true), (23, true), (24, true), (25, true), (26, true), (27, true),
                      (28, true), (29, true), (30, true)] (by kernel_rfl) (by kernel_rfl) ?_ ?_
                · exact ⟨by simp, by simp, by simp, by simp, by simp, by simp, cell_alloc_old hd⟩
                iterate 1 (first | (apply seg_skip rfl rfl; simp only [Act.put, List.setIfInBounds_toArray, List.set_cons_succ, List.set_cons_zero]) | (apply seg_pure rfl rfl rfl; · (rintro w' ⟨t0, t1, t2, t3, t4, t5, t6⟩; go_wp2; exact ⟨rfl, rfl, rfl⟩)))
                refine seg_loud rfl rfl ?_
                go_wp2_with fail
                refine (callMay' c _ _ HHS.out _ (HU.out.below (((Below.refl _ _).alloc (Nat.le_refl _) _).drew)) HOK.out).mono ?_
                rintro x w2 ⟨rfl, hb2⟩
                rw [HR0.out]
                have hb2' := hb2.size
                simp only [World.size_drew, World.size_alloc] at hb2'
                go_wp2_with fail
                refine ⟨⟨by rw [hb2.cell (by simp)]; simp, by rw [hb2.cell (by simp)]; simp, by rw [hb2.cell (by simp)]; simp, by rw [hb2.cell (by simp)]; simp, by rw [hb2.cell (by simp)]; simp, by rw [hb2.cell (by simp)]; simp, by rw [hb2.cell (by simp; omega)]; exact cell_alloc_old hd⟩, ?_⟩
                have hb3 : Below w1.heap.size w1 w2 := ((Below.refl _ _).alloc (Nat.le_refl _) _).trans ⟨hb2.os, hb2.tape, hb2.output, hb2.size, fun i hi => hb2.block i (by simp; omega)⟩
                replace hb := hb.trans (hb3.mono hb.size)
                iterate 29 (first | (apply seg_skip rfl rfl; simp only [Act.put, List.setIfInBounds_toArray, List.set_cons_succ, List.set_cons_zero]) | (apply seg_pure rfl rfl rfl; · (rintro w' ⟨t0, t1, t2, t3, t4, t5, t6⟩; go_wp2; exact ⟨rfl, rfl, rfl⟩)))
                refine seg_nil ?_
                refine NoPanic.normal ?_
                go_wp2_with fail
                refine HR.out _ _ ⟨(j + 1) + 1, rfl, by omega, ?_, hb⟩ ?_
                · intro i hi x hx
                  rcases Nat.lt_or_ge i ((j + 1)) with h | h
                  · exact HMM.out i h x hx
                  · obtain rfl : i = (j + 1) := by omega
                    rw [HE.out] at hx
                    injection hx with hx
                    subst hx
                    exact HX.out
                · simp [intOf]
                  omega
              | false =>
                have q4 : c.has = false := HHS.out.symm
                have HX := Lib.hid (show ¬ (c.may ∧ (∀ d, 0 < (j + 1) → l[(j + 1) - 1]? = some d → c.n = d.n + 1) ∧ ((j + 1) + 1 < l.length → c.has = true)) from fun h => by rw [h.2.2 q3] at q4; cases q4)
                have Q4 := Lib.hid q4
                clear q4
                skip
                go_wp2_with fail
                refine wp_region_seq (Cells7 b off j w1.heap.size c d (.slice au c.args.length capu) false) [(0, true), (1, false), (2, true), (3, true), (4, true), (5, true), (6, true), (7, true), (8, true), (9, true),
                      (10, true), (11, true), (12, true), (13, true), (14, true), (15, true), (16, true), (17, true), (18, true),
                      (19, true), (20, true), (21, true), (22, true), (23, true), (24, true), (25, true), (26, true), (27, true),
                      (28, true), (29, true), (30, true)] (by kernel_rfl) (by kernel_rfl) ?_ ?_
                · exact ⟨by simp, by simp, by simp, by simp, by simp, by simp, cell_alloc_old hd⟩
                iterate 1 (first | (apply seg_skip rfl rfl; simp only [Act.put, List.setIfInBounds_toArray, List.set_cons_succ, List.set_cons_zero]) | (apply seg_pure rfl rfl rfl; · (rintro w' ⟨t0, t1, t2, t3, t4, t5, t6⟩; go_wp2; exact ⟨rfl, rfl, rfl⟩)))
                refine seg_loud rfl rfl ?_
                go_wp2_with fail
                refine (callMay' c _ _ HHS.out _ (HU.out.below (((Below.refl _ _).alloc (Nat.le_refl _) _).drew)) HOK.out).mono ?_
                rintro x w2 ⟨rfl, hb2⟩
                rw [HR0.out]
                have hb2' := hb2.size
                simp only [World.size_drew, World.size_alloc] at hb2'
                go_wp2_with fail
                refine ⟨⟨by rw [hb2.cell (by simp)]; simp, by rw [hb2.cell (by simp)]; simp, by rw [hb2.cell (by simp)]; simp, by rw [hb2.cell (by simp)]; simp, by rw [hb2.cell (by simp)]; simp, by rw [hb2.cell (by simp)]; simp, by rw [hb2.cell (by simp; omega)]; exact cell_alloc_old hd⟩, ?_⟩
                have hb3 : Below w1.heap.size w1 w2 := ((Below.refl _ _).alloc (Nat.le_refl _) _).trans ⟨hb2.os, hb2.tape, hb2.output, hb2.size, fun i hi => hb2.block i (by simp; omega)⟩
                replace hb := hb.trans (hb3.mono hb.size)
                iterate 29 (first | (apply seg_skip rfl rfl; simp only [Act.put, List.setIfInBounds_toArray, List.set_cons_succ, List.set_cons_zero]) | (apply seg_pure rfl rfl rfl; · (rintro w' ⟨t0, t1, t2, t3, t4, t5, t6⟩; go_wp2; exact ⟨rfl, rfl, rfl⟩)))
                refine seg_nil ?_
                refine NoPanic.normal ?_
                go_wp2_with fail
                go_ret
                exact ⟨false, rfl, ⟨fun h => (by cases h), fun h => absurd (h.1 ((j + 1)) hkl c HE.out) HX.out⟩, hb⟩
            · have f3 : decide ((j : Int) + 1 < (l.length : Int) - 1) = false := decide_eq_false (by omega)
              have HX := Lib.hid (show c.may ∧ (∀ d, 0 < (j + 1) → l[(j + 1) - 1]? = some d → c.n = d.n + 1) ∧ ((j + 1) + 1 < l.length → c.has = true) from ⟨HM.out, HLT.out, fun h => absurd h q3⟩)
              go_wp2_with fail
              refine wp_region_seq (Cells7 b off j w1.heap.size c d (.slice au c.args.length capu) hs) [(0, true), (1, false), (2, true), (3, true), (4, true), (5, true), (6, true), (7, true), (8, true), (9, true),
                    (10, true), (11, true), (12, true), (13, true), (14, true), (15, true), (16, true), (17, true), (18, true),
                    (19, true), (20, true), (21, true), (22, true), (23, true), (24, true), (25, true), (26, true), (27, true),
                    (28, true), (29, true), (30, true)] (by kernel_rfl) (by kernel_rfl) ?_ ?_
              · exact ⟨by simp, by simp, by simp, by simp, by simp, by simp, cell_alloc_old hd⟩
              iterate 1 (first | (apply seg_skip rfl rfl; simp only [Act.put, List.setIfInBounds_toArray, List.set_cons_succ, List.set_cons_zero]) | (apply seg_pure rfl rfl rfl; · (rintro w' ⟨t0, t1, t2, t3, t4, t5, t6⟩; go_wp2; exact ⟨rfl, rfl, rfl⟩)))
              refine seg_loud rfl rfl ?_
              go_wp2_with fail
              refine (callMay' c _ _ HHS.out _ (HU.out.below (((Below.refl _ _).alloc (Nat.le_refl _) _).drew)) HOK.out).mono ?_
              rintro x w2 ⟨rfl, hb2⟩
              rw [HR0.out]
              have hb2' := hb2.size
              simp only [World.size_drew, World.size_alloc] at hb2'
              go_wp2_with fail
              refine ⟨⟨by rw [hb2.cell (by simp)]; simp, by rw [hb2.cell (by simp)]; simp, by rw [hb2.cell (by simp)]; simp, by rw [hb2.cell (by simp)]; simp, by rw [hb2.cell (by simp)]; simp, by rw [hb2.cell (by simp)]; simp, by rw [hb2.cell (by simp; omega)]; exact cell_alloc_old hd⟩, ?_⟩
              have hb3 : Below w1.heap.size w1 w2 := ((Below.refl _ _).alloc (Nat.le_refl _) _).trans ⟨hb2.os, hb2.tape, hb2.output, hb2.size, fun i hi => hb2.block i (by simp; omega)⟩
              replace hb := hb.trans (hb3.mono hb.size)
              iterate 29 (first | (apply seg_skip rfl rfl; simp only [Act.put, List.setIfInBounds_toArray, List.set_cons_succ, List.set_cons_zero]) | (apply seg_pure rfl rfl rfl; · (rintro w' ⟨t0, t1, t2, t3, t4, t5, t6⟩; go_wp2; exact ⟨rfl, rfl, rfl⟩)))
              refine seg_nil ?_
              refine NoPanic.normal ?_
              go_wp2_with fail
              refine HR.out _ _ ⟨(j + 1) + 1, rfl, by omega, ?_, hb⟩ ?_
              · intro i hi x hx
                rcases Nat.lt_or_ge i ((j + 1)) with h | h
                · exact HMM.out i h x hx
                · obtain rfl : i = (j + 1) := by omega
                  rw [HE.out] at hx
                  injection hx with hx
                  subst hx
                  exact HX.out
              · simp [intOf]
                omega
          · have f2 := ine_true q2
            have HX := Lib.hid (show ¬ (c.may ∧ (∀ d, 0 < j + 1 → l[j + 1 - 1]? = some d → c.n = d.n + 1) ∧ (j + 1 + 1 < l.length → c.has = true)) from fun h => q2 (h.2.1 d (by omega) HD0.out))
            clear q2
            go_wp2_with fail
            refine wp_region_seq (Cells7 b off j w1.heap.size c d (.slice au c.args.length capu) hs) [(0, true), (1, false), (2, true), (3, true), (4, true), (5, true), (6, true), (7, true), (8, true), (9, true),
                  (10, true), (11, true), (12, true), (13, true), (14, true), (15, true), (16, true), (17, true), (18, true),
                  (19, true), (20, true), (21, true), (22, true), (23, true), (24, true), (25, true), (26, true), (27, true),
                  (28, true), (29, true), (30, true)] (by kernel_rfl) (by kernel_rfl) ?_ ?_
            · exact ⟨by simp, by simp, by simp, by simp, by simp, by simp, cell_alloc_old hd⟩
            iterate 1 (first | (apply seg_skip rfl rfl; simp only [Act.put, List.setIfInBounds_toArray, List.set_cons_succ, List.set_cons_zero]) | (apply seg_pure rfl rfl rfl; · (rintro w' ⟨t0, t1, t2, t3, t4, t5, t6⟩; go_wp2; exact ⟨rfl, rfl, rfl⟩)))
            refine seg_loud rfl rfl ?_
            go_wp2_with fail
            refine (callMay' c _ _ HHS.out _ (HU.out.below (((Below.refl _ _).alloc (Nat.le_refl _) _).drew)) HOK.out).mono ?_
            rintro x w2 ⟨rfl, hb2⟩
            rw [HR0.out]
            have hb2' := hb2.size
            simp only [World.size_drew, World.size_alloc] at hb2'
            go_wp2_with fail
            refine ⟨⟨by rw [hb2.cell (by simp)]; simp, by rw [hb2.cell (by simp)]; simp, by rw [hb2.cell (by simp)]; simp, by rw [hb2.cell (by simp)]; simp, by rw [hb2.cell (by simp)]; simp, by rw [hb2.cell (by simp)]; simp, by rw [hb2.cell (by simp; omega)]; exact cell_alloc_old hd⟩, ?_⟩
            have hb3 : Below w1.heap.size w1 w2 := ((Below.refl _ _).alloc (Nat.le_refl _) _).trans ⟨hb2.os, hb2.tape, hb2.output, hb2.size, fun i hi => hb2.block i (by simp; omega)⟩
            replace hb := hb.trans (hb3.mono hb.size)
            iterate 29 (first | (apply seg_skip rfl rfl; simp only [Act.put, List.setIfInBounds_toArray, List.set_cons_succ, List.set_cons_zero]) | (apply seg_pure rfl rfl rfl; · (rintro w' ⟨t0, t1, t2, t3, t4, t5, t6⟩; go_wp2; exact ⟨rfl, rfl, rfl⟩)))
            refine seg_nil ?_
            refine NoPanic.normal ?_
            go_wp2_with fail
            go_ret
            exact ⟨false, rfl, ⟨fun h => (by cases h), fun h => absurd (h.1 (j + 1) hkl c HE.out) HX.out⟩, hb⟩
      · have hr : decide c.may = false := decide_eq_false hem
        have HR0 := Lib.hid hr
        have HX := Lib.hid (show ¬ (c.may ∧ (∀ d, 0 < k → l[k - 1]? = some d → c.n = d.n + 1) ∧ (k + 1 < l.length → c.has = true)) from fun h => hem h.1)
        clear hr hem
        go_wp2_with fail
        refine wp_region_seq (Cells7 b off j w1.heap.size c d (.slice au c.args.length capu) hs) [(0, true), (1, false), (2, true), (3, true), (4, true), (5, true), (6, true), (7, true), (8, true), (9, true),
              (10, true), (11, true), (12, true), (13, true), (14, true), (15, true), (16, true), (17, true), (18, true),
              (19, true), (20, true), (21, true), (22, true), (23, true), (24, true), (25, true), (26, true), (27, true),
              (28, true), (29, true), (30, true)] (by kernel_rfl) (by kernel_rfl) ?_ ?_
        · exact ⟨by simp, by simp, by simp, by simp, by simp, by simp, cell_alloc_old hd⟩
        iterate 1 (first | (apply seg_skip rfl rfl; simp only [Act.put, List.setIfInBounds_toArray, List.set_cons_succ, List.set_cons_zero]) | (apply seg_pure rfl rfl rfl; · (rintro w' ⟨t0, t1, t2, t3, t4, t5, t6⟩; go_wp2; exact ⟨rfl, rfl, rfl⟩)))
        refine seg_loud rfl rfl ?_
        go_wp2_with fail
        refine (callMay' c _ _ HHS.out _ (HU.out.below (((Below.refl _ _).alloc (Nat.le_refl _) _).drew)) HOK.out).mono ?_
        rintro x w2 ⟨rfl, hb2⟩
        rw [HR0.out]
        have hb2' := hb2.size
        simp only [World.size_drew, World.size_alloc] at hb2'
        go_wp2_with fail
        refine ⟨⟨by rw [hb2.cell (by simp)]; simp, by rw [hb2.cell (by simp)]; simp, by rw [hb2.cell (by simp)]; simp, by rw [hb2.cell (by simp)]; simp, by rw [hb2.cell (by simp)]; simp, by rw [hb2.cell (by simp)]; simp, by rw [hb2.cell (by simp; omega)]; exact cell_alloc_old hd⟩, ?_⟩
        have hb3 : Below w1.heap.size w1 w2 := ((Below.refl _ _).alloc (Nat.le_refl _) _).trans ⟨hb2.os, hb2.tape, hb2.output, hb2.size, fun i hi => hb2.block i (by simp; omega)⟩
        replace hb := hb.trans (hb3.mono hb.size)
        iterate 29 (first | (apply seg_skip rfl rfl; simp only [Act.put, List.setIfInBounds_toArray, List.set_cons_succ, List.set_cons_zero]) | (apply seg_pure rfl rfl rfl; · (rintro w' ⟨t0, t1, t2, t3, t4, t5, t6⟩; go_wp2; exact ⟨rfl, rfl, rfl⟩)))
        refine seg_nil ?_
        refine NoPanic.normal ?_
        go_wp2_with fail
        go_ret
        exact ⟨false, rfl, ⟨fun h => (by cases h), fun h => absurd (h.1 (k) hkl c HE.out) HX.out⟩, hb⟩
    · obtain rfl : k = l.length := by omega
      by_cases h32 : l.length ≤ 8
      · have f3 : decide ((l.length : Int) ≤ 8) = true := decide_eq_true (by omega)
        go_wp2_with fail
        go_ret
        exact ⟨true, rfl, ⟨fun _ => ⟨HMM.out, h32⟩, fun _ => rfl⟩, hb⟩
      · have f3 : decide ((l.length : Int) ≤ 8) = false := decide_eq_false (by omega)
        go_wp2_with fail
        go_ret
        exact ⟨false, rfl, ⟨fun h => (by cases h), fun h => absurd h.2 h32⟩, hb⟩
end Go.Proofs.Ytbgeijdfkdfdoaa
