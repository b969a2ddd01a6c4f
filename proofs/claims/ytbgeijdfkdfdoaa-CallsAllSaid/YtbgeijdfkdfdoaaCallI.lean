/-
  Walk of the statements' own function eq (calls).
-/
import Derived.Test.YtbgeijdfkdfdoaaCallE
import Derived.Test.YtbgeijdfkdfdoaaSeqT
namespace Go.Proofs.Ytbgeijdfkdfdoaa
open Go.RowKit

theorem Blk.set6 {w : World} {X : Nat} {t : TypeId} {x0 x1 x2 x3 x4 x5 : Value} (h : Blk w X #[x0, x1, x2, x3, x4, x5] t) (y0 y1 y2 y3 y4 y5 : Value) :
    Blk ((((((w.setCell ⟨X, 0, none⟩ y0).setCell ⟨X, 1, none⟩ y1).setCell ⟨X, 2, none⟩ y2).setCell ⟨X, 3, none⟩ y3).setCell ⟨X, 4, none⟩ y4).setCell ⟨X, 5, none⟩ y5) X #[y0, y1, y2, y3, y4, y5] t := by
  have := (((((h.set 0 y0).set 1 y1).set 2 y2).set 3 y3).set 4 y4).set 5 y5
  simpa using this

theorem Blk.other6 {w : World} {X Y : Nat} {t : TypeId} {cs : Array Value} (h : Blk w Y cs t) (hn : Y ≠ X) (y0 y1 y2 y3 y4 y5 : Value) :
    Blk ((((((w.setCell ⟨X, 0, none⟩ y0).setCell ⟨X, 1, none⟩ y1).setCell ⟨X, 2, none⟩ y2).setCell ⟨X, 3, none⟩ y3).setCell ⟨X, 4, none⟩ y4).setCell ⟨X, 5, none⟩ y5) Y cs t :=
  (((((h.other _ _ hn).other _ _ hn).other _ _ hn).other _ _ hn).other _ _ hn).other _ _ hn

theorem below_set6 {w w1 : World} {X B : Nat} (h : Below B w w1) (hX : B ≤ X) (y0 y1 y2 y3 y4 y5 : Value) :
    Below B w ((((((w1.setCell ⟨X, 0, none⟩ y0).setCell ⟨X, 1, none⟩ y1).setCell ⟨X, 2, none⟩ y2).setCell ⟨X, 3, none⟩ y3).setCell ⟨X, 4, none⟩ y4).setCell ⟨X, 5, none⟩ y5) :=
  (((((h.setCell hX _).setCell hX _).setCell hX _).setCell hX _).setCell hX _).setCell hX _

def Cells12 (b off b2 off2 k : Nat) (c d : CEnt) (u x : Value) (w : World) : Prop :=
  (w.cell? ⟨b, off + k * 6, none⟩ = some (.int .i64 c.n) ∧ w.cell? ⟨b, off + k * 6 + 1, none⟩ = some (.int .i64 c.fn) ∧ w.cell? ⟨b, off + k * 6 + 2, none⟩ = some (.int .i64 c.pos) ∧ w.cell? ⟨b, off + k * 6 + 3, none⟩ = some u ∧
    w.cell? ⟨b, off + k * 6 + 4, none⟩ = some (.bool c.has) ∧ w.cell? ⟨b, off + k * 6 + 5, none⟩ = some (.int .i64 c.ans)) ∧
  w.cell? ⟨b2, off2 + k * 6, none⟩ = some (.int .i64 d.n) ∧ w.cell? ⟨b2, off2 + k * 6 + 1, none⟩ = some (.int .i64 d.fn) ∧ w.cell? ⟨b2, off2 + k * 6 + 2, none⟩ = some (.int .i64 d.pos) ∧ w.cell? ⟨b2, off2 + k * 6 + 3, none⟩ = some x ∧
    w.cell? ⟨b2, off2 + k * 6 + 4, none⟩ = some (.bool d.has) ∧ w.cell? ⟨b2, off2 + k * 6 + 5, none⟩ = some (.int .i64 d.ans)

theorem Cells12.below {b off b2 off2 k : Nat} {c d : CEnt} {u x : Value} {w w' : World} (h : Cells12 b off b2 off2 k c d u x w) {B : Nat} (hk : Below B w w') (h1 : b < B) (h2 : b2 < B) : Cells12 b off b2 off2 k c d u x w' := by
  obtain ⟨⟨c0, c1, c2, c3, c4, c5⟩, d0, d1, d2, d3, d4, d5⟩ := h
  exact ⟨⟨by rw [hk.cell h1]; exact c0, by rw [hk.cell h1]; exact c1, by rw [hk.cell h1]; exact c2, by rw [hk.cell h1]; exact c3, by rw [hk.cell h1]; exact c4, by rw [hk.cell h1]; exact c5⟩,
    by rw [hk.cell h2]; exact d0, by rw [hk.cell h2]; exact d1, by rw [hk.cell h2]; exact d2, by rw [hk.cell h2]; exact d3, by rw [hk.cell h2]; exact d4, by rw [hk.cell h2]; exact d5⟩


set_option maxRecDepth 100000 in
set_option maxHeartbeats 4000000 in
theorem lawEqC_any (va vb : Value) (la lb : List CEnt) (w : World) (ha : IsCalls w va la) (hb : IsCalls w vb lb) :
    Calls Try.prog 42 #[va, vb] w (EqVEnd la lb w) := by
  have HA := Lib.hid ha
  have HB := Lib.hid hb
  obtain ⟨a, cap, rfl, h1, h2⟩ := ha.slice
  obtain ⟨a2, cap2, rfl, h3, h4⟩ := hb.slice
  clear ha hb
  by_cases hlen : la.length = lb.length
  rotate_left
  · have f1 : (((la.length : Int)) != ((lb.length : Int))) = true := ine_true (by omega)
    have HL := Lib.hid hlen
    clear hlen
    go_enter Try.func42, Try.ntmps42
    go_wp2_with fail
    go_ret
    exact ⟨false, rfl, ⟨fun h => (by cases h), fun h => absurd (congrArg List.length h) HL.out⟩, Below.refl _ _⟩
  rw [← hlen] at h3 HB ⊢
  have HL := Lib.hid hlen
  clear hlen
  go_enter Try.func42, Try.ntmps42
  go_wp2_with fail
  refine wp_loop_r (fun a' w' => ∃ (k : Nat), a' = { tmps := #[.slice a la.length cap, .slice a2 la.length cap2, slot a' 2, slot a' 3, slot a' 4, .int .i64 k, slot a' 6, slot a' 7, slot a' 8, slot a' 9, slot a' 10, slot a' 11, slot a' 12, slot a' 13, slot a' 14, slot a' 15, slot a' 16, slot a' 17, slot a' 18, slot a' 19, slot a' 20, slot a' 21, slot a' 22, slot a' 23, slot a' 24, slot a' 25, slot a' 26, slot a' 27, slot a' 28, slot a' 29, slot a' 30, slot a' 31, slot a' 32, slot a' 33, slot a' 34, slot a' 35, slot a' 36, slot a' 37, slot a' 38, slot a' 39, slot a' 40, slot a' 41, slot a' 42, slot a' 43, slot a' 44, slot a' 45, slot a' 46, slot a' 47, slot a' 48, slot a' 49, slot a' 50, slot a' 51, slot a' 52, slot a' 53, slot a' 54, slot a' 55, slot a' 56, slot a' 57, slot a' 58, slot a' 59, slot a' 60, slot a' 61, slot a' 62, slot a' 63, slot a' 64, slot a' 65, slot a' 66, slot a' 67], defers := [] } ∧ EqVJ la lb w w' k) (fun a' _ => (la.length - (intOf (a'.tmps.getD 5 undef)).toNat)) ?_ ?_
  · exact ⟨0, rfl, by omega, rfl, Below.refl _ _⟩
  · skip
    rintro R a' w1 ⟨k, hfr, hJ⟩ HR
    obtain ⟨f, hf⟩ : ∃ f, f = slot a' := ⟨_, rfl⟩
    rw [← hf] at hfr
    clear hf
    subst hfr
    obtain ⟨hk, htk, hb⟩ := hJ
    have HT := Lib.hid htk
    clear htk
    by_cases hkl : k < la.length
    rotate_left
    · obtain rfl : k = la.length := by omega
      go_wp2_with fail
      go_ret
      refine ⟨true, rfl, ⟨fun _ => ?_, fun _ => rfl⟩, hb⟩
      have := HT.out
      rw [List.take_length, HL.out, List.take_length] at this
      exact this
    obtain ⟨c, he⟩ : ∃ e, la[k]? = some e := ⟨_, List.getElem?_eq_getElem hkl⟩
    obtain ⟨d, hd⟩ : ∃ d, lb[k]? = some d := ⟨_, List.getElem?_eq_getElem (by have := HL.out; omega)⟩
    obtain ⟨b, off, u, rfl, hlt, hc6, hu, -⟩ := (HA.out.below (hb.mono (Nat.le_refl _))).get he
    obtain ⟨b2, off2, x, rfl, hlt2, hd6, hx, -⟩ := (HB.out.below (hb.mono (Nat.le_refl _))).get hd
    have HU := Lib.hid hu
    have HV := Lib.hid hx
    obtain ⟨au, capu, rfl, _, _, _⟩ := hu
    obtain ⟨ax, capx, rfl, _, _, _⟩ := hx
    have HE := Lib.hid he
    have HD := Lib.hid hd
    have cc : Cells12 b off b2 off2 k c d (.slice au c.args.length capu) (.slice ax d.args.length capx) w1 := ⟨hc6, hd6⟩
    have CC := Lib.hid cc
    clear he hd hc6 hd6 cc
    go_wp2_with fail
    refine wp_region_ord (Cells12 b off b2 off2 k c d (.slice au c.args.length capu) (.slice ax d.args.length capx)) (ord [(0, true), (1, true), (2, true), (3, true), (4, true), (5, true), (6, true), (7, true)]
      (.fork 8 9 (ord [(9, false), (10, false), (11, false)] .nil) (ord [(8, false), (10, false), (11, false)] .nil))) (by kernel_rfl) (by kernel_rfl) CC.out ?_
    dsimp only [ord]
    iterate 8 (first | (apply ord_skip rfl rfl; simp only [Act.put, List.setIfInBounds_toArray, List.set_cons_succ, List.set_cons_zero]) | (apply ord_pure rfl rfl rfl; · (rintro w' ⟨⟨t0, t1, t2, t3, t4, t5⟩, t6, t7, t8, t9, t10, t11⟩; go_wp2; exact ⟨rfl, rfl, rfl⟩)))
    have h11' : Below w1.heap.size w1 (w1.alloc (.cells #[.int .i64 0, .int .i64 0, .int .i64 0, .slice none 0 0, .bool false, .int .i64 0] 82)) := (Below.refl _ _).alloc (Nat.le_refl _) _
    have h11 : Below w1.heap.size w1 (w1.alloc (.cells #[.int .i64 0, .int .i64 0, .int .i64 0, .slice none 0 0, .bool false, .int .i64 0] 82)).drew := h11'.drew
    have h12 : Below w1.heap.size w1 ((w1.alloc (.cells #[.int .i64 0, .int .i64 0, .int .i64 0, .slice none 0 0, .bool false, .int .i64 0] 82)).alloc (.cells #[.int .i64 0, .int .i64 0, .int .i64 0, .slice none 0 0, .bool false, .int .i64 0] 82)).drew := (h11'.alloc (by simp) _).drew
    have hbx2 : Blk ((w1.alloc (.cells #[.int .i64 0, .int .i64 0, .int .i64 0, .slice none 0 0, .bool false, .int .i64 0] 82)).alloc (.cells #[.int .i64 0, .int .i64 0, .int .i64 0, .slice none 0 0, .bool false, .int .i64 0] 82)).drew w1.heap.size #[.int .i64 0, .int .i64 0, .int .i64 0, .slice none 0 0, .bool false, .int .i64 0] 82 := ((Blk.new w1 _ _).alloc _).drew
    have hby2 : Blk ((w1.alloc (.cells #[.int .i64 0, .int .i64 0, .int .i64 0, .slice none 0 0, .bool false, .int .i64 0] 82)).alloc (.cells #[.int .i64 0, .int .i64 0, .int .i64 0, .slice none 0 0, .bool false, .int .i64 0] 82)).drew (w1.heap.size + 1) #[.int .i64 0, .int .i64 0, .int .i64 0, .slice none 0 0, .bool false, .int .i64 0] 82 := by
      have := (Blk.new (w1.alloc (.cells #[.int .i64 0, .int .i64 0, .int .i64 0, .slice none 0 0, .bool false, .int .i64 0] 82)) #[.int .i64 0, .int .i64 0, .int .i64 0, .slice none 0 0, .bool false, .int .i64 0] 82).drew
      rw [World.size_alloc] at this
      exact this
    clear h11'
    refine ord_fork rfl rfl rfl rfl ?_ ?_
    · go_wp2_with fail
      refine ⟨CC.out.below h11 hlt hlt2, ?_⟩
      refine ord_loud rfl rfl ?_
      go_wp2_with fail
      generalize ((w1.alloc (.cells #[.int .i64 0, .int .i64 0, .int .i64 0, .slice none 0 0, .bool false, .int .i64 0] 82)).alloc (.cells #[.int .i64 0, .int .i64 0, .int .i64 0, .slice none 0 0, .bool false, .int .i64 0] 82)).drew = w2 at h12 hbx2 hby2 ⊢
      clear h11
      refine ⟨CC.out.below h12 hlt hlt2, ?_⟩
      refine ord_loud rfl rfl ?_
      obtain ⟨⟨x0, x1, x2, x3, x4, x5⟩, z0, z1, z2, z3, z4, z5⟩ := hbx2.six
      go_wp2_with fail
      clear x0 x1 x2 x3 x4 x5 z0 z1 z2 z3 z4 z5
      have hbX := hbx2.set6 (.int .i64 c.n) (.int .i64 c.fn) (.int .i64 c.pos) (.slice au c.args.length capu) (.bool c.has) (.int .i64 c.ans)
      have hbY := hby2.other6 (X := w1.heap.size) (by omega) (.int .i64 c.n) (.int .i64 c.fn) (.int .i64 c.pos) (.slice au c.args.length capu) (.bool c.has) (.int .i64 c.ans)
      have h13 := below_set6 h12 (X := w1.heap.size) (by omega) (.int .i64 c.n) (.int .i64 c.fn) (.int .i64 c.pos) (.slice au c.args.length capu) (.bool c.has) (.int .i64 c.ans)
      generalize ((((((w2.setCell ⟨w1.heap.size, 0, none⟩ (.int .i64 c.n)).setCell ⟨w1.heap.size, 1, none⟩ (.int .i64 c.fn)).setCell ⟨w1.heap.size, 2, none⟩ (.int .i64 c.pos)).setCell ⟨w1.heap.size, 3, none⟩ (.slice au c.args.length capu)).setCell ⟨w1.heap.size, 4, none⟩ (.bool c.has)).setCell ⟨w1.heap.size, 5, none⟩ (.int .i64 c.ans)) = w3 at hbX hbY h13 ⊢
      refine ⟨CC.out.below h13 hlt hlt2, ?_⟩
      refine ord_loud rfl rfl ?_
      obtain ⟨⟨x0, x1, x2, x3, x4, x5⟩, z0, z1, z2, z3, z4, z5⟩ := hbY.six
      go_wp2_with fail
      clear x0 x1 x2 x3 x4 x5 z0 z1 z2 z3 z4 z5
      have hby := hbY.set6 (.int .i64 d.n) (.int .i64 d.fn) (.int .i64 d.pos) (.slice ax d.args.length capx) (.bool d.has) (.int .i64 d.ans)
      have hbx := hbX.other6 (X := (w1.heap.size + 1)) (by omega) (.int .i64 d.n) (.int .i64 d.fn) (.int .i64 d.pos) (.slice ax d.args.length capx) (.bool d.has) (.int .i64 d.ans)
      have h14 := below_set6 h13 (X := (w1.heap.size + 1)) (by omega) (.int .i64 d.n) (.int .i64 d.fn) (.int .i64 d.pos) (.slice ax d.args.length capx) (.bool d.has) (.int .i64 d.ans)
      generalize ((((((w3.setCell ⟨(w1.heap.size + 1), 0, none⟩ (.int .i64 d.n)).setCell ⟨(w1.heap.size + 1), 1, none⟩ (.int .i64 d.fn)).setCell ⟨(w1.heap.size + 1), 2, none⟩ (.int .i64 d.pos)).setCell ⟨(w1.heap.size + 1), 3, none⟩ (.slice ax d.args.length capx)).setCell ⟨(w1.heap.size + 1), 4, none⟩ (.bool d.has)).setCell ⟨(w1.heap.size + 1), 5, none⟩ (.int .i64 d.ans)) = w4 at hbx hby h14 ⊢
      refine ⟨CC.out.below h14 hlt hlt2, ?_⟩
      refine ord_nil ?_
      refine NoPanic.normal ?_
      have hb4 := hb.trans (h14.mono hb.size)
      clear h12 h13 hbX hbY hbx2 hby2 hb CC
      obtain ⟨⟨x0, x1, x2, x3, x4, x5⟩, -⟩ := hbx.six
      obtain ⟨⟨y0, y1, y2, y3, y4, y5⟩, -⟩ := hby.six
      clear hbx hby
      by_cases q1 : c.n = d.n
      rotate_left
      · have f1 := ine_true q1
        have HX := Lib.hid (show c.n ≠ d.n from q1)
        clear q1
        go_wp2_with fail
        go_ret
        refine ⟨false, rfl, ⟨fun h => (by cases h), fun h => ?_⟩, hb4⟩
        have h1 := HE.out
        rw [h, HD.out] at h1
        injection h1 with h1
        exact (HX.out (by rw [h1])).elim
      have f1 := ine_false q1
      have Q1 := Lib.hid q1
      clear q1
      by_cases q2 : c.fn = d.fn
      rotate_left
      · have f2 := ine_true q2
        have HX := Lib.hid (show c.fn ≠ d.fn from q2)
        clear q2
        go_wp2_with fail
        go_ret
        refine ⟨false, rfl, ⟨fun h => (by cases h), fun h => ?_⟩, hb4⟩
        have h1 := HE.out
        rw [h, HD.out] at h1
        injection h1 with h1
        exact (HX.out (by rw [h1])).elim
      have f2 := ine_false q2
      have Q2 := Lib.hid q2
      clear q2
      by_cases q3 : c.pos = d.pos
      rotate_left
      · have f3 := ine_true q3
        have HX := Lib.hid (show c.pos ≠ d.pos from q3)
        clear q3
        go_wp2_with fail
        go_ret
        refine ⟨false, rfl, ⟨fun h => (by cases h), fun h => ?_⟩, hb4⟩
        have h1 := HE.out
        rw [h, HD.out] at h1
        injection h1 with h1
        exact (HX.out (by rw [h1])).elim
      have f3 := ine_false q3
      have Q3 := Lib.hid q3
      clear q3
      by_cases q4 : c.has = d.has
      rotate_left
      · have f4 : (c.has != d.has) = true := bne_iff_ne.2 q4
        have f4' : (c.has == d.has) = false := beq_eq_false_iff_ne.2 q4
        have HX := Lib.hid (show c.has ≠ d.has from q4)
        clear q4
        go_wp2_with fail
        go_ret
        refine ⟨false, rfl, ⟨fun h => (by cases h), fun h => ?_⟩, hb4⟩
        have h1 := HE.out
        rw [h, HD.out] at h1
        injection h1 with h1
        exact (HX.out (by rw [h1])).elim
      have f4 : (c.has != d.has) = false := by rw [q4]; exact bne_self_eq_false _
      have f4' : (c.has == d.has) = true := beq_iff_eq.2 q4
      have Q4 := Lib.hid q4
      clear q4
      by_cases q5 : c.ans = d.ans
      rotate_left
      · have f5 := ine_true q5
        have HX := Lib.hid (show c.ans ≠ d.ans from q5)
        clear q5
        go_wp2_with fail
        go_ret
        refine ⟨false, rfl, ⟨fun h => (by cases h), fun h => ?_⟩, hb4⟩
        have h1 := HE.out
        rw [h, HD.out] at h1
        injection h1 with h1
        exact (HX.out (by rw [h1])).elim
      have f5 := ine_false q5
      have Q5 := Lib.hid q5
      clear q5
      go_wp2_with fail
      refine (eqVals_any _ _ c.args d.args _ (HU.out.below (h14.mono (Nat.le_refl _))) (HV.out.below (h14.mono (Nat.le_refl _)))).mono ?_
      rintro y w5 ⟨r, rfl, hr, hb5⟩
      have hb := hb4.trans (hb5.mono hb4.size)
      have HRR := Lib.hid hr
      clear hr hb5 hb4 h14 x0 x1 x2 x3 x4 x5 y0 y1 y2 y3 y4 y5
      cases r with
      | false =>
        go_wp2_with fail
        go_ret
        refine ⟨false, rfl, ⟨fun h => (by cases h), fun h => ?_⟩, hb⟩
        have h1 := HE.out
        rw [h, HD.out] at h1
        injection h1 with h1
        have := HRR.out.2 (by rw [h1])
        simp at this
      | true =>
        go_wp2_with fail
        refine HR.out _ _ ⟨k + 1, rfl, by omega, ?_, hb⟩ ?_
        · rw [List.take_add_one, List.take_add_one, HT.out, HE.out, HD.out]
          have g := HRR.out.1 (by simp)
          obtain ⟨p0, p1, p2, p3, p4, p5⟩ := c
          obtain ⟨r0, r1, r2, r3, r4, r5⟩ := d
          have g1 := Q1.out
          have g2 := Q2.out
          have g3 := Q3.out
          have g4 := Q4.out
          have g5 := Q5.out
          simp only at g g1 g2 g3 g4 g5
          rw [g, g1, g2, g3, g4, g5]
        · simp [intOf]
          omega
    · go_wp2_with fail
      refine ⟨CC.out.below h11 hlt hlt2, ?_⟩
      refine ord_loud rfl rfl ?_
      go_wp2_with fail
      generalize ((w1.alloc (.cells #[.int .i64 0, .int .i64 0, .int .i64 0, .slice none 0 0, .bool false, .int .i64 0] 82)).alloc (.cells #[.int .i64 0, .int .i64 0, .int .i64 0, .slice none 0 0, .bool false, .int .i64 0] 82)).drew = w2 at h12 hbx2 hby2 ⊢
      clear h11
      refine ⟨CC.out.below h12 hlt hlt2, ?_⟩
      refine ord_loud rfl rfl ?_
      obtain ⟨⟨x0, x1, x2, x3, x4, x5⟩, z0, z1, z2, z3, z4, z5⟩ := hby2.six
      go_wp2_with fail
      clear x0 x1 x2 x3 x4 x5 z0 z1 z2 z3 z4 z5
      have hbX := hby2.set6 (.int .i64 c.n) (.int .i64 c.fn) (.int .i64 c.pos) (.slice au c.args.length capu) (.bool c.has) (.int .i64 c.ans)
      have hbY := hbx2.other6 (X := (w1.heap.size + 1)) (by omega) (.int .i64 c.n) (.int .i64 c.fn) (.int .i64 c.pos) (.slice au c.args.length capu) (.bool c.has) (.int .i64 c.ans)
      have h13 := below_set6 h12 (X := (w1.heap.size + 1)) (by omega) (.int .i64 c.n) (.int .i64 c.fn) (.int .i64 c.pos) (.slice au c.args.length capu) (.bool c.has) (.int .i64 c.ans)
      generalize ((((((w2.setCell ⟨(w1.heap.size + 1), 0, none⟩ (.int .i64 c.n)).setCell ⟨(w1.heap.size + 1), 1, none⟩ (.int .i64 c.fn)).setCell ⟨(w1.heap.size + 1), 2, none⟩ (.int .i64 c.pos)).setCell ⟨(w1.heap.size + 1), 3, none⟩ (.slice au c.args.length capu)).setCell ⟨(w1.heap.size + 1), 4, none⟩ (.bool c.has)).setCell ⟨(w1.heap.size + 1), 5, none⟩ (.int .i64 c.ans)) = w3 at hbX hbY h13 ⊢
      refine ⟨CC.out.below h13 hlt hlt2, ?_⟩
      refine ord_loud rfl rfl ?_
      obtain ⟨⟨x0, x1, x2, x3, x4, x5⟩, z0, z1, z2, z3, z4, z5⟩ := hbY.six
      go_wp2_with fail
      clear x0 x1 x2 x3 x4 x5 z0 z1 z2 z3 z4 z5
      have hby := hbY.set6 (.int .i64 d.n) (.int .i64 d.fn) (.int .i64 d.pos) (.slice ax d.args.length capx) (.bool d.has) (.int .i64 d.ans)
      have hbx := hbX.other6 (X := w1.heap.size) (by omega) (.int .i64 d.n) (.int .i64 d.fn) (.int .i64 d.pos) (.slice ax d.args.length capx) (.bool d.has) (.int .i64 d.ans)
      have h14 := below_set6 h13 (X := w1.heap.size) (by omega) (.int .i64 d.n) (.int .i64 d.fn) (.int .i64 d.pos) (.slice ax d.args.length capx) (.bool d.has) (.int .i64 d.ans)
      generalize ((((((w3.setCell ⟨w1.heap.size, 0, none⟩ (.int .i64 d.n)).setCell ⟨w1.heap.size, 1, none⟩ (.int .i64 d.fn)).setCell ⟨w1.heap.size, 2, none⟩ (.int .i64 d.pos)).setCell ⟨w1.heap.size, 3, none⟩ (.slice ax d.args.length capx)).setCell ⟨w1.heap.size, 4, none⟩ (.bool d.has)).setCell ⟨w1.heap.size, 5, none⟩ (.int .i64 d.ans)) = w4 at hbx hby h14 ⊢
      refine ⟨CC.out.below h14 hlt hlt2, ?_⟩
      refine ord_nil ?_
      refine NoPanic.normal ?_
      have hb4 := hb.trans (h14.mono hb.size)
      clear h12 h13 hbX hbY hbx2 hby2 hb CC
      obtain ⟨⟨x0, x1, x2, x3, x4, x5⟩, -⟩ := hbx.six
      obtain ⟨⟨y0, y1, y2, y3, y4, y5⟩, -⟩ := hby.six
      clear hbx hby
      by_cases q1 : c.n = d.n
      rotate_left
      · have f1 := ine_true q1
        have HX := Lib.hid (show c.n ≠ d.n from q1)
        clear q1
        go_wp2_with fail
        go_ret
        refine ⟨false, rfl, ⟨fun h => (by cases h), fun h => ?_⟩, hb4⟩
        have h1 := HE.out
        rw [h, HD.out] at h1
        injection h1 with h1
        exact (HX.out (by rw [h1])).elim
      have f1 := ine_false q1
      have Q1 := Lib.hid q1
      clear q1
      by_cases q2 : c.fn = d.fn
      rotate_left
      · have f2 := ine_true q2
        have HX := Lib.hid (show c.fn ≠ d.fn from q2)
        clear q2
        go_wp2_with fail
        go_ret
        refine ⟨false, rfl, ⟨fun h => (by cases h), fun h => ?_⟩, hb4⟩
        have h1 := HE.out
        rw [h, HD.out] at h1
        injection h1 with h1
        exact (HX.out (by rw [h1])).elim
      have f2 := ine_false q2
      have Q2 := Lib.hid q2
      clear q2
      by_cases q3 : c.pos = d.pos
      rotate_left
      · have f3 := ine_true q3
        have HX := Lib.hid (show c.pos ≠ d.pos from q3)
        clear q3
        go_wp2_with fail
        go_ret
        refine ⟨false, rfl, ⟨fun h => (by cases h), fun h => ?_⟩, hb4⟩
        have h1 := HE.out
        rw [h, HD.out] at h1
        injection h1 with h1
        exact (HX.out (by rw [h1])).elim
      have f3 := ine_false q3
      have Q3 := Lib.hid q3
      clear q3
      by_cases q4 : c.has = d.has
      rotate_left
      · have f4 : (c.has != d.has) = true := bne_iff_ne.2 q4
        have f4' : (c.has == d.has) = false := beq_eq_false_iff_ne.2 q4
        have HX := Lib.hid (show c.has ≠ d.has from q4)
        clear q4
        go_wp2_with fail
        go_ret
        refine ⟨false, rfl, ⟨fun h => (by cases h), fun h => ?_⟩, hb4⟩
        have h1 := HE.out
        rw [h, HD.out] at h1
        injection h1 with h1
        exact (HX.out (by rw [h1])).elim
      have f4 : (c.has != d.has) = false := by rw [q4]; exact bne_self_eq_false _
      have f4' : (c.has == d.has) = true := beq_iff_eq.2 q4
      have Q4 := Lib.hid q4
      clear q4
      by_cases q5 : c.ans = d.ans
      rotate_left
      · have f5 := ine_true q5
        have HX := Lib.hid (show c.ans ≠ d.ans from q5)
        clear q5
        go_wp2_with fail
        go_ret
        refine ⟨false, rfl, ⟨fun h => (by cases h), fun h => ?_⟩, hb4⟩
        have h1 := HE.out
        rw [h, HD.out] at h1
        injection h1 with h1
        exact (HX.out (by rw [h1])).elim
      have f5 := ine_false q5
      have Q5 := Lib.hid q5
      clear q5
      go_wp2_with fail
      refine (eqVals_any _ _ c.args d.args _ (HU.out.below (h14.mono (Nat.le_refl _))) (HV.out.below (h14.mono (Nat.le_refl _)))).mono ?_
      rintro y w5 ⟨r, rfl, hr, hb5⟩
      have hb := hb4.trans (hb5.mono hb4.size)
      have HRR := Lib.hid hr
      clear hr hb5 hb4 h14 x0 x1 x2 x3 x4 x5 y0 y1 y2 y3 y4 y5
      cases r with
      | false =>
        go_wp2_with fail
        go_ret
        refine ⟨false, rfl, ⟨fun h => (by cases h), fun h => ?_⟩, hb⟩
        have h1 := HE.out
        rw [h, HD.out] at h1
        injection h1 with h1
        have := HRR.out.2 (by rw [h1])
        simp at this
      | true =>
        go_wp2_with fail
        refine HR.out _ _ ⟨k + 1, rfl, by omega, ?_, hb⟩ ?_
        · rw [List.take_add_one, List.take_add_one, HT.out, HE.out, HD.out]
          have g := HRR.out.1 (by simp)
          obtain ⟨p0, p1, p2, p3, p4, p5⟩ := c
          obtain ⟨r0, r1, r2, r3, r4, r5⟩ := d
          have g1 := Q1.out
          have g2 := Q2.out
          have g3 := Q3.out
          have g4 := Q4.out
          have g5 := Q5.out
          simp only at g g1 g2 g3 g4 g5
          rw [g, g1, g2, g3, g4, g5]
        · simp [intOf]
          omega
end Go.Proofs.Ytbgeijdfkdfdoaa
