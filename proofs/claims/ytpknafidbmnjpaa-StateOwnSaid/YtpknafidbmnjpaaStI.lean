/-
  Walk of the statements' own function eq (state).
-/
import Derived.Test.YtpknafidbmnjpaaStF
import Derived.Test.YtpknafidbmnjpaaStG
namespace Go.Proofs.Ytpknafidbmnjpaa
open Go.RowKit

def CellsF (b off k : Nat) (c : FEnt) (u x : Value) (w : World) : Prop :=
  w.cell? ⟨b, off + k * 5, none⟩ = some (.int .i64 c.fn) ∧ w.cell? ⟨b, off + k * 5 + 1, none⟩ = some (.int .i64 c.pc) ∧ w.cell? ⟨b, off + k * 5 + 2, none⟩ = some u ∧ w.cell? ⟨b, off + k * 5 + 3, none⟩ = some (.int .i64 c.base) ∧
    w.cell? ⟨b, off + k * 5 + 4, none⟩ = some x

theorem CellsF.below {b off k : Nat} {c : FEnt} {u x : Value} {w w' : World} (h : CellsF b off k c u x w) {B : Nat} (hk : Below B w w') (h1 : b < B) : CellsF b off k c u x w' := by
  obtain ⟨c0, c1, c2, c3, c4⟩ := h
  exact ⟨by rw [hk.cell h1]; exact c0, by rw [hk.cell h1]; exact c1, by rw [hk.cell h1]; exact c2, by rw [hk.cell h1]; exact c3, by rw [hk.cell h1]; exact c4⟩

def EqS (B0 : Nat) (v1 v2 : Value) (b off b2 off2 k : Nat) (c d : FEnt) (u x u2 x2 : Value) (w : World) : Prop :=
  (w.cell? ⟨B0, 1, none⟩ = some v1 ∧ w.cell? ⟨B0 + 1, 1, none⟩ = some v2) ∧ CellsF b off k c u x w ∧ CellsF b2 off2 k d u2 x2 w

theorem EqS.below {B0 : Nat} {v1 v2 : Value} {b off b2 off2 k : Nat} {c d : FEnt} {u x u2 x2 : Value} {w w' : World} (h : EqS B0 v1 v2 b off b2 off2 k c d u x u2 x2 w) {B : Nat} (hk : Below B w w') (h1 : b < B) (h2 : b2 < B) (h3 : B0 + 1 < B) :
    EqS B0 v1 v2 b off b2 off2 k c d u x u2 x2 w' :=
  ⟨⟨by rw [hk.cell (show B0 < B by omega)]; exact h.1.1, by rw [hk.cell h3]; exact h.1.2⟩, h.2.1.below hk h1, h.2.2.below hk h2⟩

def EqLS (X Y : Nat) (v1 v2 : Value) (b off b2 off2 k : Nat) (e d : LEnt) (w : World) : Prop :=
  (w.cell? ⟨X, 4, none⟩ = some v1 ∧ w.cell? ⟨Y, 4, none⟩ = some v2) ∧ Cells22L b off b2 off2 k e d w

theorem Blk.set5 {w : World} {X : Nat} {t : TypeId} {x0 x1 x2 x3 x4 : Value} (h : Blk w X #[x0, x1, x2, x3, x4] t) (y0 y1 y2 y3 y4 : Value) :
    Blk (((((w.setCell ⟨X, 0, none⟩ y0).setCell ⟨X, 1, none⟩ y1).setCell ⟨X, 2, none⟩ y2).setCell ⟨X, 3, none⟩ y3).setCell ⟨X, 4, none⟩ y4) X #[y0, y1, y2, y3, y4] t := by
  have := ((((h.set 0 y0).set 1 y1).set 2 y2).set 3 y3).set 4 y4
  simpa using this

theorem Blk.other5 {w : World} {X Y : Nat} {t : TypeId} {cs : Array Value} (h : Blk w Y cs t) (hn : Y ≠ X) (y0 y1 y2 y3 y4 : Value) :
    Blk (((((w.setCell ⟨X, 0, none⟩ y0).setCell ⟨X, 1, none⟩ y1).setCell ⟨X, 2, none⟩ y2).setCell ⟨X, 3, none⟩ y3).setCell ⟨X, 4, none⟩ y4) Y cs t :=
  ((((h.other _ _ hn).other _ _ hn).other _ _ hn).other _ _ hn).other _ _ hn

theorem below_set5 {w w1 : World} {X B : Nat} (h : Below B w w1) (hX : B ≤ X) (y0 y1 y2 y3 y4 : Value) :
    Below B w (((((w1.setCell ⟨X, 0, none⟩ y0).setCell ⟨X, 1, none⟩ y1).setCell ⟨X, 2, none⟩ y2).setCell ⟨X, 3, none⟩ y3).setCell ⟨X, 4, none⟩ y4) :=
  ((((h.setCell hX _).setCell hX _).setCell hX _).setCell hX _).setCell hX _

def LEqJ (s t : SEnt) (cx cy : Array Value) (w w' : World) (k : Nat) : Prop :=
  EqVJ s.frames t.frames w w' k ∧ Blk w' w.heap.size cx 25 ∧ Blk w' (w.heap.size + 1) cy 25

def LEqK (w1 w' : World) (X Y : Nat) (cx cy : Array Value) : Prop :=
  Below w1.heap.size w1 w' ∧ Blk w' X cx 42 ∧ Blk w' Y cy 42

def LEqEnd (s t : SEnt) (w : World) (e : Ending) (w' : World) : Prop := ∃ r : Bool, e = .returned (.bool r) ∧ (r = true ↔ s = t) ∧ Below w.heap.size w w'


set_option maxRecDepth 100000 in
set_option maxHeartbeats 4000000 in
theorem lawEqS_any (uv uf uv2 uf2 : Value) (s t : SEnt) (w : World) (hs : IsState w uv uf s) (ht : IsState w uv2 uf2 t) :
    Calls Try.prog 14 #[.agg #[uv, uf, .int .i64 s.asks], .agg #[uv2, uf2, .int .i64 t.asks]] w
      (LEqEnd s t w) := by
  obtain ⟨hv, hf, -⟩ := hs
  obtain ⟨hv2, hf2, -⟩ := ht
  have HV := Lib.hid hv
  have HF := Lib.hid hf
  have HV2 := Lib.hid hv2
  have HF2 := Lib.hid hf2
  obtain ⟨av, capv, rfl, _, _, _⟩ := hv
  obtain ⟨af, capf, rfl, hl1, hl2⟩ := hf.slice
  obtain ⟨av2, capv2, rfl, _, _, _⟩ := hv2
  obtain ⟨af2, capf2, rfl, hl3, hl4⟩ := hf2.slice
  clear hf hf2
  have hb : Below w.heap.size w ((w.alloc (.cells #[.slice av s.vals.length capv, .slice af s.frames.length capf, .int .i64 s.asks] 25)).alloc (.cells #[.slice av2 t.vals.length capv2, .slice af2 t.frames.length capf2, .int .i64 t.asks] 25)) :=
    ((Below.refl w.heap.size w).alloc (Nat.le_refl _) _).alloc (by simp) _
  have hbx : Blk ((w.alloc (.cells #[.slice av s.vals.length capv, .slice af s.frames.length capf, .int .i64 s.asks] 25)).alloc (.cells #[.slice av2 t.vals.length capv2, .slice af2 t.frames.length capf2, .int .i64 t.asks] 25)) w.heap.size #[.slice av s.vals.length capv, .slice af s.frames.length capf, .int .i64 s.asks] 25 := (Blk.new w _ _).alloc _
  have hby : Blk ((w.alloc (.cells #[.slice av s.vals.length capv, .slice af s.frames.length capf, .int .i64 s.asks] 25)).alloc (.cells #[.slice av2 t.vals.length capv2, .slice af2 t.frames.length capf2, .int .i64 t.asks] 25)) (w.heap.size + 1) #[.slice av2 t.vals.length capv2, .slice af2 t.frames.length capf2, .int .i64 t.asks] 25 := by
    have := Blk.new (w.alloc (.cells #[.slice av s.vals.length capv, .slice af s.frames.length capf, .int .i64 s.asks] 25)) #[.slice av2 t.vals.length capv2, .slice af2 t.frames.length capf2, .int .i64 t.asks] 25
    rw [World.size_alloc] at this
    exact this
  go_enter Try.func14, Try.ntmps14
  go_wp2_with fail
  refine (eqVals_any _ _ s.vals t.vals _ (HV.out.below (hb.mono (Nat.le_refl _))) (HV2.out.below (hb.mono (Nat.le_refl _)))).mono ?_
  rintro y w2 ⟨r, rfl, hr, hb2⟩
  have hbx2 := hbx.below hb2 hbx.lt
  have hby2 := hby.below hb2 hby.lt
  replace hb := hb.trans (hb2.mono hb.size)
  have HRR := Lib.hid hr
  obtain ⟨x0, x1, x2⟩ := hbx2.three
  obtain ⟨y0, y1, y2⟩ := hby2.three
  clear hr hb2 hbx hby
  cases r with
  | false =>
    go_wp2_with fail
    go_ret
    refine ⟨false, rfl, ⟨fun h => (by cases h), fun h => ?_⟩, hb⟩
    have g := HRR.out.2 (by rw [h])
    simp at g
  | true =>
  by_cases q2 : s.frames.length = t.frames.length
  rotate_left
  · have f2 : ((s.frames.length : Int) != (t.frames.length : Int)) = true := ine_true (by omega)
    have HX := Lib.hid (show s.frames.length ≠ t.frames.length from q2)
    clear q2
    go_wp2_with fail
    go_ret
    exact ⟨false, rfl, ⟨fun h => (by cases h), fun h => (HX.out (by rw [h])).elim⟩, hb⟩
  have f2 : ((s.frames.length : Int) != (t.frames.length : Int)) = false := ine_false (by omega)
  by_cases q3 : s.asks = t.asks
  rotate_left
  · have f3 := ine_true q3
    have HX := Lib.hid (show s.asks ≠ t.asks from q3)
    clear q3
    have Q2 := Lib.hid q2
    clear q2
    go_wp2_with fail
    go_ret
    exact ⟨false, rfl, ⟨fun h => (by cases h), fun h => (HX.out (by rw [h])).elim⟩, hb⟩
  have f3 := ine_false q3
  have Q3 := Lib.hid q3
  have HL := Lib.hid q2
  clear q3 q2
  go_wp2_with fail
  clear x0 x1 x2 y0 y1 y2
  refine wp_loop_r (fun a' w' => ∃ (k : Nat), a' = { tmps := #[slot a' 0, slot a' 1, .pointer (some ⟨w.heap.size, 0, none⟩), .pointer (some ⟨w.heap.size + 1, 0, none⟩), slot a' 4, .int .i64 k, slot a' 6, slot a' 7, slot a' 8, slot a' 9, slot a' 10, slot a' 11, slot a' 12, slot a' 13, slot a' 14, slot a' 15, slot a' 16, slot a' 17, slot a' 18, slot a' 19, slot a' 20, slot a' 21, slot a' 22, slot a' 23, slot a' 24, slot a' 25, slot a' 26, slot a' 27, slot a' 28, slot a' 29, slot a' 30, slot a' 31, slot a' 32, slot a' 33, slot a' 34, slot a' 35, slot a' 36, slot a' 37, slot a' 38, slot a' 39, slot a' 40, slot a' 41, slot a' 42, slot a' 43, slot a' 44, slot a' 45, slot a' 46, slot a' 47, slot a' 48, slot a' 49, slot a' 50, slot a' 51, slot a' 52, slot a' 53, slot a' 54, slot a' 55, slot a' 56, slot a' 57, slot a' 58, slot a' 59, slot a' 60, slot a' 61, slot a' 62, slot a' 63, slot a' 64, slot a' 65, slot a' 66, slot a' 67, slot a' 68, slot a' 69, slot a' 70, slot a' 71, slot a' 72, slot a' 73, slot a' 74, slot a' 75, slot a' 76, slot a' 77, slot a' 78, slot a' 79, slot a' 80, slot a' 81, slot a' 82, slot a' 83, slot a' 84, slot a' 85, slot a' 86, slot a' 87, slot a' 88, slot a' 89, slot a' 90, slot a' 91, slot a' 92, slot a' 93, slot a' 94, slot a' 95, slot a' 96, slot a' 97, slot a' 98, slot a' 99, slot a' 100, slot a' 101, slot a' 102, slot a' 103, slot a' 104, slot a' 105, slot a' 106, slot a' 107, slot a' 108, slot a' 109, slot a' 110, slot a' 111, slot a' 112, slot a' 113, slot a' 114, slot a' 115, slot a' 116, slot a' 117, slot a' 118], defers := [] } ∧ LEqJ s t #[.slice av s.vals.length capv, .slice af s.frames.length capf, .int .i64 s.asks] #[.slice av2 t.vals.length capv2, .slice af2 t.frames.length capf2, .int .i64 t.asks] w w' k) (fun a' _ => (s.frames.length - (intOf (a'.tmps.getD 5 undef)).toNat)) ?_ ?_
  · exact ⟨0, rfl, ⟨by omega, rfl, hb⟩, hbx2, hby2⟩
  clear hb hbx2 hby2 f2 f3
  rintro R a' w1 ⟨k, hfr, hJ⟩ HR
  obtain ⟨f, hf⟩ : ∃ f, f = slot a' := ⟨_, rfl⟩
  rw [← hf] at hfr
  clear hf
  subst hfr
  obtain ⟨⟨hk, htk, hb⟩, hbs, hbt⟩ := hJ
  have HT := Lib.hid htk
  clear htk
  obtain ⟨x0, x1, x2⟩ := hbs.three
  obtain ⟨y0, y1, y2⟩ := hbt.three
  by_cases hkl : k < s.frames.length
  rotate_left
  · obtain rfl : k = s.frames.length := by omega
    go_wp2_with fail
    go_ret
    refine ⟨true, rfl, ⟨fun _ => ?_, fun _ => rfl⟩, hb⟩
    have g := HT.out
    rw [List.take_length, HL.out, List.take_length] at g
    have g1 := HRR.out.1 (by simp)
    have g2 := Q3.out
    obtain ⟨p0, p1, p2⟩ := s
    obtain ⟨s0, s1, s2⟩ := t
    simp only at g g1 g2
    rw [g, g1, g2]
  have hklt : k < t.frames.length := by have := HL.out; omega
  obtain ⟨c, he⟩ : ∃ e, s.frames[k]? = some e := ⟨_, List.getElem?_eq_getElem hkl⟩
  obtain ⟨d, hd⟩ : ∃ d, t.frames[k]? = some d := ⟨_, List.getElem?_eq_getElem hklt⟩
  obtain ⟨b, off, u, x, rfl, hlt, hcc, hu, hx, -⟩ := (HF.out.below (hb.mono (Nat.le_refl _))).get he
  obtain ⟨b2, off2, u2, x2', rfl, hlt2, hdd, hu2, hx2, -⟩ := (HF2.out.below (hb.mono (Nat.le_refl _))).get hd
  have HU := Lib.hid hu
  have HX' := Lib.hid hx
  have HU2 := Lib.hid hu2
  have HX2 := Lib.hid hx2
  obtain ⟨au, capu, rfl, _, _, _⟩ := hu
  obtain ⟨ax, capx, rfl, hxa, hxb, _⟩ := hx
  obtain ⟨au2, capu2, rfl, _, _, _⟩ := hu2
  obtain ⟨ax2, capx2, rfl, hxc, hxd, _⟩ := hx2
  unfold maxLen at hxb hxd
  have HE := Lib.hid he
  have HD := Lib.hid hd
  have cc : EqS w.heap.size (.slice (some ⟨b, off, none⟩) s.frames.length capf) (.slice (some ⟨b2, off2, none⟩) t.frames.length capf2) b off b2 off2 k c d (.slice au c.locals.length capu) (.slice ax c.labels.length capx) (.slice au2 d.locals.length capu2) (.slice ax2 d.labels.length capx2) w1 := ⟨⟨x1, y1⟩, hcc, hdd⟩
  have CC := Lib.hid cc
  have HBS := Lib.hid hbs
  have HBT := Lib.hid hbt
  have hB1 : w.heap.size + 1 < w1.heap.size := hbt.lt
  clear he hd hcc hdd cc hbs hbt
  go_wp2_with fail
  refine wp_cut (fun a' w' => ∃ (X Y : Nat), a' = { tmps := #[slot a' 0, slot a' 1, .pointer (some ⟨w.heap.size, 0, none⟩), .pointer (some ⟨w.heap.size + 1, 0, none⟩), slot a' 4, .int .i64 k, .pointer (some ⟨X, 0, none⟩), .pointer (some ⟨Y, 0, none⟩), slot a' 8, slot a' 9, slot a' 10, slot a' 11, slot a' 12, slot a' 13, slot a' 14, slot a' 15, slot a' 16, slot a' 17, slot a' 18, slot a' 19, slot a' 20, slot a' 21, slot a' 22, slot a' 23, slot a' 24, slot a' 25, slot a' 26, slot a' 27, slot a' 28, slot a' 29, slot a' 30, slot a' 31, slot a' 32, slot a' 33, slot a' 34, slot a' 35, slot a' 36, slot a' 37, slot a' 38, slot a' 39, slot a' 40, slot a' 41, slot a' 42, slot a' 43, slot a' 44, slot a' 45, slot a' 46, slot a' 47, slot a' 48, slot a' 49, slot a' 50, slot a' 51, slot a' 52, slot a' 53, slot a' 54, slot a' 55, slot a' 56, slot a' 57, slot a' 58, slot a' 59, slot a' 60, slot a' 61, slot a' 62, slot a' 63, slot a' 64, slot a' 65, slot a' 66, slot a' 67, slot a' 68, slot a' 69, slot a' 70, slot a' 71, slot a' 72, slot a' 73, slot a' 74, slot a' 75, slot a' 76, slot a' 77, slot a' 78, slot a' 79, slot a' 80, slot a' 81, slot a' 82, slot a' 83, slot a' 84, slot a' 85, slot a' 86, slot a' 87, slot a' 88, slot a' 89, slot a' 90, slot a' 91, slot a' 92, slot a' 93, slot a' 94, slot a' 95, slot a' 96, slot a' 97, slot a' 98, slot a' 99, slot a' 100, slot a' 101, slot a' 102, slot a' 103, slot a' 104, slot a' 105, slot a' 106, slot a' 107, slot a' 108, slot a' 109, slot a' 110, slot a' 111, slot a' 112, slot a' 113, slot a' 114, slot a' 115, slot a' 116, slot a' 117, slot a' 118], defers := [] } ∧ LEqK w1 w' X Y #[.int .i64 c.fn, .int .i64 c.pc, .slice au c.locals.length capu, .int .i64 c.base, .slice ax c.labels.length capx] #[.int .i64 d.fn, .int .i64 d.pc, .slice au2 d.locals.length capu2, .int .i64 d.base, .slice ax2 d.labels.length capx2]) ?_ ?_
  · refine wp_region_ord (EqS w.heap.size (.slice (some ⟨b, off, none⟩) s.frames.length capf) (.slice (some ⟨b2, off2, none⟩) t.frames.length capf2) b off b2 off2 k c d (.slice au c.locals.length capu) (.slice ax c.labels.length capx) (.slice au2 d.locals.length capu2) (.slice ax2 d.labels.length capx2)) (ord [(0, true), (1, true), (2, true), (3, true), (4, true), (5, true), (6, true), (7, true), (8, true), (9, true)]
      (.fork 10 11 (ord [(11, false), (12, false), (13, false)] .nil) (ord [(10, false), (12, false), (13, false)] .nil))) (by kernel_rfl) (by kernel_rfl) CC.out ?_
    clear x0 x1 x2 y0 y1 y2
    dsimp only [ord]
    iterate 10 (first | (apply ord_skip rfl rfl; simp only [Act.put, List.setIfInBounds_toArray, List.set_cons_succ, List.set_cons_zero]) | (apply ord_pure rfl rfl rfl; · (rintro w' ⟨⟨t0, t1⟩, ⟨t2, t3, t4, t5, t6⟩, t7, t8, t9, t10, t11⟩; go_wp2; exact ⟨rfl, rfl, rfl⟩)))
    have h11' : Below w1.heap.size w1 (w1.alloc (.cells #[.int .i64 0, .int .i64 0, .slice none 0 0, .int .i64 0, .slice none 0 0] 42)) := (Below.refl _ _).alloc (Nat.le_refl _) _
    have h11 : Below w1.heap.size w1 (w1.alloc (.cells #[.int .i64 0, .int .i64 0, .slice none 0 0, .int .i64 0, .slice none 0 0] 42)).drew := h11'.drew
    have h12 : Below w1.heap.size w1 ((w1.alloc (.cells #[.int .i64 0, .int .i64 0, .slice none 0 0, .int .i64 0, .slice none 0 0] 42)).alloc (.cells #[.int .i64 0, .int .i64 0, .slice none 0 0, .int .i64 0, .slice none 0 0] 42)).drew := (h11'.alloc (by simp) _).drew
    have hbx2 : Blk ((w1.alloc (.cells #[.int .i64 0, .int .i64 0, .slice none 0 0, .int .i64 0, .slice none 0 0] 42)).alloc (.cells #[.int .i64 0, .int .i64 0, .slice none 0 0, .int .i64 0, .slice none 0 0] 42)).drew w1.heap.size #[.int .i64 0, .int .i64 0, .slice none 0 0, .int .i64 0, .slice none 0 0] 42 := ((Blk.new w1 _ _).alloc _).drew
    have hby2 : Blk ((w1.alloc (.cells #[.int .i64 0, .int .i64 0, .slice none 0 0, .int .i64 0, .slice none 0 0] 42)).alloc (.cells #[.int .i64 0, .int .i64 0, .slice none 0 0, .int .i64 0, .slice none 0 0] 42)).drew (w1.heap.size + 1) #[.int .i64 0, .int .i64 0, .slice none 0 0, .int .i64 0, .slice none 0 0] 42 := by
      have := (Blk.new (w1.alloc (.cells #[.int .i64 0, .int .i64 0, .slice none 0 0, .int .i64 0, .slice none 0 0] 42)) #[.int .i64 0, .int .i64 0, .slice none 0 0, .int .i64 0, .slice none 0 0] 42).drew
      rw [World.size_alloc] at this
      exact this
    clear h11'
    refine ord_fork rfl rfl rfl rfl ?_ ?_
    · go_wp2_with fail
      refine ⟨CC.out.below h11 hlt hlt2 hB1, ?_⟩
      refine ord_loud rfl rfl ?_
      go_wp2_with fail
      generalize ((w1.alloc (.cells #[.int .i64 0, .int .i64 0, .slice none 0 0, .int .i64 0, .slice none 0 0] 42)).alloc (.cells #[.int .i64 0, .int .i64 0, .slice none 0 0, .int .i64 0, .slice none 0 0] 42)).drew = w2 at h12 hbx2 hby2 ⊢
      clear h11
      refine ⟨CC.out.below h12 hlt hlt2 hB1, ?_⟩
      refine ord_loud rfl rfl ?_
      obtain ⟨p0, p1, p2, p3, p4⟩ := hbx2.five
      have z0 := hbx2.free 0
      have z1 := hbx2.free 1
      have z2 := hbx2.free 2
      have z3 := hbx2.free 3
      have z4 := hbx2.free 4
      go_wp2_with fail
      clear p0 p1 p2 p3 p4 z0 z1 z2 z3 z4
      have hbX := hbx2.set5 (.int .i64 c.fn) (.int .i64 c.pc) (.slice au c.locals.length capu) (.int .i64 c.base) (.slice ax c.labels.length capx)
      have hbY := hby2.other5 (X := w1.heap.size) (by omega) (.int .i64 c.fn) (.int .i64 c.pc) (.slice au c.locals.length capu) (.int .i64 c.base) (.slice ax c.labels.length capx)
      have h13 := below_set5 h12 (X := w1.heap.size) (by omega) (.int .i64 c.fn) (.int .i64 c.pc) (.slice au c.locals.length capu) (.int .i64 c.base) (.slice ax c.labels.length capx)
      generalize (((((w2.setCell ⟨w1.heap.size, 0, none⟩ (.int .i64 c.fn)).setCell ⟨w1.heap.size, 1, none⟩ (.int .i64 c.pc)).setCell ⟨w1.heap.size, 2, none⟩ (.slice au c.locals.length capu)).setCell ⟨w1.heap.size, 3, none⟩ (.int .i64 c.base)).setCell ⟨w1.heap.size, 4, none⟩ (.slice ax c.labels.length capx)) = w3 at hbX hbY h13 ⊢
      refine ⟨CC.out.below h13 hlt hlt2 hB1, ?_⟩
      refine ord_loud rfl rfl ?_
      obtain ⟨p0, p1, p2, p3, p4⟩ := hbY.five
      have z0 := hbY.free 0
      have z1 := hbY.free 1
      have z2 := hbY.free 2
      have z3 := hbY.free 3
      have z4 := hbY.free 4
      go_wp2_with fail
      clear p0 p1 p2 p3 p4 z0 z1 z2 z3 z4
      have hby := hbY.set5 (.int .i64 d.fn) (.int .i64 d.pc) (.slice au2 d.locals.length capu2) (.int .i64 d.base) (.slice ax2 d.labels.length capx2)
      have hbx := hbX.other5 (X := (w1.heap.size + 1)) (by omega) (.int .i64 d.fn) (.int .i64 d.pc) (.slice au2 d.locals.length capu2) (.int .i64 d.base) (.slice ax2 d.labels.length capx2)
      have h14 := below_set5 h13 (X := (w1.heap.size + 1)) (by omega) (.int .i64 d.fn) (.int .i64 d.pc) (.slice au2 d.locals.length capu2) (.int .i64 d.base) (.slice ax2 d.labels.length capx2)
      generalize (((((w3.setCell ⟨(w1.heap.size + 1), 0, none⟩ (.int .i64 d.fn)).setCell ⟨(w1.heap.size + 1), 1, none⟩ (.int .i64 d.pc)).setCell ⟨(w1.heap.size + 1), 2, none⟩ (.slice au2 d.locals.length capu2)).setCell ⟨(w1.heap.size + 1), 3, none⟩ (.int .i64 d.base)).setCell ⟨(w1.heap.size + 1), 4, none⟩ (.slice ax2 d.labels.length capx2)) = w4 at hbx hby h14 ⊢
      refine ⟨CC.out.below h14 hlt hlt2 hB1, ?_⟩
      refine ord_nil ?_
      refine NoPanic.normal ?_
      exact ⟨rfl, w1.heap.size, (w1.heap.size + 1), rfl, h14, hbx, hby⟩
    · go_wp2_with fail
      refine ⟨CC.out.below h11 hlt hlt2 hB1, ?_⟩
      refine ord_loud rfl rfl ?_
      go_wp2_with fail
      generalize ((w1.alloc (.cells #[.int .i64 0, .int .i64 0, .slice none 0 0, .int .i64 0, .slice none 0 0] 42)).alloc (.cells #[.int .i64 0, .int .i64 0, .slice none 0 0, .int .i64 0, .slice none 0 0] 42)).drew = w2 at h12 hbx2 hby2 ⊢
      clear h11
      refine ⟨CC.out.below h12 hlt hlt2 hB1, ?_⟩
      refine ord_loud rfl rfl ?_
      obtain ⟨p0, p1, p2, p3, p4⟩ := hby2.five
      have z0 := hby2.free 0
      have z1 := hby2.free 1
      have z2 := hby2.free 2
      have z3 := hby2.free 3
      have z4 := hby2.free 4
      go_wp2_with fail
      clear p0 p1 p2 p3 p4 z0 z1 z2 z3 z4
      have hbX := hby2.set5 (.int .i64 c.fn) (.int .i64 c.pc) (.slice au c.locals.length capu) (.int .i64 c.base) (.slice ax c.labels.length capx)
      have hbY := hbx2.other5 (X := (w1.heap.size + 1)) (by omega) (.int .i64 c.fn) (.int .i64 c.pc) (.slice au c.locals.length capu) (.int .i64 c.base) (.slice ax c.labels.length capx)
      have h13 := below_set5 h12 (X := (w1.heap.size + 1)) (by omega) (.int .i64 c.fn) (.int .i64 c.pc) (.slice au c.locals.length capu) (.int .i64 c.base) (.slice ax c.labels.length capx)
      generalize (((((w2.setCell ⟨(w1.heap.size + 1), 0, none⟩ (.int .i64 c.fn)).setCell ⟨(w1.heap.size + 1), 1, none⟩ (.int .i64 c.pc)).setCell ⟨(w1.heap.size + 1), 2, none⟩ (.slice au c.locals.length capu)).setCell ⟨(w1.heap.size + 1), 3, none⟩ (.int .i64 c.base)).setCell ⟨(w1.heap.size + 1), 4, none⟩ (.slice ax c.labels.length capx)) = w3 at hbX hbY h13 ⊢
      refine ⟨CC.out.below h13 hlt hlt2 hB1, ?_⟩
      refine ord_loud rfl rfl ?_
      obtain ⟨p0, p1, p2, p3, p4⟩ := hbY.five
      have z0 := hbY.free 0
      have z1 := hbY.free 1
      have z2 := hbY.free 2
      have z3 := hbY.free 3
      have z4 := hbY.free 4
      go_wp2_with fail
      clear p0 p1 p2 p3 p4 z0 z1 z2 z3 z4
      have hby := hbY.set5 (.int .i64 d.fn) (.int .i64 d.pc) (.slice au2 d.locals.length capu2) (.int .i64 d.base) (.slice ax2 d.labels.length capx2)
      have hbx := hbX.other5 (X := w1.heap.size) (by omega) (.int .i64 d.fn) (.int .i64 d.pc) (.slice au2 d.locals.length capu2) (.int .i64 d.base) (.slice ax2 d.labels.length capx2)
      have h14 := below_set5 h13 (X := w1.heap.size) (by omega) (.int .i64 d.fn) (.int .i64 d.pc) (.slice au2 d.locals.length capu2) (.int .i64 d.base) (.slice ax2 d.labels.length capx2)
      generalize (((((w3.setCell ⟨w1.heap.size, 0, none⟩ (.int .i64 d.fn)).setCell ⟨w1.heap.size, 1, none⟩ (.int .i64 d.pc)).setCell ⟨w1.heap.size, 2, none⟩ (.slice au2 d.locals.length capu2)).setCell ⟨w1.heap.size, 3, none⟩ (.int .i64 d.base)).setCell ⟨w1.heap.size, 4, none⟩ (.slice ax2 d.labels.length capx2)) = w4 at hbx hby h14 ⊢
      refine ⟨CC.out.below h14 hlt hlt2 hB1, ?_⟩
      refine ord_nil ?_
      refine NoPanic.normal ?_
      exact ⟨rfl, (w1.heap.size + 1), w1.heap.size, rfl, h14, hbx, hby⟩
  · clear x0 x1 x2 y0 y1 y2
    rintro a' wz ⟨X, Y, hfr, hz, hbx, hby⟩
    obtain ⟨f, hf⟩ : ∃ f, f = slot a' := ⟨_, rfl⟩
    rw [← hf] at hfr
    clear hf
    subst hfr
    have HBS := Lib.hid (HBS.out.below hz HBS.out.lt)
    have HBT := Lib.hid (HBT.out.below hz HBT.out.lt)
    have HU := Lib.hid (HU.out.below hz)
    have HU2 := Lib.hid (HU2.out.below hz)
    have HX' := Lib.hid (HX'.out.below hz)
    have HX2 := Lib.hid (HX2.out.below hz)
    replace hb := hb.trans (hz.mono hb.size)
    clear hz CC
    obtain ⟨x0, x1, x2, x3, x4⟩ := hbx.five
    obtain ⟨y0, y1, y2, y3, y4⟩ := hby.five
    by_cases q1 : c.fn = d.fn
    rotate_left
    · have f1 := ine_true q1
      have HX := Lib.hid (show c.fn ≠ d.fn from q1)
      clear q1
      go_wp2_with fail
      go_ret
      refine ⟨false, rfl, ⟨fun h => (by cases h), fun h => ?_⟩, hb⟩
      have h1 := HE.out
      rw [h, HD.out] at h1
      injection h1 with h1
      exact (HX.out (by rw [h1])).elim
    have f1 := ine_false q1
    have Q1 := Lib.hid q1
    clear q1
    by_cases q2 : c.pc = d.pc
    rotate_left
    · have f2 := ine_true q2
      have HX := Lib.hid (show c.pc ≠ d.pc from q2)
      clear q2
      go_wp2_with fail
      go_ret
      refine ⟨false, rfl, ⟨fun h => (by cases h), fun h => ?_⟩, hb⟩
      have h1 := HE.out
      rw [h, HD.out] at h1
      injection h1 with h1
      exact (HX.out (by rw [h1])).elim
    have f2 := ine_false q2
    have Q2 := Lib.hid q2
    clear q2
    by_cases q4 : c.base = d.base
    rotate_left
    · have f4 := ine_true q4
      have HX := Lib.hid (show c.base ≠ d.base from q4)
      clear q4
      go_wp2_with fail
      go_ret
      refine ⟨false, rfl, ⟨fun h => (by cases h), fun h => ?_⟩, hb⟩
      have h1 := HE.out
      rw [h, HD.out] at h1
      injection h1 with h1
      exact (HX.out (by rw [h1])).elim
    have f4 := ine_false q4
    have Q4 := Lib.hid q4
    clear q4
    go_wp2_with fail
    refine (eqVals_any _ _ c.locals d.locals _ HU.out HU2.out).mono ?_
    rintro y w5 ⟨r, rfl, hr, hb5⟩
    have HBS := Lib.hid (HBS.out.below hb5 HBS.out.lt)
    have HBT := Lib.hid (HBT.out.below hb5 HBT.out.lt)
    have HX' := Lib.hid (HX'.out.below hb5)
    have HX2 := Lib.hid (HX2.out.below hb5)
    replace hb := hb.trans (hb5.mono hb.size)
    replace hbx := hbx.below hb5 hbx.lt
    replace hby := hby.below hb5 hby.lt
    have HR5 := Lib.hid hr
    clear hr hb5 x0 x1 x2 x3 x4 y0 y1 y2 y3 y4 HU HU2
    obtain ⟨x0, x1, x2, x3, x4⟩ := hbx.five
    obtain ⟨y0, y1, y2, y3, y4⟩ := hby.five
    cases r with
    | false =>
      go_wp2_with fail
      go_ret
      refine ⟨false, rfl, ⟨fun h => (by cases h), fun h => ?_⟩, hb⟩
      have h1 := HE.out
      rw [h, HD.out] at h1
      injection h1 with h1
      have := HR5.out.2 (by rw [h1])
      simp at this
    | true =>
    by_cases q5 : c.labels.length = d.labels.length
    rotate_left
    · have f5 : ((c.labels.length : Int) != (d.labels.length : Int)) = true := ine_true (by omega)
      have HX := Lib.hid (show c.labels.length ≠ d.labels.length from q5)
      clear q5
      go_wp2_with fail
      go_ret
      refine ⟨false, rfl, ⟨fun h => (by cases h), fun h => ?_⟩, hb⟩
      have h1 := HE.out
      rw [h, HD.out] at h1
      injection h1 with h1
      exact (HX.out (by rw [h1])).elim
    have f5 : ((c.labels.length : Int) != (d.labels.length : Int)) = false := ine_false (by omega)
    have Q5 := Lib.hid q5
    clear q5
    go_wp2_with fail
    have HRO := HR
    have HBX := Lib.hid hbx
    have HBY := Lib.hid hby
    have HB5 := Lib.hid hb
    clear HR x0 x1 x2 x3 x4 y0 y1 y2 y3 y4 f1 f2 f4 f5 hbx hby hb
    refine wp_loop_r (fun a' w' => ∃ (m : Nat), a' = { tmps := #[slot a' 0, slot a' 1, .pointer (some ⟨w.heap.size, 0, none⟩), .pointer (some ⟨w.heap.size + 1, 0, none⟩), slot a' 4, .int .i64 k, .pointer (some ⟨X, 0, none⟩), .pointer (some ⟨Y, 0, none⟩), .int .i64 m, slot a' 9, slot a' 10, slot a' 11, slot a' 12, slot a' 13, slot a' 14, slot a' 15, slot a' 16, slot a' 17, slot a' 18, slot a' 19, slot a' 20, slot a' 21, slot a' 22, slot a' 23, slot a' 24, slot a' 25, slot a' 26, slot a' 27, slot a' 28, slot a' 29, slot a' 30, slot a' 31, slot a' 32, slot a' 33, slot a' 34, slot a' 35, slot a' 36, slot a' 37, slot a' 38, slot a' 39, slot a' 40, slot a' 41, slot a' 42, slot a' 43, slot a' 44, slot a' 45, slot a' 46, slot a' 47, slot a' 48, slot a' 49, slot a' 50, slot a' 51, slot a' 52, slot a' 53, slot a' 54, slot a' 55, slot a' 56, slot a' 57, slot a' 58, slot a' 59, slot a' 60, slot a' 61, slot a' 62, slot a' 63, slot a' 64, slot a' 65, slot a' 66, slot a' 67, slot a' 68, slot a' 69, slot a' 70, slot a' 71, slot a' 72, slot a' 73, slot a' 74, slot a' 75, slot a' 76, slot a' 77, slot a' 78, slot a' 79, slot a' 80, slot a' 81, slot a' 82, slot a' 83, slot a' 84, slot a' 85, slot a' 86, slot a' 87, slot a' 88, slot a' 89, slot a' 90, slot a' 91, slot a' 92, slot a' 93, slot a' 94, slot a' 95, slot a' 96, slot a' 97, slot a' 98, slot a' 99, slot a' 100, slot a' 101, slot a' 102, slot a' 103, slot a' 104, slot a' 105, slot a' 106, slot a' 107, slot a' 108, slot a' 109, slot a' 110, slot a' 111, slot a' 112, slot a' 113, slot a' 114, slot a' 115, slot a' 116, slot a' 117, slot a' 118], defers := [] } ∧ EqVJ c.labels d.labels w5 w' m) (fun a' _ => (c.labels.length - (intOf (a'.tmps.getD 8 undef)).toNat)) ?_ ?_
    · exact ⟨0, rfl, by omega, rfl, Below.refl _ _⟩
    rintro R a' wg ⟨m, hfr, hJ⟩ HR
    obtain ⟨f, hf⟩ : ∃ f, f = slot a' := ⟨_, rfl⟩
    rw [← hf] at hfr
    clear hf
    subst hfr
    obtain ⟨hm, hmm, hbg⟩ := hJ
    have HML := Lib.hid hmm
    clear hmm
    have hbx := HBX.out.below hbg HBX.out.lt
    have hby := HBY.out.below hbg HBY.out.lt
    obtain ⟨x0, x1, x2, x3, x4⟩ := hbx.five
    obtain ⟨y0, y1, y2, y3, y4⟩ := hby.five
    clear hbx hby
    by_cases hml : m < c.labels.length
    rotate_left
    · obtain rfl : m = c.labels.length := by omega
      go_wp2_with fail
      refine HRO.out _ _ ⟨k + 1, rfl, ⟨by omega, ?_, HB5.out.trans (hbg.mono HB5.out.size)⟩, HBS.out.below hbg HBS.out.lt, HBT.out.below hbg HBT.out.lt⟩ ?_
      · rw [List.take_add_one, List.take_add_one, HT.out, HE.out, HD.out]
        have g := HML.out
        rw [List.take_length, Q5.out, List.take_length] at g
        have g0 := HR5.out.1 (by simp)
        have g1 := Q1.out
        have g2 := Q2.out
        have g4 := Q4.out
        obtain ⟨p0, p1, p2, p3, p4⟩ := c
        obtain ⟨r0, r1, r2, r3, r4⟩ := d
        simp only at g g0 g1 g2 g4
        rw [g, g0, g1, g2, g4]
      · simp [intOf]
        omega
    have hml2 : m < d.labels.length := by have := Q5.out; omega
    obtain ⟨e, hee⟩ : ∃ e, c.labels[m]? = some e := ⟨_, List.getElem?_eq_getElem hml⟩
    obtain ⟨e', hee'⟩ : ∃ e, d.labels[m]? = some e := ⟨_, List.getElem?_eq_getElem hml2⟩
    obtain ⟨a', cap', hva, _, _, hcells⟩ := HX'.out.below hbg
    obtain ⟨a2', cap2', hva2, _, _, hcells2⟩ := HX2.out.below hbg
    injection hva with e1 e2 e3
    injection hva2 with e4 e5 e6
    subst e1 e3 e4 e6
    obtain ⟨bl, offl, rfl, hltl, hcl⟩ := hcells m e hee
    obtain ⟨bl2, offl2, rfl, hltl2, hcl2⟩ := hcells2 m e' hee'
    have c0 := hcl 0 _ rfl
    have c1 := hcl 1 _ rfl
    have c2 := hcl2 0 _ rfl
    have c3 := hcl2 1 _ rfl
    rw [Nat.add_zero] at c0 c2
    have HEE := Lib.hid hee
    have HDD := Lib.hid hee'
    have cc : EqLS X Y (.slice (some ⟨bl, offl, none⟩) c.labels.length capx) (.slice (some ⟨bl2, offl2, none⟩) d.labels.length capx2) bl offl bl2 offl2 m e e' wg.drew := ⟨⟨x4, y4⟩, ⟨c0, c1⟩, c2, c3⟩
    have CC := Lib.hid cc
    clear hcells hcells2 e2 e5 hee hee' hcl hcl2 c0 c1 c2 c3 cc
    by_cases r1 : e.pos = e'.pos
    rotate_left
    · have f1 := ine_true r1
      have HX := Lib.hid (show e.pos ≠ e'.pos from r1)
      clear r1
      go_wp2_with fail
      refine wp_region_seq (EqLS X Y (.slice (some ⟨bl, offl, none⟩) c.labels.length capx) (.slice (some ⟨bl2, offl2, none⟩) d.labels.length capx2) bl offl bl2 offl2 m e e') [(0, true), (1, true), (2, true), (3, true), (4, true), (5, true), (6, true), (7, true), (8, true), (9, true),
            (10, true), (11, true), (12, true), (13, true), (14, true), (15, true), (16, true), (17, true), (18, true),
            (19, true), (20, true), (21, true), (22, true), (23, true), (24, true), (25, true), (26, true), (27, true)] (by kernel_rfl) (by kernel_rfl) CC.out ?_
      clear x0 x1 x2 x3 x4 y0 y1 y2 y3 y4
      iterate 28 (first | (apply seg_skip rfl rfl; simp only [Act.put, List.setIfInBounds_toArray, List.set_cons_succ, List.set_cons_zero]) | (apply seg_pure rfl rfl rfl; · (rintro w' ⟨⟨t0, t1⟩, ⟨t2, t3⟩, t4, t5⟩; go_wp2; exact ⟨rfl, rfl, rfl⟩)))
      refine seg_nil ?_
      refine NoPanic.normal ?_
      go_wp2_with fail
      go_ret
      refine ⟨false, rfl, ⟨fun h => (by cases h), fun h => ?_⟩, (HB5.out.trans (hbg.mono HB5.out.size)).drew⟩
      have h1 := HE.out
      rw [h, HD.out] at h1
      injection h1 with h1
      have h2 := HEE.out
      rw [← h1, HDD.out] at h2
      injection h2 with h2
      exact (HX.out (by rw [h2])).elim
    have f1 := ine_false r1
    have R1 := Lib.hid r1
    clear r1
    by_cases r2 : e.height = e'.height
    rotate_left
    · have f2 := ine_true r2
      have HX := Lib.hid (show e.height ≠ e'.height from r2)
      clear r2
      go_wp2_with fail
      refine wp_region_seq (EqLS X Y (.slice (some ⟨bl, offl, none⟩) c.labels.length capx) (.slice (some ⟨bl2, offl2, none⟩) d.labels.length capx2) bl offl bl2 offl2 m e e') [(0, true), (1, true), (2, true), (3, true), (4, true), (5, true), (6, true), (7, true), (8, true), (9, true),
            (10, true), (11, true), (12, true), (13, true), (14, true), (15, true), (16, true), (17, true), (18, true),
            (19, true), (20, true), (21, true), (22, true), (23, true), (24, true), (25, true), (26, true), (27, true)] (by kernel_rfl) (by kernel_rfl) CC.out ?_
      clear x0 x1 x2 x3 x4 y0 y1 y2 y3 y4
      iterate 28 (first | (apply seg_skip rfl rfl; simp only [Act.put, List.setIfInBounds_toArray, List.set_cons_succ, List.set_cons_zero]) | (apply seg_pure rfl rfl rfl; · (rintro w' ⟨⟨t0, t1⟩, ⟨t2, t3⟩, t4, t5⟩; go_wp2; exact ⟨rfl, rfl, rfl⟩)))
      refine seg_nil ?_
      refine NoPanic.normal ?_
      go_wp2_with fail
      go_ret
      refine ⟨false, rfl, ⟨fun h => (by cases h), fun h => ?_⟩, (HB5.out.trans (hbg.mono HB5.out.size)).drew⟩
      have h1 := HE.out
      rw [h, HD.out] at h1
      injection h1 with h1
      have h2 := HEE.out
      rw [← h1, HDD.out] at h2
      injection h2 with h2
      exact (HX.out (by rw [h2])).elim
    have f2 := ine_false r2
    have R2 := Lib.hid r2
    clear r2
    go_wp2_with fail
    refine wp_region_seq (EqLS X Y (.slice (some ⟨bl, offl, none⟩) c.labels.length capx) (.slice (some ⟨bl2, offl2, none⟩) d.labels.length capx2) bl offl bl2 offl2 m e e') [(0, true), (1, true), (2, true), (3, true), (4, true), (5, true), (6, true), (7, true), (8, true), (9, true),
          (10, true), (11, true), (12, true), (13, true), (14, true), (15, true), (16, true), (17, true), (18, true),
          (19, true), (20, true), (21, true), (22, true), (23, true), (24, true), (25, true), (26, true), (27, true)] (by kernel_rfl) (by kernel_rfl) CC.out ?_
    clear x0 x1 x2 x3 x4 y0 y1 y2 y3 y4
    iterate 28 (first | (apply seg_skip rfl rfl; simp only [Act.put, List.setIfInBounds_toArray, List.set_cons_succ, List.set_cons_zero]) | (apply seg_pure rfl rfl rfl; · (rintro w' ⟨⟨t0, t1⟩, ⟨t2, t3⟩, t4, t5⟩; go_wp2; exact ⟨rfl, rfl, rfl⟩)))
    refine seg_nil ?_
    refine NoPanic.normal ?_
    go_wp2_with fail
    refine HR.out _ _ ⟨m + 1, rfl, by omega, ?_, hbg.drew⟩ ?_
    · rw [List.take_add_one, List.take_add_one, HML.out, HEE.out, HDD.out]
      obtain ⟨p0, p1⟩ := e
      obtain ⟨r0, r1⟩ := e'
      have g0 := R1.out
      have g1 := R2.out
      simp only at g0 g1
      rw [g0, g1]
    · simp [intOf]
      omega
end Go.Proofs.Ytpknafidbmnjpaa
