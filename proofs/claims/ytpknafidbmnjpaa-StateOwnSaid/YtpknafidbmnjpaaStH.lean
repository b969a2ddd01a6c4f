/-
  Walks of the statements' own functions number, all, vals, may (state).
-/
import Derived.Test.YtpknafidbmnjpaaStC
namespace Go.Proofs.Ytpknafidbmnjpaa
open Go.RowKit

theorem lawNumber_any (n : Int) (w : World) : Calls Try.prog 30 #[.int .i64 n] w (BoolEnd (numOk n) w) := by
  by_cases q0 : 0 ≤ n
  rotate_left
  · have f0 : decide (0 ≤ n) = false := decide_eq_false q0
    have HB := Lib.hid (show numOk n = false by rw [numOk, f0]; rfl)
    go_enter Try.func30, Try.ntmps30
    go_wp2_with fail
    go_ret
    exact ⟨by rw [HB.out]; rfl, Below.refl _ _⟩
  have f0 : decide (0 ≤ n) = true := decide_eq_true q0
  by_cases q1 : n ≤ 10000
  · have f1 : decide (n ≤ 10000) = true := decide_eq_true q1
    have HB := Lib.hid (show numOk n = true by rw [numOk, f0, f1]; rfl)
    go_enter Try.func30, Try.ntmps30
    go_wp2_with fail
    go_ret
    exact ⟨by rw [HB.out]; rfl, Below.refl _ _⟩
  · have f1 : decide (n ≤ 10000) = false := decide_eq_false q1
    have HB := Lib.hid (show numOk n = false by rw [numOk, f0, f1]; rfl)
    go_enter Try.func30, Try.ntmps30
    go_wp2_with fail
    go_ret
    exact ⟨by rw [HB.out]; rfl, Below.refl _ _⟩

/-- All that were seen may be. -/
def SeenJ {α : Type} (p : α → Prop) (l : List α) (w w' : World) (k : Nat) : Prop := k ≤ l.length ∧ (∀ i, i < k → ∀ x, l[i]? = some x → p x) ∧ Below w.heap.size w w'

theorem seen_all {α : Type} {p : α → Prop} {l : List α} (h : ∀ i, i < l.length → ∀ x, l[i]? = some x → p x) : ∀ x ∈ l, p x := by
  intro x hx
  obtain ⟨i, hi⟩ := List.mem_iff_getElem?.1 hx
  exact h i (List.getElem?_eq_some_iff.1 hi).1 x hi

theorem seen_next {α : Type} {p : α → Prop} {l : List α} {k : Nat} {e : α} (h : ∀ i, i < k → ∀ x, l[i]? = some x → p x) (he : l[k]? = some e) (hp : p e) : ∀ i, i < k + 1 → ∀ x, l[i]? = some x → p x := by
  intro i hi x hx
  rcases Nat.lt_or_ge i k with g | g
  · exact h i g x hx
  · obtain rfl : i = k := by omega
    rw [he] at hx
    injection hx with hx
    rw [← hx]
    exact hp

set_option maxRecDepth 100000 in
set_option maxHeartbeats 2000000 in
theorem lawAll_any (v : Value) (l : List VEnt) (w : World) (hl : IsRws 2 encV w v l) : Calls Try.prog 29 #[v] w (BoolEnd (decide (∀ x ∈ l, x.may)) w) := by
  have HI := Lib.hid hl
  obtain ⟨a, cap, rfl, h1, h2, _⟩ := hl
  unfold maxLen at h2
  go_enter Try.func29, Try.ntmps29
  go_wp2_with fail
  refine wp_loop_r (fun a' w' => ∃ (k : Nat), a' = { tmps := #[.slice a l.length cap, slot a' 1, slot a' 2, .int .i64 k, slot a' 4, slot a' 5, slot a' 6, slot a' 7, slot a' 8, slot a' 9, slot a' 10, slot a' 11, slot a' 12, slot a' 13, slot a' 14, slot a' 15], defers := [] } ∧ SeenJ VEnt.may l w w' k) (fun a' _ => (l.length - (intOf (a'.tmps.getD 3 undef)).toNat)) ?_ ?_
  · exact ⟨0, rfl, by omega, fun i hi => by omega, Below.refl _ _⟩
  · skip
    rintro R a' w1 ⟨k, hfr, hJ⟩ HR
    obtain ⟨f, hf⟩ : ∃ f, f = slot a' := ⟨_, rfl⟩
    rw [← hf] at hfr
    clear hf
    subst hfr
    obtain ⟨hk, hm, hb⟩ := hJ
    have HMM := Lib.hid hm
    clear hm
    by_cases hkl : k < l.length
    rotate_left
    · obtain rfl : k = l.length := by omega
      go_wp2_with fail
      go_ret
      exact ⟨by rw [decide_eq_true (seen_all HMM.out)]; rfl, hb⟩
    obtain ⟨e, he⟩ : ∃ e, l[k]? = some e := ⟨_, List.getElem?_eq_getElem hkl⟩
    obtain ⟨a', cap', hv, _, _, hcells⟩ := HI.out.below (hb.mono (Nat.le_refl _))
    injection hv with e1 e2 e3
    subst e1 e3
    obtain ⟨b, off, rfl, hlt, hc⟩ := hcells k e he
    have c0 := hc 0 _ rfl
    have c1 := hc 1 _ rfl
    rw [Nat.add_zero] at c0
    have HE := Lib.hid he
    clear hcells e2 he hc
    go_wp2_with fail
    refine (refMay_any e w1).mono ?_
    rintro x w2 ⟨rfl, hb2⟩
    replace hb := below_next hb hb2
    clear c0 c1 hb2
    by_cases hm : e.may
    · have hr : decide e.may = true := decide_eq_true hm
      rw [hr]
      have HM := Lib.hid hm
      clear hm hr
      go_wp2_with fail
      refine HR.out _ _ ⟨k + 1, rfl, by omega, seen_next HMM.out HE.out HM.out, hb⟩ ?_
      simp [intOf]
      omega
    · have hr : decide e.may = false := decide_eq_false hm
      rw [hr]
      have HM := Lib.hid hm
      clear hm hr
      go_wp2_with fail
      go_ret
      exact ⟨by rw [decide_eq_false (fun h => HM.out (h e (List.mem_of_getElem? HE.out)))]; rfl, hb⟩

def TakeEnd (l : List VEnt) (n : Nat) (w : World) (e : Ending) (w' : World) : Prop := ∃ v, e = .returned v ∧ OwnRws 39 2 encV w' w.heap.size v (l.take n) ∧ Below w.heap.size w w'
def TakeJ (l : List VEnt) (n : Nat) (w w' : World) (v : Value) (k : Nat) : Prop := k ≤ l.length ∧ k ≤ n ∧ OwnRws 39 2 encV w' w.heap.size v (l.take k) ∧ Below w.heap.size w w'

set_option maxRecDepth 100000 in
set_option maxHeartbeats 2000000 in
theorem lawVals_any (v : Value) (l : List VEnt) (n : Nat) (hn : n ≤ 100000) (w : World) (hl : IsRws 2 encV w v l) : Calls Try.prog 20 #[v, .int .i64 n] w (TakeEnd l n w) := by
  have HI := Lib.hid hl
  obtain ⟨a, cap, rfl, h1, h2, _⟩ := hl
  unfold maxLen at h2
  go_enter Try.func20, Try.ntmps20
  go_wp2_with fail
  refine wp_loop_r (fun a' w' => ∃ (v : Value) (k : Nat), a' = { tmps := #[.slice a l.length cap, .int .i64 n, slot a' 2, slot a' 3, slot a' 4, v, .int .i64 k, slot a' 7, slot a' 8, slot a' 9, slot a' 10, slot a' 11, slot a' 12, slot a' 13, slot a' 14, slot a' 15, slot a' 16, slot a' 17, slot a' 18, slot a' 19, slot a' 20, slot a' 21, slot a' 22, slot a' 23, slot a' 24, slot a' 25], defers := [] } ∧ TakeJ l n w w' v k) (fun a' _ => (n + 1 - (intOf (a'.tmps.getD 6 undef)).toNat)) ?_ ?_
  · exact ⟨_, 0, rfl, by omega, by omega, OwnRws.nil _ _, Below.refl _ _⟩
  · skip
    rintro R a' w1 ⟨v, k, hfr, hJ⟩ HR
    obtain ⟨f, hf⟩ : ∃ f, f = slot a' := ⟨_, rfl⟩
    rw [← hf] at hfr
    clear hf
    subst hfr
    obtain ⟨hk, hkn, ho, hb⟩ := hJ
    by_cases hkl : k < l.length
    rotate_left
    · obtain rfl : k = l.length := by omega
      go_wp2_with fail
      go_ret
      refine ⟨v, rfl, ?_, hb⟩
      rw [List.take_of_length_le (by omega)]
      rw [List.take_of_length_le (by omega)] at ho
      exact ho
    by_cases hk3 : k < n
    rotate_left
    · obtain rfl : k = n := by omega
      go_wp2_with fail
      go_ret
      exact ⟨v, rfl, ho, hb⟩
    obtain ⟨e, he⟩ : ∃ e, l[k]? = some e := ⟨_, List.getElem?_eq_getElem hkl⟩
    obtain ⟨a', cap', hv, _, _, hcells⟩ := HI.out.below (hb.mono (Nat.le_refl _))
    injection hv with e1 e2 e3
    subst e1 e3
    obtain ⟨b, off, rfl, hlt, hc⟩ := hcells k e he
    have c0 := hc 0 _ rfl
    have c1 := hc 1 _ rfl
    rw [Nat.add_zero] at c0
    have HE := Lib.hid he
    have hgl : (l.take k).length ≤ 100000 := by rw [List.length_take]; omega
    have hsz := hb.size
    clear hcells e2 he hc
    go_wp2_with (first | (at_builtin; refine Stop.out ?_))
    change wpList _ _ _ _ _ _
    refine wpList_row1 w1 rfl _ _ 22 rfl _ 16 (by kernel_rfl) info_val rfl (by decide) (by decide) w.heap.size v (l.take k) rfl ho e _ rfl rfl (encV_one _) rfl (by omega) (by omega) ?_
    intro g3 w3 ho3 hk3 hs3
    have hb3 := hb.trans (hk3.below hsz (fun i hi => (own_lt ho hi).1))
    clear ho hk3 hs3 c0 c1 hb
    go_wp2_with fail
    refine HR.out _ _ ⟨g3, k + 1, rfl, by omega, by omega, ?_, hb3⟩ ?_
    · rw [List.take_add_one, HE.out]
      exact ho3
    · simp [intOf]
      omega


def LMayJ (s : SEnt) (X : Nat) (cs : Array Value) (w w' : World) (k : Nat) : Prop := SeenJ FEnt.may s.frames w w' k ∧ Blk w' X cs 25

set_option maxRecDepth 100000 in
set_option maxHeartbeats 4000000 in
theorem lawMayS_any (uv uf : Value) (s : SEnt) (w : World) (hst : IsState w uv uf s) :
    Calls Try.prog 12 #[.agg #[uv, uf, .int .i64 s.asks]] w (BoolEnd (decide s.may) w) := by
  obtain ⟨hv, hf, ⟨o1, o2⟩, -, -⟩ := id hst
  obtain ⟨av, capv, rfl, hcv1, hcv, _⟩ := id hv
  obtain ⟨af, capf, rfl, hcf1, hcf⟩ := hf.slice
  unfold maxLen at hcv
  have HV := Lib.hid hv
  have HF := Lib.hid hf
  clear hv hf hst
  have hb0 : Below w.heap.size w (w.alloc (.cells #[.slice av s.vals.length capv, .slice af s.frames.length capf, .int .i64 s.asks] 25)) := (Below.refl _ _).alloc (Nat.le_refl _) _
  have hbx0 := Blk.new w #[.slice av s.vals.length capv, .slice af s.frames.length capf, .int .i64 s.asks] 25
  go_enter Try.func12, Try.ntmps12
  by_cases m1 : 1000 < s.vals.length
  · have f1 : decide ((1000 : Int) < (s.vals.length : Int)) = true := decide_eq_true (by omega)
    have HX := Lib.hid m1
    clear m1
    go_wp2_with fail
    go_ret
    exact ⟨by rw [decide_eq_false (fun h => by have := HX.out; have := h.1; omega)]; rfl, hb0⟩
  have f1 : decide ((1000 : Int) < (s.vals.length : Int)) = false := decide_eq_false (by omega)
  by_cases m2 : 32 < s.frames.length
  · have f2 : decide ((32 : Int) < (s.frames.length : Int)) = true := decide_eq_true (by omega)
    have HX := Lib.hid m2
    clear m2
    go_wp2_with fail
    go_ret
    exact ⟨by rw [decide_eq_false (fun h => by have := HX.out; have := h.2.1; omega)]; rfl, hb0⟩
  have f2 : decide ((32 : Int) < (s.frames.length : Int)) = false := decide_eq_false (by omega)
  go_wp2_with fail
  refine (lawAll_any _ s.vals _ (HV.out.below (hb0.mono (Nat.le_refl _)))).mono ?_
  rintro x w1 ⟨rfl, hbm⟩
  have hbx1 := hbx0.below hbm hbx0.lt
  have hb1 := hb0.trans (hbm.mono hb0.size)
  clear hbm hbx0 hb0
  obtain ⟨x0, x1, x2⟩ := hbx1.three
  by_cases hm : ∀ x ∈ s.vals, x.may
  rotate_left
  · rw [decide_eq_false hm]
    have HX := Lib.hid hm
    clear hm
    go_wp2_with fail
    go_ret
    exact ⟨by rw [decide_eq_false (fun h => HX.out h.2.2.2.2.1)]; rfl, hb1⟩
  rw [decide_eq_true hm]
  have HM5 := Lib.hid hm
  clear hm
  by_cases m3 : s.asks < -1
  · have f3 : decide (s.asks < -1) = true := decide_eq_true m3
    have HX := Lib.hid m3
    clear m3
    go_wp2_with fail
    go_ret
    exact ⟨by rw [decide_eq_false (fun h => by have := HX.out; have := h.2.2.1; omega)]; rfl, hb1⟩
  have f3 : decide (s.asks < -1) = false := decide_eq_false m3
  by_cases m4 : 10000 < s.asks
  · have f4 : decide (10000 < s.asks) = true := decide_eq_true m4
    have HX := Lib.hid m4
    clear m4
    go_wp2_with fail
    go_ret
    exact ⟨by rw [decide_eq_false (fun h => by have := HX.out; have := h.2.2.2.1; omega)]; rfl, hb1⟩
  have f4 : decide (10000 < s.asks) = false := decide_eq_false m4
  go_wp2_with fail
  clear x0 x1 x2
  refine wp_loop_r (fun a' w' => ∃ (k : Nat), a' = { tmps := #[slot a' 0, .pointer (some ⟨w.heap.size, 0, none⟩), slot a' 2, .int .i64 k, slot a' 4, slot a' 5, slot a' 6, slot a' 7, slot a' 8, slot a' 9, slot a' 10, slot a' 11, slot a' 12, slot a' 13, slot a' 14, slot a' 15, slot a' 16, slot a' 17, slot a' 18, slot a' 19, slot a' 20, slot a' 21, slot a' 22, slot a' 23, slot a' 24, slot a' 25, slot a' 26, slot a' 27, slot a' 28, slot a' 29, slot a' 30, slot a' 31, slot a' 32, slot a' 33, slot a' 34, slot a' 35, slot a' 36, slot a' 37, slot a' 38, slot a' 39, slot a' 40, slot a' 41, slot a' 42, slot a' 43, slot a' 44, slot a' 45, slot a' 46, slot a' 47, slot a' 48, slot a' 49, slot a' 50, slot a' 51, slot a' 52, slot a' 53, slot a' 54, slot a' 55, slot a' 56, slot a' 57, slot a' 58, slot a' 59, slot a' 60, slot a' 61, slot a' 62, slot a' 63, slot a' 64, slot a' 65, slot a' 66, slot a' 67, slot a' 68, slot a' 69, slot a' 70, slot a' 71, slot a' 72, slot a' 73, slot a' 74, slot a' 75, slot a' 76, slot a' 77, slot a' 78, slot a' 79, slot a' 80, slot a' 81, slot a' 82, slot a' 83, slot a' 84, slot a' 85, slot a' 86, slot a' 87, slot a' 88, slot a' 89, slot a' 90, slot a' 91, slot a' 92, slot a' 93, slot a' 94, slot a' 95, slot a' 96, slot a' 97, slot a' 98, slot a' 99, slot a' 100, slot a' 101, slot a' 102], defers := [] } ∧ LMayJ s w.heap.size #[.slice av s.vals.length capv, .slice af s.frames.length capf, .int .i64 s.asks] w w' k) (fun a' _ => (s.frames.length - (intOf (a'.tmps.getD 3 undef)).toNat)) ?_ ?_
  · exact ⟨0, rfl, ⟨by omega, fun i hi => by omega, hb1⟩, hbx1⟩
  clear hbx1 hb1
  rintro R a' w1 ⟨k, hfr, hJ⟩ HR
  obtain ⟨f, hf⟩ : ∃ f, f = slot a' := ⟨_, rfl⟩
  rw [← hf] at hfr
  clear hf
  subst hfr
  obtain ⟨⟨hk, hm, hb⟩, hbs⟩ := hJ
  have HMM := Lib.hid hm
  clear hm
  obtain ⟨s0, s1, s2⟩ := hbs.three
  by_cases hkl : k < s.frames.length
  rotate_left
  · obtain rfl : k = s.frames.length := by omega
    go_wp2_with fail
    go_ret
    exact ⟨by rw [decide_eq_true (show s.may from ⟨by omega, by omega, by omega, by omega, HM5.out, seen_all HMM.out⟩)]; rfl, hb⟩
  obtain ⟨g, he⟩ : ∃ e, s.frames[k]? = some e := ⟨_, List.getElem?_eq_getElem hkl⟩
  obtain ⟨b, off, u, x, rfl, hlt, ⟨c0, c1, c2, c3, c4⟩, hu, hx, hok⟩ := (HF.out.below (hb.mono (Nat.le_refl _))).get he
  have HE := Lib.hid he
  obtain ⟨au, capu, rfl, _, hcu, _⟩ := id hu
  obtain ⟨ax, capx, rfl, hcx1, hcx, _⟩ := id hx
  unfold maxLen at hcu hcx
  have hba0 := hb.alloc hb.size (.cells #[.int .i64 g.fn, .int .i64 g.pc, .slice au g.locals.length capu, .int .i64 g.base, .slice ax g.labels.length capx] 42)
  have hal : Below w1.heap.size w1 (w1.alloc (.cells #[.int .i64 g.fn, .int .i64 g.pc, .slice au g.locals.length capu, .int .i64 g.base, .slice ax g.labels.length capx] 42)) := (Below.refl _ _).alloc (Nat.le_refl _) _
  have hbxa := Blk.new w1 #[.int .i64 g.fn, .int .i64 g.pc, .slice au g.locals.length capu, .int .i64 g.base, .slice ax g.labels.length capx] 42
  have hu' := hu.below hal
  have hx' := hx.below hal
  have hbs' := hbs.below hal hbs.lt
  have HU := Lib.hid hu'
  have HX' := Lib.hid hx'
  have HBS := Lib.hid hbs'
  clear he hu hx hu' hx' hal hbs hbs' hok
  by_cases m5 : 32 < g.locals.length
  · have f5 : decide ((32 : Int) < (g.locals.length : Int)) = true := decide_eq_true (by omega)
    have HX := Lib.hid m5
    clear m5
    go_wp2_with fail
    go_ret
    exact ⟨by rw [decide_eq_false (fun h => by have := HX.out; have := (h.2.2.2.2.2 g (List.mem_of_getElem? HE.out)).2.2.1; omega)]; rfl, hba0⟩
  have f5 : decide ((32 : Int) < (g.locals.length : Int)) = false := decide_eq_false (by omega)
  by_cases m6 : 40 < g.labels.length
  · have f6 : decide ((40 : Int) < (g.labels.length : Int)) = true := decide_eq_true (by omega)
    have HX := Lib.hid m6
    clear m6
    go_wp2_with fail
    go_ret
    exact ⟨by rw [decide_eq_false (fun h => by have := HX.out; have := (h.2.2.2.2.2 g (List.mem_of_getElem? HE.out)).2.1; omega)]; rfl, hba0⟩
  have f6 : decide ((40 : Int) < (g.labels.length : Int)) = false := decide_eq_false (by omega)
  go_wp2_with fail
  obtain ⟨X, hX⟩ : ∃ X, X = w1.heap.size := ⟨_, rfl⟩
  rw [← hX] at hbxa ⊢
  clear hX c0 c1 c2 c3 c4 s0 s1 s2
  generalize w1.alloc (.cells #[.int .i64 g.fn, .int .i64 g.pc, .slice au g.locals.length capu, .int .i64 g.base, .slice ax g.labels.length capx] 42) = wa at hbxa hba0 HU HX' HBS ⊢
  refine (lawAll_any _ g.locals wa HU.out).mono ?_
  rintro x wb ⟨rfl, hb'⟩
  have hbxb := hbxa.below hb' hbxa.lt
  have hbb := hba0.trans (hb'.mono hba0.size)
  have HBS := Lib.hid (HBS.out.below hb' HBS.out.lt)
  have HX' := Lib.hid (HX'.out.below hb')
  clear hb' hbxa hba0 HU
  obtain ⟨x0, x1, x2, x3, x4⟩ := hbxb.five
  by_cases hm : ∀ x ∈ g.locals, x.may
  rotate_left
  · rw [decide_eq_false hm]
    have HX := Lib.hid hm
    clear hm
    go_wp2_with fail
    go_ret
    exact ⟨by rw [decide_eq_false (fun h => HX.out (h.2.2.2.2.2 g (List.mem_of_getElem? HE.out)).2.2.2.1)]; rfl, hbb⟩
  rw [decide_eq_true hm]
  have HMB := Lib.hid hm
  clear hm
  go_wp2_with fail
  refine (lawNumber_any g.fn wb).mono ?_
  rintro x wc ⟨rfl, hb'⟩
  have hbxc := hbxb.below hb' hbxb.lt
  have hbc := hbb.trans (hb'.mono hbb.size)
  have HBS := Lib.hid (HBS.out.below hb' HBS.out.lt)
  have HX' := Lib.hid (HX'.out.below hb')
  clear hb' hbxb hbb x0 x1 x2 x3 x4
  obtain ⟨x0, x1, x2, x3, x4⟩ := hbxc.five
  by_cases hq : 0 ≤ g.fn ∧ g.fn ≤ 10000
  rotate_left
  · have hr : numOk g.fn = false := by rw [numOk, ← Bool.decide_and]; exact decide_eq_false hq
    rw [hr]
    have HX := Lib.hid hq
    clear hq hr
    go_wp2_with fail
    go_ret
    exact ⟨by rw [decide_eq_false (fun h => HX.out (h.2.2.2.2.2 g (List.mem_of_getElem? HE.out)).2.2.2.2.1)]; rfl, hbc⟩
  have hr : numOk g.fn = true := by rw [numOk, ← Bool.decide_and]; exact decide_eq_true hq
  rw [hr]
  have HQc := Lib.hid hq
  clear hq hr
  go_wp2_with fail
  refine (lawNumber_any g.pc wc).mono ?_
  rintro x wd ⟨rfl, hb'⟩
  have hbxd := hbxc.below hb' hbxc.lt
  have hbd := hbc.trans (hb'.mono hbc.size)
  have HBS := Lib.hid (HBS.out.below hb' HBS.out.lt)
  have HX' := Lib.hid (HX'.out.below hb')
  clear hb' hbxc hbc x0 x1 x2 x3 x4
  obtain ⟨x0, x1, x2, x3, x4⟩ := hbxd.five
  by_cases hq : 0 ≤ g.pc ∧ g.pc ≤ 10000
  rotate_left
  · have hr : numOk g.pc = false := by rw [numOk, ← Bool.decide_and]; exact decide_eq_false hq
    rw [hr]
    have HX := Lib.hid hq
    clear hq hr
    go_wp2_with fail
    go_ret
    exact ⟨by rw [decide_eq_false (fun h => HX.out (h.2.2.2.2.2 g (List.mem_of_getElem? HE.out)).2.2.2.2.2.1)]; rfl, hbd⟩
  have hr : numOk g.pc = true := by rw [numOk, ← Bool.decide_and]; exact decide_eq_true hq
  rw [hr]
  have HQd := Lib.hid hq
  clear hq hr
  go_wp2_with fail
  refine (lawNumber_any g.base wd).mono ?_
  rintro x we ⟨rfl, hb'⟩
  have hbxe := hbxd.below hb' hbxd.lt
  have hbe := hbd.trans (hb'.mono hbd.size)
  have HBS := Lib.hid (HBS.out.below hb' HBS.out.lt)
  have HX' := Lib.hid (HX'.out.below hb')
  clear hb' hbxd hbd x0 x1 x2 x3 x4
  obtain ⟨x0, x1, x2, x3, x4⟩ := hbxe.five
  by_cases hq : 0 ≤ g.base ∧ g.base ≤ 10000
  rotate_left
  · have hr : numOk g.base = false := by rw [numOk, ← Bool.decide_and]; exact decide_eq_false hq
    rw [hr]
    have HX := Lib.hid hq
    clear hq hr
    go_wp2_with fail
    go_ret
    exact ⟨by rw [decide_eq_false (fun h => HX.out (h.2.2.2.2.2 g (List.mem_of_getElem? HE.out)).2.2.2.2.2.2)]; rfl, hbe⟩
  have hr : numOk g.base = true := by rw [numOk, ← Bool.decide_and]; exact decide_eq_true hq
  rw [hr]
  have HQe := Lib.hid hq
  clear hq hr
  go_wp2_with fail
  have HRO := HR
  clear HR x0 x1 x2 x3 x4
  have HBX := Lib.hid hbxe
  have HBW := Lib.hid hbe
  clear hbxe hbe
  refine wp_loop_r (fun a' w' => ∃ (m : Nat), a' = { tmps := #[slot a' 0, .pointer (some ⟨w.heap.size, 0, none⟩), slot a' 2, .int .i64 k, .pointer (some ⟨X, 0, none⟩), .int .i64 m, slot a' 6, slot a' 7, slot a' 8, slot a' 9, slot a' 10, slot a' 11, slot a' 12, slot a' 13, slot a' 14, slot a' 15, slot a' 16, slot a' 17, slot a' 18, slot a' 19, slot a' 20, slot a' 21, slot a' 22, slot a' 23, slot a' 24, slot a' 25, slot a' 26, slot a' 27, slot a' 28, slot a' 29, slot a' 30, slot a' 31, slot a' 32, slot a' 33, slot a' 34, slot a' 35, slot a' 36, slot a' 37, slot a' 38, slot a' 39, slot a' 40, slot a' 41, slot a' 42, slot a' 43, slot a' 44, slot a' 45, slot a' 46, slot a' 47, slot a' 48, slot a' 49, slot a' 50, slot a' 51, slot a' 52, slot a' 53, slot a' 54, slot a' 55, slot a' 56, slot a' 57, slot a' 58, slot a' 59, slot a' 60, slot a' 61, slot a' 62, slot a' 63, slot a' 64, slot a' 65, slot a' 66, slot a' 67, slot a' 68, slot a' 69, slot a' 70, slot a' 71, slot a' 72, slot a' 73, slot a' 74, slot a' 75, slot a' 76, slot a' 77, slot a' 78, slot a' 79, slot a' 80, slot a' 81, slot a' 82, slot a' 83, slot a' 84, slot a' 85, slot a' 86, slot a' 87, slot a' 88, slot a' 89, slot a' 90, slot a' 91, slot a' 92, slot a' 93, slot a' 94, slot a' 95, slot a' 96, slot a' 97, slot a' 98, slot a' 99, slot a' 100, slot a' 101, slot a' 102], defers := [] } ∧ SeenJ LEnt.may g.labels we w' m) (fun a' _ => (g.labels.length - (intOf (a'.tmps.getD 5 undef)).toNat)) ?_ ?_
  · exact ⟨0, rfl, by omega, fun i hi => by omega, Below.refl _ _⟩
  rintro R a' wg ⟨m, hfr, hJ⟩ HR
  obtain ⟨f, hf⟩ : ∃ f, f = slot a' := ⟨_, rfl⟩
  rw [← hf] at hfr
  clear hf
  subst hfr
  obtain ⟨hm, hmm, hblg⟩ := hJ
  have HML := Lib.hid hmm
  clear hmm
  have hbx := HBX.out.below hblg HBX.out.lt
  obtain ⟨x0, x1, x2, x3, x4⟩ := hbx.five
  clear hbx
  by_cases hml : m < g.labels.length
  rotate_left
  · obtain rfl : m = g.labels.length := by omega
    go_wp2_with fail
    refine HRO.out _ _ ⟨k + 1, rfl, ⟨by omega, seen_next HMM.out HE.out ⟨seen_all HML.out, by omega, by omega, HMB.out, HQc.out, HQd.out, HQe.out⟩, HBW.out.trans (hblg.mono HBW.out.size)⟩, HBS.out.below hblg HBS.out.lt⟩ ?_
    simp [intOf]
    omega
  obtain ⟨e, hee⟩ : ∃ e, g.labels[m]? = some e := ⟨_, List.getElem?_eq_getElem hml⟩
  obtain ⟨a', cap', hva, _, _, hcells⟩ := id HX'.out
  injection hva with e1 e2 e3
  subst e1 e3
  obtain ⟨bl, offl, rfl, hltl, hcl⟩ := hcells m e hee
  have y0 := hcl 0 _ rfl
  have y1 := hcl 1 _ rfl
  rw [Nat.add_zero] at y0
  have Y0 := Lib.hid y0
  have Y1 := Lib.hid y1
  have y0 : wg.cell? ⟨bl, offl + m * 2, none⟩ = some (.int .i64 e.pos) := by rw [hblg.cell hltl]; exact Y0.out
  have y1 : wg.cell? ⟨bl, offl + m * 2 + 1, none⟩ = some (.int .i64 e.height) := by rw [hblg.cell hltl]; exact Y1.out
  have HEE := Lib.hid hee
  clear hcells hcl e2 hee
  go_wp2_with fail
  refine (lawNumber_any e.pos wg).mono ?_
  rintro x wh ⟨rfl, hb'⟩
  have hblh := hblg.trans (hb'.mono hblg.size)
  clear hb' hblg x0 x1 x2 x3 x4
  have hbx := HBX.out.below hblh HBX.out.lt
  obtain ⟨x0, x1, x2, x3, x4⟩ := hbx.five
  have y0 : wh.cell? ⟨bl, offl + m * 2, none⟩ = some (.int .i64 e.pos) := by rw [hblh.cell hltl]; exact Y0.out
  have y1 : wh.cell? ⟨bl, offl + m * 2 + 1, none⟩ = some (.int .i64 e.height) := by rw [hblh.cell hltl]; exact Y1.out
  clear hbx
  by_cases hq : 0 ≤ e.pos ∧ e.pos ≤ 10000
  rotate_left
  · have hr : numOk e.pos = false := by rw [numOk, ← Bool.decide_and]; exact decide_eq_false hq
    rw [hr]
    have HX := Lib.hid hq
    clear hq hr
    go_wp2_with fail
    go_ret
    exact ⟨by rw [decide_eq_false (fun h => HX.out ((h.2.2.2.2.2 g (List.mem_of_getElem? HE.out)).1 e (List.mem_of_getElem? HEE.out)).1)]; rfl, HBW.out.trans (hblh.mono HBW.out.size)⟩
  have hr : numOk e.pos = true := by rw [numOk, ← Bool.decide_and]; exact decide_eq_true hq
  rw [hr]
  have HQh := Lib.hid hq
  clear hq hr
  go_wp2_with fail
  refine (lawNumber_any e.height wh).mono ?_
  rintro x wi ⟨rfl, hb'⟩
  have hbli := hblh.trans (hb'.mono hblh.size)
  clear hb' hblh x0 x1 x2 x3 x4
  have hbx := HBX.out.below hbli HBX.out.lt
  obtain ⟨x0, x1, x2, x3, x4⟩ := hbx.five
  have y0 : wi.cell? ⟨bl, offl + m * 2, none⟩ = some (.int .i64 e.pos) := by rw [hbli.cell hltl]; exact Y0.out
  have y1 : wi.cell? ⟨bl, offl + m * 2 + 1, none⟩ = some (.int .i64 e.height) := by rw [hbli.cell hltl]; exact Y1.out
  clear hbx
  by_cases hq : 0 ≤ e.height ∧ e.height ≤ 10000
  rotate_left
  · have hr : numOk e.height = false := by rw [numOk, ← Bool.decide_and]; exact decide_eq_false hq
    rw [hr]
    have HX := Lib.hid hq
    clear hq hr
    go_wp2_with fail
    go_ret
    exact ⟨by rw [decide_eq_false (fun h => HX.out ((h.2.2.2.2.2 g (List.mem_of_getElem? HE.out)).1 e (List.mem_of_getElem? HEE.out)).2)]; rfl, HBW.out.trans (hbli.mono HBW.out.size)⟩
  have hr : numOk e.height = true := by rw [numOk, ← Bool.decide_and]; exact decide_eq_true hq
  rw [hr]
  have HQi := Lib.hid hq
  clear hq hr
  go_wp2_with fail
  refine HR.out _ _ ⟨m + 1, rfl, by omega, seen_next HML.out HEE.out ⟨HQh.out, HQi.out⟩, hbli⟩ ?_
  simp [intOf]
  omega
end Go.Proofs.Ytpknafidbmnjpaa
