/-
  The law StateOne: states of which one number is another one have unlike bytes. No condition.
-/
import Derived.Test.YtpknafidbmnjpaaStR
import Derived.Test.YtpknafidbmnjpaaSeqI
import Derived.Deep.Cut
import Derived.Laws.Bits128
namespace Go.Proofs.Ytpknafidbmnjpaa
open Go.RowKit

theorem i64_and_pow (n : Int) (k : Nat) (hk : k ≤ 62) (c : Int) (hc : (BitVec.ofInt 64 c).toNat = 2 ^ k - 1) (d : Int) (hd : d = ((2 ^ k : Nat) : Int)) : bits .and .i64 n c = n % d := by
  have key : (BitVec.ofInt 64 n &&& BitVec.ofInt 64 c).toNat = (n % ((2 ^ 64 : Nat) : Int)).toNat % 2 ^ k := by
    rw [BitVec.toNat_and, BitVec.toNat_ofInt, hc, Nat.and_two_pow_sub_one_eq_mod]
  show IntKind.i64.wrap ((BitVec.ofInt 64 n &&& BitVec.ofInt 64 c).toNat : Nat) = n % d
  have h1 : (2 : Nat) ^ k ≤ 2 ^ 62 := Nat.pow_le_pow_right (by decide) hk
  have h0 : 0 < (2 : Nat) ^ k := Nat.pow_pos (by decide)
  have hdvd : ((2 ^ k : Nat) : Int) ∣ ((2 ^ 64 : Nat) : Int) := Int.ofNat_dvd.2 (Nat.pow_dvd_pow 2 (by omega))
  have h2 : (((n % ((2 ^ 64 : Nat) : Int)).toNat % 2 ^ k : Nat) : Int) = n % ((2 ^ k : Nat) : Int) := by
    rw [Int.natCast_emod, Int.toNat_of_nonneg (Int.emod_nonneg _ (by decide)), Int.emod_emod_of_dvd _ hdvd]
  rw [key, IntKind.wrap_i64, h2, hd]
  have h5 : 2 ^ k ≤ 4611686018427387904 := Nat.le_trans h1 (by decide)
  clear h1 h2 hd key hdvd hc
  generalize 2 ^ k = p at *
  have h3 := Int.emod_nonneg n (b := (p : Int)) (by omega)
  have h4 := Int.emod_lt_of_pos n (b := (p : Int)) (by omega)
  generalize n % (p : Int) = m at *
  omega

theorem i64_and1 (n : Int) : bits .and .i64 n 1 = n % 2 := i64_and_pow n 1 (by decide) 1 (by decide) 2 (by decide)
theorem i64_and3 (n : Int) : bits .and .i64 n 3 = n % 4 := i64_and_pow n 2 (by decide) 3 (by decide) 4 (by decide)
theorem i64_and32 (n : Int) : bits .and .i64 n 4294967295 = n % 4294967296 := i64_and_pow n 32 (by decide) 4294967295 (by decide) 4294967296 (by decide)

theorem Blk.loadV {w : World} {X : Nat} {k n : Int} {t : TypeId} (h : Blk w X #[.int .i64 k, .int .i64 n] t) :
    (loadVar 39 ⟨X, 0, none⟩).run Try.prog w = .ok (.agg #[.int .i64 k, .int .i64 n]) w := by
  have hs : (Try.prog.underlying 39).map (fun d => match d with | .struct _ | .array _ _ => true | _ => false) = some true := by kernel_rfl
  obtain ⟨d, h1, h2⟩ := Option.map_eq_some_iff.1 hs
  exact run_loadVar_row w X t 39 _ _ d h h1 (by cases d <;> first | rfl | (exfalso; simp at h2)) (by kernel_rfl)

theorem Blk.set2 {w : World} {X : Nat} {t : TypeId} {x0 x1 : Value} (h : Blk w X #[x0, x1] t) (y0 y1 : Value) :
    Blk ((w.setCell ⟨X, 0, none⟩ y0).setCell ⟨X, 1, none⟩ y1) X #[y0, y1] t := by
  have := (h.set 0 y0).set 1 y1
  simpa using this

def WrapEnd (k n : Int) (w : World) (e : Ending) (w' : World) : Prop := e = .returned (.agg #[.int .i64 k, .int .i64 n]) ∧ Below w.heap.size w w'

set_option maxRecDepth 100000 in
theorem wrap_any (k n : Int) (hk : k = 1 ∨ k = 2) (h0 : 0 ≤ n) (h1 : n < 2147483648) (w : World) : Calls Try.prog 19 #[.int .i64 k, .int .i64 n] w (WrapEnd k n w) := by
  have hm : bits .and .i64 n 4294967295 = n := by rw [i64_and32]; omega
  have hx := Blk.new w #[.int .i64 k, .int .i64 n] 39
  have hal := (Below.refl w.heap.size w).alloc (Nat.le_refl _) (.cells #[.int .i64 k, .int .i64 n] 39)
  have f2 : decide (2147483648 ≤ n) = false := decide_eq_false (by omega)
  rcases hk with rfl | rfl
  · go_enter Try.func19, Try.ntmps19
    go_wp2_with fail
    refine bodyPost_ret (results_cell1 rfl _ _ rfl hx.loadV) rfl ?_
    exact ⟨rfl, hal⟩
  · go_enter Try.func19, Try.ntmps19
    go_wp2_with fail
    refine bodyPost_ret (results_cell1 rfl _ _ rfl hx.loadV) rfl ?_
    exact ⟨rfl, hal⟩


theorem one_num (n : Int) : ∃ N : Nat, (wrap64 (n.tmod 10000 + 10000)).tmod 10000 = (N : Int) ∧ N < 10000 := by
  have h1 := Int.lt_tmod_of_pos n (b := 10000) (by decide)
  have h2 := Int.tmod_lt_of_pos n (b := 10000) (by decide)
  generalize n.tmod 10000 = m at *
  rw [Go.IntWalk.wrap64_in _ (by omega)]
  have h4 := Int.tmod_nonneg (a := m + 10000) 10000 (by omega)
  have h5 := Int.tmod_lt_of_pos (m + 10000) (b := 10000) (by decide)
  exact ⟨((m + 10000).tmod 10000).toNat, by omega, by omega⟩

theorem zip_setl {α β : Type} : ∀ (l : List α) (us : List β) (k : Nat) (f : α) (u : β), us[k]? = some u → (l.zip us).set k (f, u) = (l.set k f).zip us
  | [], us, k, f, u, h => by simp
  | d :: l, [], k, f, u, h => by simp at h
  | d :: l, x :: us, 0, f, u, h => by
    simp at h
    simp [h]
  | d :: l, x :: us, k + 1, f, u, h => by
    simp only [List.zip_cons_cons, List.set_cons_succ]
    rw [zip_setl l us k f u (by simpa using h)]

/-- A number of one frame of a copy is set. -/
theorem CopyFrames.setRow {w : World} {M g n cap i j : Nat} {l : List FEnt} {f f' : FEnt} {x : Value} (h : CopyFrames w M (.slice (some ⟨g, 0, none⟩) n cap) l) (hf : l[i]? = some f) (hj : j < 5) (he : ∀ u : Value × Value, encF (f', u) = (encF (f, u)).set j x)
    (hl : f'.locals = f.locals) (hb : f'.labels = f.labels) (ho : f'.ok) : CopyFrames (w.setCell ⟨g, i * 5 + j, none⟩ x) M (.slice (some ⟨g, 0, none⟩) n cap) (l.set i f') := by
  obtain ⟨us, h1, h2, h3, h4⟩ := h
  have hi : i < l.length := (List.getElem?_eq_some_iff.1 hf).1
  obtain ⟨u, hu⟩ : ∃ u, us[i]? = some u := ⟨_, List.getElem?_eq_getElem (by omega)⟩
  have hz : (l.zip us)[i]? = some (f, u) := (List.getElem?_zip_eq_some (z := (f, u))).2 ⟨hf, hu⟩
  have hk := setKeeps w g (i * 5 + j) x
  have h5 := h2.set encF_len hz hj (he u)
  rw [zip_setl l us i f' u hu] at h5
  refine ⟨us, by rw [List.length_set, h1], h5, fun d hd => ?_, fun k d v hd hv => ?_⟩
  · rcases List.mem_or_eq_of_mem_set hd with h | h
    · exact h3 d h
    · rw [h]; exact ho
  · have hne : ∀ {α : Type} {t : TypeId} {k : Nat} {enc : α → List Value} {u : Value} {l : List α}, t ≠ 42 → OwnRws t k enc w M u l → OwnRws t k enc (w.setCell ⟨g, i * 5 + j, none⟩ x) M u l := fun ht h =>
      h.keeps hk (fun b hb hj => h.ne h2 ht b hb (by subst hj; rfl))
    rcases Nat.lt_or_ge k i with hk1 | hk1
    · rw [List.getElem?_set_ne (by omega)] at hd
      exact ⟨hne (by decide) (h4 k d v hd hv).1, hne (by decide) (h4 k d v hd hv).2⟩
    · rcases Nat.lt_or_ge i k with hk2 | hk2
      · rw [List.getElem?_set_ne (by omega)] at hd
        exact ⟨hne (by decide) (h4 k d v hd hv).1, hne (by decide) (h4 k d v hd hv).2⟩
      · obtain rfl : k = i := by omega
        rw [List.getElem?_set_self hi] at hd
        injection hd with hd
        subst hd
        rw [hu] at hv
        injection hv with hv
        subst hv
        rw [hl, hb]
        exact ⟨hne (by decide) (h4 k f u hf hu).1, hne (by decide) (h4 k f u hf hu).2⟩

theorem CopyFrames.open {w : World} {M n cap : Nat} {a : Option Addr} {l : List FEnt} (h : CopyFrames w M (.slice a n cap) l) (hl : l ≠ []) : ∃ g cur, a = some ⟨g, 0, none⟩ ∧ M ≤ g ∧ g < w.heap.size ∧ w.heap[g]? = some (.cells cur 42) := by
  obtain ⟨us, h1, h2, _⟩ := h
  obtain ⟨g, c, cur, hv, hb, hlt, hg, _⟩ := h2.open (by
    intro h
    have : (l.zip us).length = 0 := by rw [h]; rfl
    rw [List.length_zip, h1, Nat.min_self] at this
    exact hl (List.eq_nil_of_length_eq_zero this))
  injection hv with e1 e2 e3
  exact ⟨g, cur, e1, hb, hlt, hg⟩

theorem CopyFrames.cellF {w : World} {M g n cap i : Nat} {l : List FEnt} {f : FEnt} (h : CopyFrames w M (.slice (some ⟨g, 0, none⟩) n cap) l) (hf : l[i]? = some f) :
    w.cell? ⟨g, i * 5 + 1, none⟩ = some (.int .i64 f.pc) ∧ w.cell? ⟨g, i * 5 + 3, none⟩ = some (.int .i64 f.base) := by
  obtain ⟨us, h1, h2, _⟩ := h
  obtain ⟨u, hu⟩ : ∃ u, us[i]? = some u := ⟨_, List.getElem?_eq_getElem (by rw [h1]; exact (List.getElem?_eq_some_iff.1 hf).1)⟩
  have hz : (l.zip us)[i]? = some (f, u) := (List.getElem?_zip_eq_some (z := (f, u))).2 ⟨hf, hu⟩
  exact ⟨h2.cell encF_len (j := 1) hz rfl, h2.cell encF_len (j := 3) hz rfl⟩



/-- Ahead of the last statement: c stands beside t. -/
def One118 (B0 Xc : Nat) (w : World) (t : SEnt) (uvt uft : Value) (a' : Act) (w' : World) : Prop :=
  ∃ (c : SEnt) (uvc ufc : Value), a' = { tmps := #[slot a' 0, slot a' 1, slot a' 2, slot a' 3, .pointer (some ⟨B0, 0, none⟩), slot a' 5, slot a' 6, slot a' 7, slot a' 8, slot a' 9, .pointer (some ⟨Xc, 0, none⟩), slot a' 11, slot a' 12, slot a' 13, slot a' 14, slot a' 15, slot a' 16, slot a' 17, slot a' 18, slot a' 19, slot a' 20, slot a' 21, slot a' 22, slot a' 23, slot a' 24, slot a' 25, slot a' 26, slot a' 27, slot a' 28, slot a' 29, slot a' 30, slot a' 31, slot a' 32, slot a' 33, slot a' 34, slot a' 35, slot a' 36, slot a' 37, slot a' 38, slot a' 39, slot a' 40, slot a' 41, slot a' 42, slot a' 43, slot a' 44, slot a' 45, slot a' 46, slot a' 47, slot a' 48, slot a' 49, slot a' 50, slot a' 51, slot a' 52, slot a' 53, slot a' 54, slot a' 55, slot a' 56, slot a' 57, slot a' 58, slot a' 59, slot a' 60, slot a' 61, slot a' 62, slot a' 63, slot a' 64, slot a' 65, slot a' 66, slot a' 67, slot a' 68, slot a' 69, slot a' 70, slot a' 71, slot a' 72, slot a' 73, slot a' 74, slot a' 75, slot a' 76, slot a' 77, slot a' 78, slot a' 79, slot a' 80, slot a' 81, slot a' 82, slot a' 83, slot a' 84, slot a' 85, slot a' 86, slot a' 87, slot a' 88, slot a' 89, slot a' 90, slot a' 91, slot a' 92, slot a' 93, slot a' 94, slot a' 95, slot a' 96, slot a' 97, slot a' 98, slot a' 99, slot a' 100, slot a' 101, slot a' 102, slot a' 103, slot a' 104, slot a' 105, slot a' 106, slot a' 107, slot a' 108, slot a' 109, slot a' 110, slot a' 111, slot a' 112, slot a' 113, slot a' 114, slot a' 115, slot a' 116, slot a' 117], defers := [] } ∧ Below w.heap.size w w' ∧ Blk w' B0 #[uvt, uft, .int .i64 t.asks] 25 ∧ IsState w' uvt uft t ∧ Blk w' Xc #[uvc, ufc, .int .i64 c.asks] 25 ∧ IsState w' uvc ufc c

set_option maxRecDepth 100000 in
set_option maxHeartbeats 4000000 in
theorem stateOne_any (uv uf : Value) (s : SEnt) (which at' n : Int) (w : World) (hst : IsState w uv uf s) (h1 : (Lit.int .i64 which).wf = true) (h2 : (Lit.int .i64 at').wf = true) (h3 : (Lit.int .i64 n).wf = true) :
    Calls Try.prog 7 #[.agg #[uv, uf, .int .i64 s.asks], .int .i64 which, .int .i64 at', .int .i64 n] w (TrueEnd w) := by
  obtain ⟨c0, c1⟩ := bounds_i64 h1
  obtain ⟨a0, a1⟩ := bounds_i64 h2
  obtain ⟨b0, b1⟩ := bounds_i64 h3
  clear h1 h2 h3
  obtain ⟨hv, hf, -⟩ := id hst
  obtain ⟨av, capv, rfl, _, _, _⟩ := hv
  obtain ⟨af, capf, rfl, _, _⟩ := hf.slice
  have hbx := Blk.new w #[.slice av s.vals.length capv, .slice af s.frames.length capf, .int .i64 s.asks] 25
  have hb := (Below.refl w.heap.size w).alloc (Nat.le_refl _) (.cells #[.slice av s.vals.length capv, .slice af s.frames.length capf, .int .i64 s.asks] 25)
  have HST := Lib.hid (hst.below hb)
  clear hst hf
  go_enter Try.func7, Try.ntmps7
  go_wp2_with fail
  generalize w.alloc (.cells #[.slice av s.vals.length capv, .slice af s.frames.length capf, .int .i64 s.asks] 25) = w0 at hbx hb HST ⊢
  refine (stateBegun_any _).mono ?_
  rintro y w1 ⟨rfl, hb1⟩
  have hbx := hbx.below hb1 hbx.lt
  have HST := Lib.hid (HST.out.below hb1)
  replace hb := below_next hb hb1
  clear hb1
  obtain ⟨x0, x1, x2⟩ := hbx.three
  go_wp2_with fail
  refine (cutState_any _ _ s w1 HST.out).mono ?_
  rintro y w2 ⟨uv1, uf1, rfl, hst1, hb2⟩
  obtain ⟨t, ht⟩ : ∃ t, s.cut = t := ⟨_, rfl⟩
  have hasks : s.asks = t.asks := by rw [← ht]; rfl
  have HTL := Lib.hid (show t.vals.length ≤ 30 ∧ t.frames.length ≤ 34 ∧ ∀ f ∈ t.frames, f.locals.length ≤ 34 ∧ f.labels.length ≤ 42 by
    rw [← ht]
    refine ⟨by show (s.vals.take 30).length ≤ 30; rw [List.length_take]; omega, by show ((s.frames.take 34).map FEnt.cut).length ≤ 34; rw [List.length_map, List.length_take]; omega, fun f hf => ?_⟩
    obtain ⟨g, hg, rfl⟩ := List.mem_map.1 (show f ∈ (s.frames.take 34).map FEnt.cut from hf)
    exact ⟨by show (g.locals.take 34).length ≤ 34; rw [List.length_take]; omega, by show (g.labels.take 42).length ≤ 42; rw [List.length_take]; omega⟩)
  rw [ht] at hst1
  have hw1 := hbx.lt
  have hbx2 := hbx.below hb2 hbx.lt
  replace hb := below_next hb hb2
  obtain ⟨hv, hf, hok⟩ := hst1.isState
  obtain ⟨av1, capv1, rfl, _, hcv1, _⟩ := hv
  obtain ⟨af1, capf1, rfl, _, hcf1⟩ := hf.slice
  unfold maxLen at hcv1
  rw [hasks] at hbx2 ⊢
  clear hb2 hf HST hok ht hbx hasks x0 x1 x2
  obtain ⟨x0, x1, x2⟩ := hbx2.three
  have z0 := hbx2.free 0
  have z1 := hbx2.free 1
  have z2 := hbx2.free 2
  have hx3 := hbx2.set3 (.slice av1 t.vals.length capv1) (.slice af1 t.frames.length capf1) (.int .i64 t.asks)
  have hkx := set3Keeps w2 w.heap.size (.slice av1 t.vals.length capv1) (.slice af1 t.frames.length capf1) (.int .i64 t.asks)
  have hst3 := hst1.keeps hkx (fun i h => by omega)
  have hb3 := hb.trans (hkx.below hb.size (fun i h => by omega))
  obtain ⟨y0, y1, y2⟩ := hx3.three
  clear hst1 hbx2
  go_wp2_with fail
  generalize ((w2.setCell ⟨w.heap.size, 0, none⟩ (.slice av1 t.vals.length capv1)).setCell ⟨w.heap.size, 1, none⟩ (.slice af1 t.frames.length capf1)).setCell ⟨w.heap.size, 2, none⟩ (.int .i64 t.asks) = w3 at hx3 hst3 hb3 ⊢
  have HST := Lib.hid hst3.isState
  replace hb := hb3
  have HBT := Lib.hid hx3
  clear hx3 hst3 hb3 hkx x0 x1 x2 z0 z1 z2 y0 y1 y2
  refine (lawMayS_any _ _ t w3 HST.out).mono ?_
  rintro y w4 ⟨rfl, hb'⟩
  have HBT := Lib.hid (HBT.out.below hb' HBT.out.lt)
  have HST := Lib.hid (HST.out.below hb')
  replace hb := below_next hb hb'
  clear hb'
  by_cases hm : t.may
  rotate_left
  · rw [decide_eq_false hm]
    clear hm
    go_wp2_with fail
    go_ret
    exact ⟨rfl, hb⟩
  rw [decide_eq_true hm]
  have HM := Lib.hid hm
  clear hm
  by_cases q : at' < 0
  · have f0 : decide (at' < 0) = true := decide_eq_true q
    go_wp2_with fail
    go_ret
    exact ⟨rfl, hb⟩
  have f0 : decide (at' < 0) = false := decide_eq_false q
  obtain ⟨at', rfl⟩ := Int.eq_ofNat_of_zero_le (show 0 ≤ at' by omega)
  obtain ⟨x0, x1, x2⟩ := HBT.out.three
  go_wp2_with fail
  refine (copyState_any _ _ t w4 HST.out (by have := HTL.out.1; omega) (by have := HTL.out.2.1; omega) (fun f hf => by have := HTL.out.2.2 f hf; omega)).mono ?_
  rintro y w5 ⟨uv2, uf2, M, rfl, hb', hM1, hM2, hov, hovM, hcf⟩
  have hs4 := HBT.out.lt
  have HBT := Lib.hid (HBT.out.below hb' HBT.out.lt)
  have HST4 := HST
  obtain ⟨av2, capv2, rfl, _, hcv2, _⟩ := hov.isRws encV_len
  obtain ⟨af2, capf2, rfl, _, hcf2⟩ := hcf.isFrames.slice
  unfold maxLen at hcv2
  have hbc := Blk.new w5 #[.slice av2 t.vals.length capv2, .slice af2 t.frames.length capf2, .int .i64 t.asks] 25
  have hal := (Below.refl w5.heap.size w5).alloc (Nat.le_refl _) (.cells #[.slice av2 t.vals.length capv2, .slice af2 t.frames.length capf2, .int .i64 t.asks] 25)
  have hov6 := hov.below hal
  have hcf6 := hcf.keeps (Keeps.ofBelow (S := fun _ => False) hal) (fun i h => h.elim)
  have HBT := Lib.hid (HBT.out.below hal HBT.out.lt)
  have hb46 := hb'.trans (hal.mono hb'.size)
  have hb6 := below_next hb hb46
  clear x0 x1 x2
  go_upto_region 9 with fail
  rename_i K17 h17 K9 h9
  have HK : Hid (∀ a w', One118 w.heap.size w5.heap.size w t (.slice av1 t.vals.length capv1) (.slice af1 t.frames.length capf1) a w' → K17 a w') := Lib.hid (by
    clear h9 hb hb' hov hovM hcf hbc hal hov6 hcf6 HBT hb46 hb6 HST HST4 HTL
    intro a' w7 h
    unfold One118 at h
    obtain ⟨c, uvc, ufc, hfr, hb, hbt, hst, hbc, hsc⟩ := h
    obtain ⟨f, hf⟩ : ∃ f, f = slot a' := ⟨_, rfl⟩
    rw [← hf] at hfr
    clear hf
    subst hfr
    apply h17
    obtain ⟨hv, hf, -⟩ := id hsc
    obtain ⟨avc, capvc, rfl, _, _, _⟩ := hv
    obtain ⟨afc, capfc, rfl, _, _⟩ := hf.slice
    have HST := Lib.hid hst
    have HSC := Lib.hid hsc
    have HBT := Lib.hid hbt
    have HBC := Lib.hid hbc
    clear hf hst hsc hbt hbc h17
    go_wp2_with fail
    refine wp_region_strong (All6 w5.heap.size w.heap.size (.slice avc c.vals.length capvc) (.slice afc c.frames.length capfc) (.int .i64 c.asks) (.slice av1 t.vals.length capv1) (.slice af1 t.frames.length capf1) (.int .i64 t.asks))
      [(0, true), (3, true), (7, true), (8, true), (1, false), (2, true), (4, false), (5, true), (6, true), (9, false), (10, true), (11, true), (12, true), (13, true), (15, true), (16, true), (14, false), (17, false), (18, true), (19, true), (20, true)] (by kernel_rfl) (by kernel_rfl) ⟨HBC.out.cells3, HBT.out.cells3⟩ ?_
    iterate 4 (first | (apply segS_skip rfl rfl; simp only [Act.put, List.setIfInBounds_toArray, List.set_cons_succ, List.set_cons_zero]) | (apply segS_pure rfl rfl rfl; · (rintro w' ⟨⟨t0, t1, t2⟩, t3, t4, t5⟩; go_wp2; exact ⟨rfl, rfl, rfl⟩)))
    refine segS_loud rfl rfl ?_
    go_wp2_with fail
    refine (encState_any _ _ c _ (HSC.out.below (Below.refl _ _).drew)).mono ?_
    rintro y w8 ⟨v1, rfl, hb8', hc⟩
    have hb8 : Below w7.heap.size w7 w8 := below_undrew hb8'
    obtain ⟨lc, hlc, hci⟩ : ∃ lc, lc = (if c.may then stateB c else []) ∧ IsBytes w8 v1 lc := by
      rcases hc with ⟨hm, ho⟩ | ⟨hm, rfl⟩
      · exact ⟨_, by rw [if_pos hm], ho.isBytes⟩
      · exact ⟨_, by rw [if_neg hm], IsBytes.nil _⟩
    have HLC := Lib.hid hlc
    have HCI := Lib.hid hci
    clear hc hb8' hlc hci
    have HST := Lib.hid (HST.out.below hb8)
    have HSC := Lib.hid (HSC.out.below hb8)
    have HBT := Lib.hid (HBT.out.below hb8 HBT.out.lt)
    have HBC := Lib.hid (HBC.out.below hb8 HBC.out.lt)
    replace hb := below_next hb hb8
    clear hb8
    go_wp2_with fail
    refine ⟨trivial, (fun w' => All6 w5.heap.size w.heap.size (.slice avc c.vals.length capvc) (.slice afc c.frames.length capfc) (.int .i64 c.asks) (.slice av1 t.vals.length capv1) (.slice af1 t.frames.length capf1) (.int .i64 t.asks) w' ∧ (convert 28 9 v1).run Try.prog w' = .ok (.string (bs lc)) w'), fun w h => h.1, ⟨⟨HBC.out.cells3, HBT.out.cells3⟩, run_str HCI.out⟩, ?_⟩
    iterate 1 (first | (apply segS_skip rfl rfl; simp only [Act.put, List.setIfInBounds_toArray, List.set_cons_succ, List.set_cons_zero]) | (apply segS_pure rfl rfl rfl; · (rintro w' ⟨⟨⟨t0, t1, t2⟩, t3, t4, t5⟩, t6⟩; go_wp2; exact ⟨rfl, rfl, rfl⟩)))
    refine segS_loud rfl rfl ?_
    go_wp2_with fail
    refine (encState_any _ _ t _ HST.out).mono ?_
    rintro y w9 ⟨v2, rfl, hb9, hc⟩
    rcases hc with ⟨-, ho⟩ | ⟨h, -⟩
    rotate_left
    · exact absurd HM.out h
    have HCI2 := Lib.hid ho.isBytes
    have HCI := Lib.hid (HCI.out.below hb9)
    clear ho
    have HST := Lib.hid (HST.out.below hb9)
    have HSC := Lib.hid (HSC.out.below hb9)
    have HBT := Lib.hid (HBT.out.below hb9 HBT.out.lt)
    have HBC := Lib.hid (HBC.out.below hb9 HBC.out.lt)
    replace hb := below_next hb hb9
    clear hb9
    go_wp2_with fail
    refine ⟨trivial, (fun w' => (All6 w5.heap.size w.heap.size (.slice avc c.vals.length capvc) (.slice afc c.frames.length capfc) (.int .i64 c.asks) (.slice av1 t.vals.length capv1) (.slice af1 t.frames.length capf1) (.int .i64 t.asks) w' ∧ (convert 28 9 v1).run Try.prog w' = .ok (.string (bs lc)) w') ∧ (convert 28 9 v2).run Try.prog w' = .ok (.string (bs (stateB t))) w'), fun w h => h.1, ⟨⟨⟨HBC.out.cells3, HBT.out.cells3⟩, run_str HCI.out⟩, run_str HCI2.out⟩, ?_⟩
    iterate 2 (first | (apply segS_skip rfl rfl; simp only [Act.put, List.setIfInBounds_toArray, List.set_cons_succ, List.set_cons_zero]) | (apply segS_pure rfl rfl rfl; · (rintro w' ⟨⟨⟨⟨t0, t1, t2⟩, t3, t4, t5⟩, t6⟩, t7⟩; go_wp2; exact ⟨rfl, rfl, rfl⟩)))
    refine segS_loud rfl rfl ?_
    go_wp2_with fail
    refine (lawEqS_any _ _ _ _ c t _ HSC.out HST.out).mono ?_
    rintro y w10 ⟨r, rfl, hr, hb10⟩
    have HCI2 := Lib.hid (HCI2.out.below hb10)
    have HCI := Lib.hid (HCI.out.below hb10)
    have hq : ((bs lc).toList == (bs (stateB t)).toList) = r := by
      rw [bs_toList, bs_toList, HLC.out]
      cases r
      · refine beq_eq_false_iff_ne.2 (fun g => ?_)
        by_cases hm : c.may
        · rw [if_pos hm] at g
          have := hr.2 (stateB_inj hm HSC.out.2.2 HM.out HST.out.2.2 g)
          cases this
        · rw [if_neg hm] at g
          exact stateB_ne t g.symm
      · have h := hr.1 rfl
        rw [h, if_pos HM.out]
        exact beq_self_eq_true _
    have HR := Lib.hid hr
    clear hr
    have HST := Lib.hid (HST.out.below hb10)
    have HSC := Lib.hid (HSC.out.below hb10)
    have HBT := Lib.hid (HBT.out.below hb10 HBT.out.lt)
    have HBC := Lib.hid (HBC.out.below hb10 HBC.out.lt)
    replace hb := below_next hb hb10
    clear hb10
    have f1 : (r == r) = true := beq_self_eq_true _
    go_wp2_with fail
    refine ⟨trivial, (fun w' => (All6 w5.heap.size w.heap.size (.slice avc c.vals.length capvc) (.slice afc c.frames.length capfc) (.int .i64 c.asks) (.slice av1 t.vals.length capv1) (.slice af1 t.frames.length capf1) (.int .i64 t.asks) w' ∧ (convert 28 9 v1).run Try.prog w' = .ok (.string (bs lc)) w') ∧ (convert 28 9 v2).run Try.prog w' = .ok (.string (bs (stateB t))) w'), fun w h => h, ⟨⟨⟨HBC.out.cells3, HBT.out.cells3⟩, run_str HCI.out⟩, run_str HCI2.out⟩, ?_⟩
    iterate 6 (first | (apply segS_skip rfl rfl; simp only [Act.put, List.setIfInBounds_toArray, List.set_cons_succ, List.set_cons_zero]) | (apply segS_pure rfl rfl rfl; · (rintro w' ⟨⟨⟨⟨t0, t1, t2⟩, t3, t4, t5⟩, t6⟩, t7⟩; go_wp2; exact ⟨rfl, rfl, rfl⟩)))
    refine segS_loud rfl rfl ?_
    go_wp2_with fail
    refine (eqState_any _ _ _ _ c t _ HSC.out HST.out).mono ?_
    rintro y w11 ⟨r2, rfl, hr2, hb11⟩
    obtain rfl : r2 = r := by
      rcases Bool.eq_false_or_eq_true r with h | h <;> rcases Bool.eq_false_or_eq_true r2 with h2 | h2
      · rw [h, h2]
      · exact absurd (hr2.2 (HR.out.1 h)) (by rw [h2]; simp)
      · exact absurd (HR.out.2 (hr2.1 h2)) (by rw [h]; simp)
      · rw [h, h2]
    have HCI2 := Lib.hid (HCI2.out.below hb11)
    have HCI := Lib.hid (HCI.out.below hb11)
    clear hr2
    have HST := Lib.hid (HST.out.below hb11)
    have HSC := Lib.hid (HSC.out.below hb11)
    have HBT := Lib.hid (HBT.out.below hb11 HBT.out.lt)
    have HBC := Lib.hid (HBC.out.below hb11 HBC.out.lt)
    replace hb := below_next hb hb11
    clear hb11
    go_wp2_with fail
    refine ⟨trivial, (fun w' => (All6 w5.heap.size w.heap.size (.slice avc c.vals.length capvc) (.slice afc c.frames.length capfc) (.int .i64 c.asks) (.slice av1 t.vals.length capv1) (.slice af1 t.frames.length capf1) (.int .i64 t.asks) w' ∧ (convert 28 9 v1).run Try.prog w' = .ok (.string (bs lc)) w') ∧ (convert 28 9 v2).run Try.prog w' = .ok (.string (bs (stateB t))) w'), fun w h => h, ⟨⟨⟨HBC.out.cells3, HBT.out.cells3⟩, run_str HCI.out⟩, run_str HCI2.out⟩, ?_⟩
    refine segS_loud rfl rfl ?_
    go_wp2_with fail
    refine (lawEqS_any _ _ _ _ c t _ HSC.out HST.out).mono ?_
    rintro y w12 ⟨r3, rfl, hr3, hb12⟩
    obtain rfl : r3 = r2 := by
      rcases Bool.eq_false_or_eq_true r2 with h | h <;> rcases Bool.eq_false_or_eq_true r3 with h2 | h2
      · rw [h, h2]
      · exact absurd (hr3.2 (HR.out.1 h)) (by rw [h2]; simp)
      · exact absurd (HR.out.2 (hr3.1 h2)) (by rw [h]; simp)
      · rw [h, h2]
    have HCI2 := Lib.hid (HCI2.out.below hb12)
    have HCI := Lib.hid (HCI.out.below hb12)
    clear hr3
    have HST := Lib.hid (HST.out.below hb12)
    have HSC := Lib.hid (HSC.out.below hb12)
    have HBT := Lib.hid (HBT.out.below hb12 HBT.out.lt)
    have HBC := Lib.hid (HBC.out.below hb12 HBC.out.lt)
    replace hb := below_next hb hb12
    clear hb12
    go_wp2_with fail
    refine ⟨trivial, (fun w' => (All6 w5.heap.size w.heap.size (.slice avc c.vals.length capvc) (.slice afc c.frames.length capfc) (.int .i64 c.asks) (.slice av1 t.vals.length capv1) (.slice af1 t.frames.length capf1) (.int .i64 t.asks) w' ∧ (convert 28 9 v1).run Try.prog w' = .ok (.string (bs lc)) w') ∧ (convert 28 9 v2).run Try.prog w' = .ok (.string (bs (stateB t))) w'), fun w h => h, ⟨⟨⟨HBC.out.cells3, HBT.out.cells3⟩, run_str HCI.out⟩, run_str HCI2.out⟩, ?_⟩
    iterate 3 (first | (apply segS_skip rfl rfl; simp only [Act.put, List.setIfInBounds_toArray, List.set_cons_succ, List.set_cons_zero]) | (apply segS_pure rfl rfl rfl; · (rintro w' ⟨⟨⟨⟨t0, t1, t2⟩, t3, t4, t5⟩, t6⟩, t7⟩; go_wp2; exact ⟨rfl, rfl, rfl⟩)))
    refine segS_nil ?_
    refine NoPanic.normal ?_
    go_wp2_with fail
    go_ret
    exact ⟨rfl, hb⟩)
  obtain ⟨N, hN, hN1⟩ := one_num n
  rw [hN]
  have HSC5 := Lib.hid (show IsState w5 (.slice av2 t.vals.length capv2) (.slice af2 t.frames.length capf2) t from ⟨hov.isRws encV_len, hcf.isFrames, HST.out.2.2⟩)
  generalize w5.alloc (.cells #[.slice av2 t.vals.length capv2, .slice af2 t.frames.length capf2, .int .i64 t.asks] 25) = w6 at hbc HBT hov6 hcf6 hb46 hb6 hal ⊢
  obtain ⟨Xc, hXc⟩ : ∃ X, X = w5.heap.size := ⟨_, rfl⟩
  rw [← hXc] at hbc HK ⊢
  have hXa : w5.heap.size ≤ Xc := by omega
  have hX4 := hb'.size
  have HBC := Lib.hid hbc
  have HOV := Lib.hid hov6
  have HCF := Lib.hid hcf6
  have HVM := Lib.hid hovM
  have HCF5 := Lib.hid hcf
  have hXlt := hbc.lt
  clear hXc hbc hov6 hcf6 hov hcf hN h17 hovM
  rcases (show which % 4 = 0 ∨ which % 4 = 1 ∨ which % 4 = 2 ∨ which % 4 = 3 by omega) with hp | hp | hp | hp
  · have hw : bits .and .i64 which 3 = 0 := by rw [i64_and3, hp]
    clear hp
    obtain ⟨x0, x1, x2⟩ := HBC.out.three
    have z0 := HBC.out.free 0
    have z1 := HBC.out.free 1
    have z2 := HBC.out.free 2
    go_wp2_with fail
    have hkx := setKeeps w6 Xc 2 (.int .i64 ((N : Int) - 1))
    have hk5 := (Keeps.ofBelow (S := fun _ => False) hal).trans hkx (fun i h => .inr (by omega))
    have hk4 := (Keeps.ofBelow (S := fun _ => False) hb46).trans hkx (fun i h => .inr (by omega))
    have hs5 := HSC5.out.below (hk5.below (Nat.le_refl _) (fun i h => h.elim))
    refine HK.out _ _ ⟨⟨t.vals, t.frames, (N : Int) - 1⟩, _, _, rfl, hb6.trans (hkx.below hb6.size (fun i h => by omega)), HBT.out.keeps hkx (by omega), HST4.out.below (hk4.below (Nat.le_refl _) (fun i h => h.elim)), by simpa using HBC.out.set 2 (.int .i64 ((N : Int) - 1)), ⟨hs5.1, hs5.2.1, ⟨by show (-9223372036854775808 : Int) ≤ (N : Int) - 1; omega, by show (N : Int) - 1 ≤ 9223372036854775807; omega⟩, hs5.2.2.2⟩⟩
  · have hw : bits .and .i64 which 3 = 1 := by rw [i64_and3, hp]
    clear hp
    by_cases hfz : t.frames.length = 0
    · have f1 : ((t.frames.length : Int) == 0) = true := ieq_true (by omega)
      have HFZ := Lib.hid hfz
      clear hfz
      by_cases hvz : t.vals.length = 0
      · have f2 : decide (0 < (t.vals.length : Int)) = false := decide_eq_false (by omega)
        have f3 : t.vals.length < 1 := by omega
        clear hvz
        obtain ⟨x0, x1, x2⟩ := HBC.out.three
        have z0 := HBC.out.free 0
        have z1 := HBC.out.free 1
        have z2 := HBC.out.free 2
        go_wp2_with fail
        exact HK.out _ _ ⟨t, _, _, rfl, hb6, HBT.out, HST4.out.below hb46, HBC.out, HSC5.out.below hal⟩
      · have f2 : decide (0 < (t.vals.length : Int)) = true := decide_eq_true (by omega)
        obtain ⟨g, capg, cur, hvg, hg1, hg2, hg3, _, _⟩ := HOV.out.open (by intro h; rw [h] at hvz; simp at hvz)
        injection hvg with e1 e2 e3
        subst e1 e3
        have hgM := HVM.out g rfl
        obtain ⟨i, hi⟩ : ∃ i, at' % t.vals.length = i := ⟨_, rfl⟩
        have hil : i < t.vals.length := by rw [← hi]; exact Nat.mod_lt _ (by omega)
        have hkk : ((at' : Int) % (t.vals.length : Int)) = (i : Int) := by rw [← hi]; rfl
        have hkt : Int.tmod (at' : Int) (t.vals.length : Int) = (i : Int) := by rw [← hi]; rfl
        have hl0 : ((t.vals.length : Int) == 0) = false := ieq_false (by omega)
        obtain ⟨e, he⟩ : ∃ e, t.vals[i]? = some e := ⟨_, List.getElem?_eq_getElem hil⟩
        have HE := Lib.hid he
        obtain ⟨k2, hk2, hk21, hk22⟩ : ∃ k2 : Int, bits .and .i64 (N : Int) 1 = k2 ∧ 0 ≤ k2 ∧ k2 ≤ 1 := ⟨_, rfl, by rw [i64_and1]; omega, by rw [i64_and1]; omega⟩
        obtain ⟨x0, x1, x2⟩ := HBC.out.three
        clear hi e2 he
        go_wp2_with fail
        refine wp_region_seq (fun w' => w'.cell? ⟨Xc, 0, none⟩ = some (.slice (some ⟨g, 0, none⟩) t.vals.length capv2))
          [(0, true), (1, true), (2, true), (3, true), (4, true), (5, true), (6, true), (7, true), (8, true), (9, true), (10, true), (11, false), (12, true), (13, false)] (by kernel_rfl) (by kernel_rfl) (HBC.out.cell 0) ?_
        clear x0 x1 x2
        iterate 11 (first | (apply seg_skip rfl rfl; simp only [Act.put, List.setIfInBounds_toArray, List.set_cons_succ, List.set_cons_zero]) | (apply seg_pure rfl rfl rfl; · (rintro w' t0; go_wp2; exact ⟨rfl, rfl, rfl⟩)))
        refine seg_loud rfl rfl ?_
        go_wp2_with fail
        refine (wrap_any (1 + k2) (N : Int) (by omega) (by omega) (by omega) w6.drew).mono ?_
        rintro y w8 ⟨rfl, hb8'⟩
        have hb8 : Below w6.heap.size w6 w8 := below_undrew hb8'
        have hov8 := HOV.out.below hb8
        have HCF8 := Lib.hid (HCF.out.keeps (Keeps.ofBelow (S := fun _ => False) hb8) (fun i h => h.elim))
        have HBC := Lib.hid (HBC.out.below hb8 HBC.out.lt)
        have HBT := Lib.hid (HBT.out.below hb8 HBT.out.lt)
        have c0 : w8.cell? ⟨g, i * 2, none⟩ = some (.int .i64 e.kind) := hov8.cell encV_len (j := 0) HE.out rfl
        have c1 : w8.cell? ⟨g, i * 2 + 1, none⟩ = some (.int .i64 e.n) := hov8.cell encV_len (j := 1) HE.out rfl
        have hg8 : w8.heap[g]? = some (.cells cur 39) := (hb8.block g hg2).trans hg3
        have z0 : w8.frozen? ⟨g, i * 2, none⟩ = false := frozen_of_row w8 g _ cur _ hg8
        have z1 : w8.frozen? ⟨g, i * 2 + 1, none⟩ = false := frozen_of_row w8 g _ cur _ hg8
        have hk8 := (setKeeps w8 g (i * 2) (.int .i64 (1 + k2))).trans (setKeeps _ g (i * 2 + 1) (.int .i64 (N : Int))) (fun _ h => .inl h)
        have hov9 : OwnRws 39 2 encV ((w8.setCell ⟨g, i * 2, none⟩ (.int .i64 (1 + k2))).setCell ⟨g, i * 2 + 1, none⟩ (.int .i64 (N : Int))) w4.heap.size (.slice (some ⟨g, 0, none⟩) t.vals.length capv2) (t.vals.set i ⟨1 + k2, N⟩) := by
          have h1 := hov8.set encV_len (j := 0) (u := .int .i64 (1 + k2)) (y := ⟨1 + k2, e.n⟩) HE.out (by omega) rfl
          have h2 := h1.set encV_len (i := i) (j := 1) (x := ⟨1 + k2, e.n⟩) (u := .int .i64 (N : Int)) (y := ⟨1 + k2, N⟩) (by rw [List.getElem?_set_self hil]) (by omega) rfl
          rw [List.set_set] at h2
          exact h2
        have hk69 := (Keeps.ofBelow (S := fun k => k = g) hb8).trans hk8 (fun i h => .inl h)
        have hk49 := (Keeps.ofBelow (S := fun _ => False) hb46).trans hk69 (fun i h => .inr (by omega))
        have HOV9 := Lib.hid hov9
        clear hov8 hov9 hb8'
        go_wp2_with fail
        refine ⟨HBC.out.cell 0, ?_⟩
        iterate 1 (first | (apply seg_skip rfl rfl; simp only [Act.put, List.setIfInBounds_toArray, List.set_cons_succ, List.set_cons_zero]) | (apply seg_pure rfl rfl rfl; · (rintro w' t0; go_wp2; exact ⟨rfl, rfl, rfl⟩)))
        refine seg_loud rfl rfl ?_
        go_wp2_with fail
        refine ⟨(HBC.out.keeps hk8 (by omega)).cell 0, ?_⟩
        refine seg_nil ?_
        refine NoPanic.normal ?_
        clear c0 c1 z0 z1 hg8
        go_wp2_with fail
        refine HK.out _ _ ⟨⟨t.vals.set i ⟨1 + k2, N⟩, t.frames, t.asks⟩, _, _, rfl, hb6.trans (hk69.below hb6.size (fun i h => by omega)), HBT.out.keeps hk8 (by omega), HST4.out.below (hk49.below (Nat.le_refl _) (fun i h => h.elim)), HBC.out.keeps hk8 (by omega),
          ⟨HOV9.out.isRws encV_len, (HCF8.out.keeps hk8 (fun i h => by omega)).isFrames, HST4.out.2.2.1, fun v hv => ?_, HST4.out.2.2.2.2⟩⟩
        rcases List.mem_or_eq_of_mem_set hv with h | h
        · exact HST4.out.2.2.2.1 v h
        · rw [h]
          exact ⟨⟨by show (-9223372036854775808 : Int) ≤ 1 + k2; omega, by show 1 + k2 ≤ (9223372036854775807 : Int); omega⟩, by show (-9223372036854775808 : Int) ≤ (N : Int); omega, by show (N : Int) ≤ 9223372036854775807; omega⟩
    · have f1 : ((t.frames.length : Int) == 0) = false := ieq_false (by omega)
      by_cases hvz : t.vals.length = 0
      · have f2 : decide (0 < (t.vals.length : Int)) = false := decide_eq_false (by omega)
        have f3 : t.vals.length < 1 := by omega
        clear hvz
        obtain ⟨x0, x1, x2⟩ := HBC.out.three
        have z0 := HBC.out.free 0
        have z1 := HBC.out.free 1
        have z2 := HBC.out.free 2
        go_wp2_with fail
        exact HK.out _ _ ⟨t, _, _, rfl, hb6, HBT.out, HST4.out.below hb46, HBC.out, HSC5.out.below hal⟩
      · have f2 : decide (0 < (t.vals.length : Int)) = true := decide_eq_true (by omega)
        obtain ⟨g, capg, cur, hvg, hg1, hg2, hg3, _, _⟩ := HOV.out.open (by intro h; rw [h] at hvz; simp at hvz)
        injection hvg with e1 e2 e3
        subst e1 e3
        have hgM := HVM.out g rfl
        obtain ⟨i, hi⟩ : ∃ i, at' % t.vals.length = i := ⟨_, rfl⟩
        have hil : i < t.vals.length := by rw [← hi]; exact Nat.mod_lt _ (by omega)
        have hkk : ((at' : Int) % (t.vals.length : Int)) = (i : Int) := by rw [← hi]; rfl
        have hkt : Int.tmod (at' : Int) (t.vals.length : Int) = (i : Int) := by rw [← hi]; rfl
        have hl0 : ((t.vals.length : Int) == 0) = false := ieq_false (by omega)
        obtain ⟨e, he⟩ : ∃ e, t.vals[i]? = some e := ⟨_, List.getElem?_eq_getElem hil⟩
        have HE := Lib.hid he
        obtain ⟨k2, hk2, hk21, hk22⟩ : ∃ k2 : Int, bits .and .i64 (N : Int) 1 = k2 ∧ 0 ≤ k2 ∧ k2 ≤ 1 := ⟨_, rfl, by rw [i64_and1]; omega, by rw [i64_and1]; omega⟩
        obtain ⟨x0, x1, x2⟩ := HBC.out.three
        clear hi e2 he
        go_wp2_with fail
        refine wp_region_seq (fun w' => w'.cell? ⟨Xc, 0, none⟩ = some (.slice (some ⟨g, 0, none⟩) t.vals.length capv2))
          [(0, true), (1, true), (2, true), (3, true), (4, true), (5, true), (6, true), (7, true), (8, true), (9, true), (10, true), (11, false), (12, true), (13, false)] (by kernel_rfl) (by kernel_rfl) (HBC.out.cell 0) ?_
        clear x0 x1 x2
        iterate 11 (first | (apply seg_skip rfl rfl; simp only [Act.put, List.setIfInBounds_toArray, List.set_cons_succ, List.set_cons_zero]) | (apply seg_pure rfl rfl rfl; · (rintro w' t0; go_wp2; exact ⟨rfl, rfl, rfl⟩)))
        refine seg_loud rfl rfl ?_
        go_wp2_with fail
        refine (wrap_any (1 + k2) (N : Int) (by omega) (by omega) (by omega) w6.drew).mono ?_
        rintro y w8 ⟨rfl, hb8'⟩
        have hb8 : Below w6.heap.size w6 w8 := below_undrew hb8'
        have hov8 := HOV.out.below hb8
        have HCF8 := Lib.hid (HCF.out.keeps (Keeps.ofBelow (S := fun _ => False) hb8) (fun i h => h.elim))
        have HBC := Lib.hid (HBC.out.below hb8 HBC.out.lt)
        have HBT := Lib.hid (HBT.out.below hb8 HBT.out.lt)
        have c0 : w8.cell? ⟨g, i * 2, none⟩ = some (.int .i64 e.kind) := hov8.cell encV_len (j := 0) HE.out rfl
        have c1 : w8.cell? ⟨g, i * 2 + 1, none⟩ = some (.int .i64 e.n) := hov8.cell encV_len (j := 1) HE.out rfl
        have hg8 : w8.heap[g]? = some (.cells cur 39) := (hb8.block g hg2).trans hg3
        have z0 : w8.frozen? ⟨g, i * 2, none⟩ = false := frozen_of_row w8 g _ cur _ hg8
        have z1 : w8.frozen? ⟨g, i * 2 + 1, none⟩ = false := frozen_of_row w8 g _ cur _ hg8
        have hk8 := (setKeeps w8 g (i * 2) (.int .i64 (1 + k2))).trans (setKeeps _ g (i * 2 + 1) (.int .i64 (N : Int))) (fun _ h => .inl h)
        have hov9 : OwnRws 39 2 encV ((w8.setCell ⟨g, i * 2, none⟩ (.int .i64 (1 + k2))).setCell ⟨g, i * 2 + 1, none⟩ (.int .i64 (N : Int))) w4.heap.size (.slice (some ⟨g, 0, none⟩) t.vals.length capv2) (t.vals.set i ⟨1 + k2, N⟩) := by
          have h1 := hov8.set encV_len (j := 0) (u := .int .i64 (1 + k2)) (y := ⟨1 + k2, e.n⟩) HE.out (by omega) rfl
          have h2 := h1.set encV_len (i := i) (j := 1) (x := ⟨1 + k2, e.n⟩) (u := .int .i64 (N : Int)) (y := ⟨1 + k2, N⟩) (by rw [List.getElem?_set_self hil]) (by omega) rfl
          rw [List.set_set] at h2
          exact h2
        have hk69 := (Keeps.ofBelow (S := fun k => k = g) hb8).trans hk8 (fun i h => .inl h)
        have hk49 := (Keeps.ofBelow (S := fun _ => False) hb46).trans hk69 (fun i h => .inr (by omega))
        have HOV9 := Lib.hid hov9
        clear hov8 hov9 hb8'
        go_wp2_with fail
        refine ⟨HBC.out.cell 0, ?_⟩
        iterate 1 (first | (apply seg_skip rfl rfl; simp only [Act.put, List.setIfInBounds_toArray, List.set_cons_succ, List.set_cons_zero]) | (apply seg_pure rfl rfl rfl; · (rintro w' t0; go_wp2; exact ⟨rfl, rfl, rfl⟩)))
        refine seg_loud rfl rfl ?_
        go_wp2_with fail
        refine ⟨(HBC.out.keeps hk8 (by omega)).cell 0, ?_⟩
        refine seg_nil ?_
        refine NoPanic.normal ?_
        clear c0 c1 z0 z1 hg8
        go_wp2_with fail
        refine HK.out _ _ ⟨⟨t.vals.set i ⟨1 + k2, N⟩, t.frames, t.asks⟩, _, _, rfl, hb6.trans (hk69.below hb6.size (fun i h => by omega)), HBT.out.keeps hk8 (by omega), HST4.out.below (hk49.below (Nat.le_refl _) (fun i h => h.elim)), HBC.out.keeps hk8 (by omega),
          ⟨HOV9.out.isRws encV_len, (HCF8.out.keeps hk8 (fun i h => by omega)).isFrames, HST4.out.2.2.1, fun v hv => ?_, HST4.out.2.2.2.2⟩⟩
        rcases List.mem_or_eq_of_mem_set hv with h | h
        · exact HST4.out.2.2.2.1 v h
        · rw [h]
          exact ⟨⟨by show (-9223372036854775808 : Int) ≤ 1 + k2; omega, by show 1 + k2 ≤ (9223372036854775807 : Int); omega⟩, by show (-9223372036854775808 : Int) ≤ (N : Int); omega, by show (N : Int) ≤ 9223372036854775807; omega⟩
  · have hw : bits .and .i64 which 3 = 2 := by rw [i64_and3, hp]
    clear hp
    by_cases hfz : t.frames.length = 0
    · have f1 : ((t.frames.length : Int) == 0) = true := ieq_true (by omega)
      have HFZ := Lib.hid hfz
      clear hfz
      obtain ⟨x0, x1, x2⟩ := HBC.out.three
      have z0 := HBC.out.free 0
      have z1 := HBC.out.free 1
      have z2 := HBC.out.free 2
      go_wp2_with fail
      have hkx := setKeeps w6 Xc 2 (.int .i64 ((N : Int) - 1))
      have hk5 := (Keeps.ofBelow (S := fun _ => False) hal).trans hkx (fun i h => .inr (by omega))
      have hk4 := (Keeps.ofBelow (S := fun _ => False) hb46).trans hkx (fun i h => .inr (by omega))
      have hs5 := HSC5.out.below (hk5.below (Nat.le_refl _) (fun i h => h.elim))
      refine HK.out _ _ ⟨⟨t.vals, t.frames, (N : Int) - 1⟩, _, _, rfl, hb6.trans (hkx.below hb6.size (fun i h => by omega)), HBT.out.keeps hkx (by omega), HST4.out.below (hk4.below (Nat.le_refl _) (fun i h => h.elim)), by simpa using HBC.out.set 2 (.int .i64 ((N : Int) - 1)), ⟨hs5.1, hs5.2.1, ⟨by show (-9223372036854775808 : Int) ≤ (N : Int) - 1; omega, by show (N : Int) - 1 ≤ 9223372036854775807; omega⟩, hs5.2.2.2⟩⟩
    have f1 : ((t.frames.length : Int) == 0) = false := ieq_false (by omega)
    obtain ⟨g, cur, e1, hg1, hg2, hg3'⟩ := HCF5.out.open (by intro h; rw [h] at hfz; simp at hfz)
    subst e1
    have hg3 := (hal.block g hg2).trans hg3'
    obtain ⟨i, hi⟩ : ∃ i, at' % t.frames.length = i := ⟨_, rfl⟩
    have hil : i < t.frames.length := by rw [← hi]; exact Nat.mod_lt _ (by omega)
    have hkk : ((at' : Int) % (t.frames.length : Int)) = (i : Int) := by rw [← hi]; rfl
    have hkt : Int.tmod (at' : Int) (t.frames.length : Int) = (i : Int) := by rw [← hi]; rfl
    have hl0 : ((t.frames.length : Int) == 0) = false := ieq_false (by omega)
    obtain ⟨e, he⟩ : ∃ e, t.frames[i]? = some e := ⟨_, List.getElem?_eq_getElem hil⟩
    have hoe := HST4.out.2.2.2.2 e (List.mem_of_getElem? he)
    have hcf9 := (show CopyFrames w6.drew M (.slice (some ⟨g, 0, none⟩) t.frames.length capf2) t.frames from HCF.out).setRow (f' := ({ e with pc := (N : Int) } : FEnt)) (j := 1) (x := .int .i64 (N : Int)) he (by omega) (fun u => rfl) rfl rfl ⟨hoe.1, ⟨by show (-9223372036854775808 : Int) ≤ (N : Int); omega, by show (N : Int) ≤ 9223372036854775807; omega⟩, hoe.2.2⟩
    have hce := HCF.out.cellF he
    have c1 : w6.drew.cell? ⟨g, i * 5 + 1, none⟩ = some (.int .i64 e.pc) := hce.1
    have z1 : w6.drew.frozen? ⟨g, i * 5 + 1, none⟩ = false := frozen_of_row w6.drew g _ cur _ hg3
    have hk9 := setKeeps w6.drew g (i * 5 + 1) (.int .i64 (N : Int))
    have hk69 : Keeps (fun k => k = g) w6 _ := hk9.undrew
    have hk49 := (Keeps.ofBelow (S := fun _ => False) hb46).trans hk69 (fun i h => .inr (by omega))
    have HCF9 := Lib.hid hcf9
    have HOE := Lib.hid hoe
    obtain ⟨x0, x1, x2⟩ := HBC.out.three
    have HC1 := Lib.hid c1
    clear hi hcf9 hce hoe c1
    go_wp2_with fail
    refine wp_region_seq (fun w' => w'.cell? ⟨Xc, 1, none⟩ = some (.slice (some ⟨g, 0, none⟩) t.frames.length capf2))
      [(0, true), (1, true), (2, true), (3, true), (4, true), (5, true), (6, true), (7, true), (8, true), (9, true), (10, false)] (by kernel_rfl) (by kernel_rfl) (HBC.out.cell 1) ?_
    clear x0 x1 x2
    iterate 10 (first | (apply seg_skip rfl rfl; simp only [Act.put, List.setIfInBounds_toArray, List.set_cons_succ, List.set_cons_zero]) | (apply seg_pure rfl rfl rfl; · (rintro w' t0; go_wp2; exact ⟨rfl, rfl, rfl⟩)))
    refine seg_loud rfl rfl ?_
    have c1 := HC1.out
    go_wp2_with fail
    refine ⟨(HBC.out.drew.keeps hk9 (by omega)).cell 1, ?_⟩
    refine seg_nil ?_
    refine NoPanic.normal ?_
    clear c1 z1
    go_wp2_with fail
    refine HK.out _ _ ⟨⟨t.vals, t.frames.set i ({ e with pc := (N : Int) } : FEnt), t.asks⟩, _, _, rfl, hb6.trans (hk69.below hb6.size (fun i h => by omega)), HBT.out.keeps hk69 (by omega), HST4.out.below (hk49.below (Nat.le_refl _) (fun i h => h.elim)), HBC.out.keeps hk69 (by omega),
      ⟨(HOV.out.keeps hk69 (fun b hb hj => by have := HVM.out b hb; omega)).isRws encV_len, HCF9.out.isFrames, HST4.out.2.2.1, HST4.out.2.2.2.1, by obtain ⟨_, _, _, h, _⟩ := HCF9.out; exact h⟩⟩
  · have hw : bits .and .i64 which 3 = 3 := by rw [i64_and3, hp]
    clear hp
    by_cases hfz : t.frames.length = 0
    · have f1 : ((t.frames.length : Int) == 0) = true := ieq_true (by omega)
      have HFZ := Lib.hid hfz
      clear hfz
      obtain ⟨x0, x1, x2⟩ := HBC.out.three
      have z0 := HBC.out.free 0
      have z1 := HBC.out.free 1
      have z2 := HBC.out.free 2
      go_wp2_with fail
      have hkx := setKeeps w6 Xc 2 (.int .i64 ((N : Int) - 1))
      have hk5 := (Keeps.ofBelow (S := fun _ => False) hal).trans hkx (fun i h => .inr (by omega))
      have hk4 := (Keeps.ofBelow (S := fun _ => False) hb46).trans hkx (fun i h => .inr (by omega))
      have hs5 := HSC5.out.below (hk5.below (Nat.le_refl _) (fun i h => h.elim))
      refine HK.out _ _ ⟨⟨t.vals, t.frames, (N : Int) - 1⟩, _, _, rfl, hb6.trans (hkx.below hb6.size (fun i h => by omega)), HBT.out.keeps hkx (by omega), HST4.out.below (hk4.below (Nat.le_refl _) (fun i h => h.elim)), by simpa using HBC.out.set 2 (.int .i64 ((N : Int) - 1)), ⟨hs5.1, hs5.2.1, ⟨by show (-9223372036854775808 : Int) ≤ (N : Int) - 1; omega, by show (N : Int) - 1 ≤ 9223372036854775807; omega⟩, hs5.2.2.2⟩⟩
    have f1 : ((t.frames.length : Int) == 0) = false := ieq_false (by omega)
    obtain ⟨g, cur, e1, hg1, hg2, hg3'⟩ := HCF5.out.open (by intro h; rw [h] at hfz; simp at hfz)
    subst e1
    have hg3 := (hal.block g hg2).trans hg3'
    obtain ⟨i, hi⟩ : ∃ i, at' % t.frames.length = i := ⟨_, rfl⟩
    have hil : i < t.frames.length := by rw [← hi]; exact Nat.mod_lt _ (by omega)
    have hkk : ((at' : Int) % (t.frames.length : Int)) = (i : Int) := by rw [← hi]; rfl
    have hkt : Int.tmod (at' : Int) (t.frames.length : Int) = (i : Int) := by rw [← hi]; rfl
    have hl0 : ((t.frames.length : Int) == 0) = false := ieq_false (by omega)
    obtain ⟨e, he⟩ : ∃ e, t.frames[i]? = some e := ⟨_, List.getElem?_eq_getElem hil⟩
    have hoe := HST4.out.2.2.2.2 e (List.mem_of_getElem? he)
    have hcf9 := (show CopyFrames w6.drew M (.slice (some ⟨g, 0, none⟩) t.frames.length capf2) t.frames from HCF.out).setRow (f' := ({ e with base := (N : Int) } : FEnt)) (j := 3) (x := .int .i64 (N : Int)) he (by omega) (fun u => rfl) rfl rfl ⟨hoe.1, hoe.2.1, ⟨by show (-9223372036854775808 : Int) ≤ (N : Int); omega, by show (N : Int) ≤ 9223372036854775807; omega⟩, hoe.2.2.2⟩
    have hce := HCF.out.cellF he
    have c1 : w6.drew.cell? ⟨g, i * 5 + 3, none⟩ = some (.int .i64 e.base) := hce.2
    have z1 : w6.drew.frozen? ⟨g, i * 5 + 3, none⟩ = false := frozen_of_row w6.drew g _ cur _ hg3
    have hk9 := setKeeps w6.drew g (i * 5 + 3) (.int .i64 (N : Int))
    have hk69 : Keeps (fun k => k = g) w6 _ := hk9.undrew
    have hk49 := (Keeps.ofBelow (S := fun _ => False) hb46).trans hk69 (fun i h => .inr (by omega))
    have HCF9 := Lib.hid hcf9
    have HOE := Lib.hid hoe
    obtain ⟨x0, x1, x2⟩ := HBC.out.three
    have HC1 := Lib.hid c1
    clear hi hcf9 hce hoe c1
    go_wp2_with fail
    refine wp_region_seq (fun w' => w'.cell? ⟨Xc, 1, none⟩ = some (.slice (some ⟨g, 0, none⟩) t.frames.length capf2))
      [(0, true), (1, true), (2, true), (3, true), (4, true), (5, true), (6, true), (7, true), (8, true), (9, true), (10, false)] (by kernel_rfl) (by kernel_rfl) (HBC.out.cell 1) ?_
    clear x0 x1 x2
    iterate 10 (first | (apply seg_skip rfl rfl; simp only [Act.put, List.setIfInBounds_toArray, List.set_cons_succ, List.set_cons_zero]) | (apply seg_pure rfl rfl rfl; · (rintro w' t0; go_wp2; exact ⟨rfl, rfl, rfl⟩)))
    refine seg_loud rfl rfl ?_
    have c1 := HC1.out
    go_wp2_with fail
    refine ⟨(HBC.out.drew.keeps hk9 (by omega)).cell 1, ?_⟩
    refine seg_nil ?_
    refine NoPanic.normal ?_
    clear c1 z1
    go_wp2_with fail
    refine HK.out _ _ ⟨⟨t.vals, t.frames.set i ({ e with base := (N : Int) } : FEnt), t.asks⟩, _, _, rfl, hb6.trans (hk69.below hb6.size (fun i h => by omega)), HBT.out.keeps hk69 (by omega), HST4.out.below (hk49.below (Nat.le_refl _) (fun i h => h.elim)), HBC.out.keeps hk69 (by omega),
      ⟨(HOV.out.keeps hk69 (fun b hb hj => by have := HVM.out b hb; omega)).isRws encV_len, HCF9.out.isFrames, HST4.out.2.2.1, HST4.out.2.2.2.1, by obtain ⟨_, _, _, h, _⟩ := HCF9.out; exact h⟩⟩
end Go.Proofs.Ytpknafidbmnjpaa
