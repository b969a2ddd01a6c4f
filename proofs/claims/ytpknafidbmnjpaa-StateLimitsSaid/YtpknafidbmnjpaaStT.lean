/-
  The law StateLimits: a thousand values, thirty-two frames, as many locals, forty labels, and not one more. No condition.
-/
import Derived.Test.YtpknafidbmnjpaaStS
namespace Go.Proofs.Ytpknafidbmnjpaa
open Go.RowKit

theorem made_rws {α : Type} {k : Nat} {enc : α → List Value} (y : α) (hk : (enc y).length = k) (n : Nat) (hn : n ≤ maxLen) (w : World) (t : TypeId) :
    IsRws k enc (w.alloc (.cells (madeCells (enc y).toArray (n * k)) t)) (.slice (some ⟨w.heap.size, 0, none⟩) n n) (List.replicate n y) := by
  refine ⟨some ⟨w.heap.size, 0, none⟩, n, by simp, by simp, hn, fun i x hx => ⟨w.heap.size, 0, rfl, by simp, fun j u hu => ?_⟩⟩
  have hi : i < n := by
    have := (List.getElem?_eq_some_iff.1 hx).1
    simpa using this
  have hxy : x = y := by
    rw [List.getElem?_replicate, if_pos hi] at hx
    injection hx with hx
    exact hx.symm
  subst hxy
  have hj : j < k := by rw [← hk]; exact (List.getElem?_eq_some_iff.1 hu).1
  have hij : i * k + j < n * k := by
    have : (i + 1) * k ≤ n * k := Nat.mul_le_mul_right _ hi
    rw [Nat.add_mul] at this
    omega
  rw [World.cell?_alloc_new, Nat.zero_add]
  have hm : (i * k + j) % k = j := by rw [Nat.mul_comm, Nat.mul_add_mod, Nat.mod_eq_of_lt hj]
  obtain ⟨hlt, hg⟩ := List.getElem?_eq_some_iff.1 hu
  have : (madeCells (enc x).toArray (n * k))[i * k + j]? = some ((enc x).toArray[(i * k + j) % (enc x).toArray.size]!) := by
    simp [madeCells, hij]
  rw [this]
  simp only [List.size_toArray, hk, hm]
  rw [getElem!_pos (enc x).toArray j (by simpa using hlt)]
  simpa using hg

def F0 : FEnt := ⟨0, 0, [], 0, []⟩
theorem F0_ok : F0.ok := ⟨zero_in, zero_in, zero_in, by simp [F0], by simp [F0]⟩
where zero_in : InI 0 := ⟨by decide, by decide⟩
theorem F0_may : F0.may := by decide

theorem made_frames (n : Nat) (hn : n ≤ maxLen) (w : World) : IsFrames (w.alloc (.cells (madeCells #[.int .i64 0, .int .i64 0, .slice none 0 0, .int .i64 0, .slice none 0 0] (n * 5)) 42)) (.slice (some ⟨w.heap.size, 0, none⟩) n n) (List.replicate n F0) := by
  refine ⟨List.replicate n (.slice none 0 0, .slice none 0 0), by simp, ?_, fun i f u hf hu => ?_, fun f hf => ?_⟩
  · have := made_rws (k := 5) (enc := encF) (F0, (.slice none 0 0, .slice none 0 0)) rfl n hn w 42
    rw [List.zip_replicate']
    exact this
  · have h1 : f = F0 := List.eq_of_mem_replicate (List.mem_of_getElem? hf)
    have h2 := List.eq_of_mem_replicate (List.mem_of_getElem? hu)
    subst h1 h2
    exact ⟨IsRws.nil _, IsRws.nil _⟩
  · rw [List.eq_of_mem_replicate hf]
    exact F0_ok

def LimVals (c : Int) (k : Nat) : List VEnt := (List.range k).map fun (i : Nat) => (⟨c, (i : Int)⟩ : VEnt)
theorem LimVals_len (c : Int) (k : Nat) : (LimVals c k).length = k := by simp [LimVals]
theorem LimVals_succ (c : Int) (k : Nat) : LimVals c k ++ [⟨c, (k : Int)⟩] = LimVals c (k + 1) := by simp [LimVals, List.range_succ]
theorem LimVals_mem {c : Int} {k : Nat} {v : VEnt} (h : v ∈ LimVals c k) : v.kind = c ∧ 0 ≤ v.n ∧ v.n < k := by
  obtain ⟨i, hi, rfl⟩ := List.mem_map.1 h
  have := List.mem_range.1 hi
  exact ⟨rfl, by show (0 : Int) ≤ i; omega, by show (i : Int) < k; omega⟩

def LimJ (c : Int) (K X : Nat) (cs : Value → Array Value) (t : TypeId) (w0 w' : World) (v : Value) (k : Nat) : Prop :=
  k ≤ K ∧ Blk w' X (cs v) t ∧ OwnRws 39 2 encV w' w0.heap.size v (LimVals c k) ∧ Keeps (fun i => i = X) w0 w'

theorem make_frames (K : Nat) (hK : K ≤ 2000) (w : World) : (Instr.makeSlice 23 (.int .i64 (K : Int)) (.int .i64 (K : Int))).run Try.prog w =
    .ok (.slice (some ⟨w.heap.size, 0, none⟩) K K) (w.alloc (.cells (madeCells #[.int .i64 0, .int .i64 0, .slice none 0 0, .int .i64 0, .slice none 0 0] (K * 5)) 42)) := by
  obtain ⟨i, hi, hz0, hz1, hz2⟩ := info_parts info_frame
  have h := run_make (P := Try.prog) w 23 42 i _ (by kernel_rfl) hi hz0 .i64 .i64 (K : Int) (K : Int) (by omega) (Int.le_refl _) (by rw [hz2]; omega) (by omega)
  rw [hz1, Int.toNat_natCast] at h
  exact h

theorem make_labels (K : Nat) (hK : K ≤ 2000) (w : World) : (Instr.makeSlice 40 (.int .i64 (K : Int)) (.int .i64 (K : Int))).run Try.prog w =
    .ok (.slice (some ⟨w.heap.size, 0, none⟩) K K) (w.alloc (.cells (madeCells #[.int .i64 0, .int .i64 0] (K * 2)) 44)) := by
  obtain ⟨i, hi, hz0, hz1, hz2⟩ := info_parts info_label
  have h := run_make (P := Try.prog) w 40 44 i _ (by kernel_rfl) hi hz0 .i64 .i64 (K : Int) (K : Int) (by omega) (Int.le_refl _) (by rw [hz2]; omega) (by omega)
  rw [hz1, Int.toNat_natCast] at h
  exact h

theorem in_m1 : InI (-1) := ⟨by decide, by decide⟩

theorem blk_frames {w : World} {G : Nat} {f : FEnt} {u x : Value} (h : Blk w G #[.int .i64 f.fn, .int .i64 f.pc, u, .int .i64 f.base, x] 42) (hf : f.ok) (hu : IsRws 2 encV w u f.locals) (hx : IsRws 2 encL w x f.labels) :
    IsFrames w (.slice (some ⟨G, 0, none⟩) 1 1) [f] := by
  refine ⟨[(u, x)], rfl, ⟨_, 1, rfl, Nat.le_refl _, by simp [maxLen], fun i y hy => ⟨G, 0, rfl, h.lt, fun j v hv => ?_⟩⟩, fun i e v he hv => ?_, fun e he => ?_⟩
  · match i, hy with
    | 0, hy =>
      simp at hy
      subst hy
      have := h.cell j
      rw [Nat.zero_mul, Nat.add_zero, Nat.zero_add, this, ← hv]
      simp [encF]
    | i + 1, hy => simp at hy
  · match i, he, hv with
    | 0, he, hv =>
      simp at he hv
      subst he hv
      exact ⟨hu, hx⟩
    | i + 1, he, hv => simp at he
  · simp at he
    rw [he]
    exact hf

/-- Behind the switch: a state that may be just if n is not above nought. -/
def Lim109 (X : Nat) (n : Int) (w : World) (a' : Act) (w' : World) : Prop :=
  ∃ (s : SEnt) (uv uf : Value), a' = { tmps := #[slot a' 0, .int .i64 n, slot a' 2, slot a' 3, slot a' 4, slot a' 5, slot a' 6, .pointer (some ⟨X, 0, none⟩), slot a' 8, slot a' 9, slot a' 10, slot a' 11, slot a' 12, slot a' 13, slot a' 14, slot a' 15, slot a' 16, slot a' 17, slot a' 18, slot a' 19, slot a' 20, slot a' 21, slot a' 22, slot a' 23, slot a' 24, slot a' 25, slot a' 26, slot a' 27, slot a' 28, slot a' 29, slot a' 30, slot a' 31, slot a' 32, slot a' 33, slot a' 34, slot a' 35, slot a' 36, slot a' 37, slot a' 38, slot a' 39, slot a' 40, slot a' 41, slot a' 42, slot a' 43, slot a' 44, slot a' 45, slot a' 46, slot a' 47, slot a' 48, slot a' 49, slot a' 50, slot a' 51, slot a' 52, slot a' 53, slot a' 54, slot a' 55, slot a' 56, slot a' 57, slot a' 58, slot a' 59, slot a' 60, slot a' 61, slot a' 62, slot a' 63, slot a' 64, slot a' 65, slot a' 66, slot a' 67, slot a' 68, slot a' 69, slot a' 70, slot a' 71, slot a' 72, slot a' 73, slot a' 74, slot a' 75, slot a' 76, slot a' 77, slot a' 78, slot a' 79, slot a' 80, slot a' 81, slot a' 82, slot a' 83, slot a' 84, slot a' 85, slot a' 86, slot a' 87, slot a' 88, slot a' 89, slot a' 90, slot a' 91, slot a' 92, slot a' 93, slot a' 94, slot a' 95, slot a' 96, slot a' 97, slot a' 98, slot a' 99, slot a' 100, slot a' 101, slot a' 102, slot a' 103, slot a' 104, slot a' 105, slot a' 106, slot a' 107, slot a' 108], defers := [] } ∧ Below w.heap.size w w' ∧ Blk w' X #[uv, uf, .int .i64 s.asks] 25 ∧ IsState w' uv uf s ∧ (s.may ↔ n ≤ 0)


set_option maxRecDepth 100000 in
set_option maxHeartbeats 4000000 in
theorem stateLimits_any (which n : Int) (w : World) (h1 : (Lit.int .i64 which).wf = true) (h2 : (Lit.int .i64 n).wf = true) :
    Calls Try.prog 6 #[.int .i64 which, .int .i64 n] w (TrueEnd w) := by
  obtain ⟨c0, c1⟩ := bounds_i64 h1
  obtain ⟨b0, b1⟩ := bounds_i64 h2
  clear h1 h2
  rcases (show which % 4 = 0 ∨ which % 4 = 1 ∨ which % 4 = 2 ∨ which % 4 = 3 by omega) with hp | hp | hp | hp
  · skip
    have hw : bits .and .i64 which 3 = 0 := by rw [i64_and3, hp]
    clear hp
    go_enter Try.func6, Try.ntmps6
    go_wp2_with fail
    refine (stateBegun_any _).mono ?_
    rintro y w1 ⟨rfl, hb⟩
    have hsw1 := hb.size
    by_cases q1 : n < -2
    · have f1 : decide (n < -2) = true := decide_eq_true q1
      go_wp2_with fail
      go_ret
      exact ⟨rfl, hb.alloc hb.size _⟩
    have f1 : decide (n < -2) = false := decide_eq_false q1
    by_cases q2 : 2 < n
    · have f2 : decide (2 < n) = true := decide_eq_true q2
      go_wp2_with fail
      go_ret
      exact ⟨rfl, hb.alloc hb.size _⟩
    have f2 : decide (2 < n) = false := decide_eq_false q2
    obtain ⟨K, hK, hK1⟩ : ∃ K : Nat, (1000 : Int) + n = (K : Int) ∧ K ≤ 2000 := ⟨((1000 : Int) + n).toNat, by omega, by omega⟩
    go_upto_region 9 with fail
    rename_i K23 h23 K9 h9
    obtain ⟨wa, hwa⟩ : ∃ wa, wa = w1.alloc (.cells #[.int .i64 1000, .int .i64 32, .int .i64 32, .int .i64 40] 3) := ⟨_, rfl⟩
    have hsa : wa.heap.size = w1.heap.size + 1 := by rw [hwa]; exact World.size_alloc _ _
    have ba : Below w1.heap.size w1 wa := by rw [hwa]; exact (Below.refl _ _).alloc (Nat.le_refl _) _
    rw [← hwa]
    obtain ⟨wb, hwb⟩ : ∃ wb, wb = wa.alloc (.cells #[.int .i64 0, .int .i64 0, .slice none 0 0, .int .i64 0, .slice none 0 0] 42) := ⟨_, rfl⟩
    have hsb : wb.heap.size = w1.heap.size + 1 + 1 := by rw [hwb, World.size_alloc, hsa]
    have bb : Below wa.heap.size wa wb := by rw [hwb]; exact (Below.refl _ _).alloc (Nat.le_refl _) _
    have hg : Blk wb wa.heap.size #[.int .i64 0, .int .i64 0, .slice none 0 0, .int .i64 0, .slice none 0 0] 42 := by rw [hwb]; exact Blk.new _ _ _
    have hff : IsFrames wb (.slice (some ⟨wa.heap.size, 0, none⟩) 1 1) [F0] := by rw [hwb]; exact lit1_frames wa F0 _ _ F0_ok (IsRws.nil _) (IsRws.nil _)
    rw [← hwb]
    rw [hsa] at hg hff
    have hx := Blk.new wb #[.slice none 0 0, .slice (some ⟨w1.heap.size + 1, 0, none⟩) 1 1, .int .i64 (-1)] 25
    rw [hsb] at hx
    have bc := (Below.refl wb.heap.size wb).alloc (Nat.le_refl _) (.cells #[.slice none 0 0, .slice (some ⟨w1.heap.size + 1, 0, none⟩) 1 1, .int .i64 (-1)] 25)
    have hg := hg.below bc (by omega)
    have hff := hff.below bc
    replace hb := below_next (below_next (below_next hb ba) bb) bc
    obtain ⟨X, hX⟩ : ∃ X, w1.heap.size + 1 + 1 = X := ⟨_, rfl⟩
    obtain ⟨G, hG⟩ : ∃ G, w1.heap.size + 1 = G := ⟨_, rfl⟩
    have hGX : G < X := by omega
    rw [hX, hG] at hx
    rw [hG] at hg hff bc hb
    rw [hX, hG]
    have hsw := hb.size
    have hwG : w.heap.size ≤ G := by omega
    generalize wb.alloc (.cells #[.slice none 0 0, .slice (some ⟨G, 0, none⟩) 1 1, .int .i64 (-1)] 25) = w0 at hx hg hff hb hsw ⊢
    have hX0 := hx.lt
    clear ba bb bc hwa hwb hsa hsb hX hG
    have HX := Lib.hid hx
    have HG := Lib.hid hg
    have HF := Lib.hid hff
    clear hx hg hff
    have HK : Hid (∀ a w', Lim109 X n w a w' → K23 a w') := Lib.hid (by
      clear h9 hb HX HG HF
      intro a' w7 h
      unfold Lim109 at h
      obtain ⟨s, uv, uf, hfr, hb, hbx, hst, hmay⟩ := h
      obtain ⟨f, hf⟩ : ∃ f, f = slot a' := ⟨_, rfl⟩
      rw [← hf] at hfr
      clear hf
      subst hfr
      apply h23
      clear h23
      obtain ⟨hv, hf, -⟩ := id hst
      obtain ⟨av, capv, rfl, _, _, _⟩ := hv
      obtain ⟨af, capf, rfl, _, _⟩ := hf.slice
      have HST := Lib.hid hst
      have HBX := Lib.hid hbx
      clear hf hst hbx
      obtain ⟨x0, x1, x2⟩ := HBX.out.three
      go_wp2_with fail
      refine (encState_any _ _ s w7 HST.out).mono ?_
      rintro y w8 ⟨c, rfl, hb8, hc⟩
      have HST := Lib.hid (HST.out.below hb8)
      have HBX := Lib.hid (HBX.out.below hb8 HBX.out.lt)
      replace hb := below_next hb hb8
      clear x0 x1 x2
      obtain ⟨x0, x1, x2⟩ := HBX.out.three
      by_cases q3 : 0 < n
      · have f3 : decide (0 < n) = true := decide_eq_true q3
        have hnm : ¬ s.may := fun h => by have := hmay.1 h; omega
        rcases hc with ⟨h, -⟩ | ⟨-, rfl⟩
        · exact absurd h hnm
        have HNM := Lib.hid hnm
        clear hmay hnm
        go_wp2_with fail
        refine (mayState_any _ _ s w8 HST.out).mono ?_
        rintro y w9 ⟨rfl, hb9⟩
        rw [decide_eq_false HNM.out]
        replace hb := below_next hb hb9
        clear x0 x1 x2 hb9
        go_wp2_with fail
        go_ret
        exact ⟨rfl, hb⟩
      have f3 : decide (0 < n) = false := decide_eq_false q3
      have hm : s.may := hmay.2 (by omega)
      rcases hc with ⟨-, hc⟩ | ⟨h, -⟩
      rotate_left
      · exact absurd hm h
      obtain ⟨n1, n2⟩ := stateB_len hm HST.out.2.2
      have HM := Lib.hid hm
      have HC := Lib.hid hc.isBytes
      clear hmay hm hc
      go_wp2_with fail
      refine (decState_any _ _ w8 HC.out (by omega)).mono ?_
      rintro y w9 ⟨hb9, uvx, ufx, sx, err, rfl, hstx, hd⟩
      rcases hd with ⟨rfl, hm2, heq⟩ | ⟨-, -, h⟩
      rotate_left
      · exact absurd ⟨_, HM.out, HST.out.2.2, rfl⟩ h
      obtain rfl := stateB_inj hm2 hstx.2.2 HM.out HST.out.2.2 heq
      obtain ⟨hv, hf, -⟩ := id hstx
      obtain ⟨avx, capvx, rfl, _, _, _⟩ := hv
      obtain ⟨afx, capfx, rfl, _, _⟩ := hf.slice
      have hbz := Blk.new w9 #[.slice avx sx.vals.length capvx, .slice afx sx.frames.length capfx, .int .i64 sx.asks] 25
      have hal := (Below.refl w9.heap.size w9).alloc (Nat.le_refl _) (.cells #[.slice avx sx.vals.length capvx, .slice afx sx.frames.length capfx, .int .i64 sx.asks] 25)
      have hbx := below_next hb9 hal
      have HST := Lib.hid (HST.out.below hbx)
      have HBX := Lib.hid (HBX.out.below hbx HBX.out.lt)
      have HSX := Lib.hid (hstx.below hal)
      replace hb := below_next hb hbx
      clear x0 x1 x2 hb9 hal hbx hstx hm2 heq hf HC n1 n2
      obtain ⟨x0, x1, x2⟩ := HBX.out.three
      go_wp2_with fail
      obtain ⟨Z, hZ⟩ : ∃ Z, Z = w9.heap.size := ⟨_, rfl⟩
      rw [← hZ] at hbz ⊢
      clear hZ x0 x1 x2
      generalize w9.alloc (.cells #[.slice avx sx.vals.length capvx, .slice afx sx.frames.length capfx, .int .i64 sx.asks] 25) = wq at hbz HST HBX HSX hb ⊢
      refine (mayState_any _ _ sx wq HST.out).mono ?_
      rintro y w10 ⟨rfl, hb10⟩
      rw [decide_eq_true HM.out]
      have HST := Lib.hid (HST.out.below hb10)
      have HBX := Lib.hid (HBX.out.below hb10 HBX.out.lt)
      have HSX := Lib.hid (HSX.out.below hb10)
      have hbz := hbz.below hb10 hbz.lt
      replace hb := below_next hb hb10
      clear hb10
      obtain ⟨x0, x1, x2⟩ := HBX.out.three
      obtain ⟨y0, y1, y2⟩ := hbz.three
      go_wp2_with fail
      refine (lawEqS_any _ _ _ _ sx sx w10 HSX.out HST.out).mono ?_
      rintro y w11 ⟨r, rfl, hr, hb11⟩
      obtain rfl := hr.2 rfl
      replace hb := below_next hb hb11
      clear hr hb11 x0 x1 x2 y0 y1 y2
      go_wp2_with fail
      go_ret
      exact ⟨rfl, hb⟩)
    clear h23
    have HKN := Lib.hid hK
    clear hK
    obtain ⟨x0, x1, x2⟩ := HX.out.three
    go_wp2_with fail
    clear x0 x1 x2
    refine wp_loop_r (fun a' w' => ∃ (v : Value) (k : Nat), a' = { tmps := #[slot a' 0, .int .i64 n, slot a' 2, slot a' 3, slot a' 4, slot a' 5, slot a' 6, .pointer (some ⟨X, 0, none⟩), .int .i64 K, .int .i64 k, slot a' 10, slot a' 11, slot a' 12, slot a' 13, slot a' 14, slot a' 15, slot a' 16, slot a' 17, slot a' 18, slot a' 19, slot a' 20, slot a' 21, slot a' 22, slot a' 23, slot a' 24, slot a' 25, slot a' 26, slot a' 27, slot a' 28, slot a' 29, slot a' 30, slot a' 31, slot a' 32, slot a' 33, slot a' 34, slot a' 35, slot a' 36, slot a' 37, slot a' 38, slot a' 39, slot a' 40, slot a' 41, slot a' 42, slot a' 43, slot a' 44, slot a' 45, slot a' 46, slot a' 47, slot a' 48, slot a' 49, slot a' 50, slot a' 51, slot a' 52, slot a' 53, slot a' 54, slot a' 55, slot a' 56, slot a' 57, slot a' 58, slot a' 59, slot a' 60, slot a' 61, slot a' 62, slot a' 63, slot a' 64, slot a' 65, slot a' 66, slot a' 67, slot a' 68, slot a' 69, slot a' 70, slot a' 71, slot a' 72, slot a' 73, slot a' 74, slot a' 75, slot a' 76, slot a' 77, slot a' 78, slot a' 79, slot a' 80, slot a' 81, slot a' 82, slot a' 83, slot a' 84, slot a' 85, slot a' 86, slot a' 87, slot a' 88, slot a' 89, slot a' 90, slot a' 91, slot a' 92, slot a' 93, slot a' 94, slot a' 95, slot a' 96, slot a' 97, slot a' 98, slot a' 99, slot a' 100, slot a' 101, slot a' 102, slot a' 103, slot a' 104, slot a' 105, slot a' 106, slot a' 107, slot a' 108], defers := [] } ∧ LimJ 1 K X (fun v => #[v, .slice (some ⟨G, 0, none⟩) 1 1, .int .i64 (-1)]) 25 w0 w' v k) (fun a' _ => (K - (intOf (a'.tmps.getD 9 undef)).toNat)) ?_ ?_
    · exact ⟨_, 0, rfl, by omega, HX.out, OwnRws.nil _ _, Keeps.refl _ _⟩
    rintro R a' wr ⟨v, k, hfr, hJ⟩ HR
    obtain ⟨f, hf⟩ : ∃ f, f = slot a' := ⟨_, rfl⟩
    rw [← hf] at hfr
    clear hf
    subst hfr
    obtain ⟨hk, hbx, hov, hkk⟩ := hJ
    have hsr := hkk.size
    obtain ⟨x0, x1, x2⟩ := hbx.three
    have hgl := LimVals_len 1 k
    by_cases hkl : k < K
    rotate_left
    · obtain rfl : k = K := by omega
      have HBX := Lib.hid hbx
      have HOV := Lib.hid hov
      have HKK := Lib.hid hkk
      clear hbx hov hkk hgl
      go_wp2_with fail
      refine HK.out _ _ ⟨⟨LimVals 1 k, [F0], -1⟩, _, _, rfl, hb.trans (HKK.out.below hb.size (fun i h => by omega)), HBX.out, ⟨HOV.out.isRws encV_len, ?_, in_m1, fun v hv => ?_, fun f hf => ?_⟩, ?_⟩
      · exact blk_frames (f := F0) (HG.out.keeps HKK.out (by omega)) F0_ok (IsRws.nil _) (IsRws.nil _)
      · obtain ⟨h1, h2, h3⟩ := LimVals_mem (show v ∈ LimVals 1 _ from hv)
        exact ⟨⟨by omega, by omega⟩, by omega, by omega⟩
      · obtain rfl := List.mem_singleton.1 hf
        exact F0_ok
      · have := HKN.out
        refine ⟨fun h => by have h1 : (LimVals 1 k).length ≤ 1000 := h.1; rw [LimVals_len] at h1; omega, fun h => ⟨by show (LimVals 1 k).length ≤ 1000; rw [LimVals_len]; omega, by show 1 ≤ 32; omega, by show (-1 : Int) ≤ -1; omega, by show (-1 : Int) ≤ 10000; omega, fun v hv => ?_, fun f hf => ?_⟩⟩
        · obtain ⟨h1, h2, h3⟩ := LimVals_mem (show v ∈ LimVals 1 _ from hv)
          exact .inr ⟨h1, by omega, by omega⟩
        · obtain rfl := List.mem_singleton.1 hf
          exact F0_may
    have HOV := Lib.hid hov
    go_wp2_with (first | (at_builtin; refine Stop.out ?_))
    change wpList _ _ _ _ _ (World.alloc _ (.cells #[.int .i64 1, .int .i64 (k : Int)] 39))
    refine wpList_row1 wr rfl _ _ 22 rfl _ 16 (by kernel_rfl) info_val rfl (by decide) (by decide) w0.heap.size v (LimVals 1 k) rfl HOV.out (⟨1, (k : Int)⟩ : VEnt) _ rfl rfl (encV_one _) rfl (by omega) (by omega) ?_
    intro v3 w3 ho3 hk3 hs3
    have hown : ∀ i, OwnB v i → w0.heap.size ≤ i := fun i hi => (own_lt HOV.out hi).1
    have hbx3 := hbx.keeps hk3 (fun h => by have := hown _ h; omega)
    have hkk3 := hkk.trans hk3 (fun i h => .inr (hown i h))
    rw [LimVals_succ] at ho3
    generalize hL : LimVals 1 (k + 1) = L at ho3
    have HL := Lib.hid hL
    obtain ⟨a3, cap3, rfl, _, _, _⟩ := ho3.isRws encV_len
    have z0 := hbx3.free 0
    clear hL x0 x1 x2 hk3 hs3 hov
    obtain ⟨x0, x1, x2⟩ := hbx3.three
    have hkx := setKeeps w3 X 0 (.slice a3 L.length cap3)
    have hlx := ho3.keeps hkx (fun i hi => by have := (own_lt ho3 hi).1; omega)
    have hbxx := hbx3.set 0 (.slice a3 L.length cap3)
    have hkkx := hkk3.trans hkx (fun i h => .inl h)
    have HLX := Lib.hid hlx
    have HBXX := Lib.hid hbxx
    clear hlx hbxx hkx ho3 hbx3 hkk3
    go_wp2_with fail
    refine HR.out _ _ ⟨_, k + 1, rfl, by omega, by simpa using HBXX.out, ?_, hkkx⟩ ?_
    · rw [HL.out]
      exact HLX.out
    · simp [intOf]
      omega
  · skip
    have hw : bits .and .i64 which 3 = 1 := by rw [i64_and3, hp]
    clear hp
    go_enter Try.func6, Try.ntmps6
    go_wp2_with fail
    refine (stateBegun_any _).mono ?_
    rintro y w1 ⟨rfl, hb⟩
    have hsw1 := hb.size
    by_cases q1 : n < -2
    · have f1 : decide (n < -2) = true := decide_eq_true q1
      go_wp2_with fail
      go_ret
      exact ⟨rfl, hb.alloc hb.size _⟩
    have f1 : decide (n < -2) = false := decide_eq_false q1
    by_cases q2 : 2 < n
    · have f2 : decide (2 < n) = true := decide_eq_true q2
      go_wp2_with fail
      go_ret
      exact ⟨rfl, hb.alloc hb.size _⟩
    have f2 : decide (2 < n) = false := decide_eq_false q2
    obtain ⟨K, hK, hK1⟩ : ∃ K : Nat, (32 : Int) + n = (K : Int) ∧ K ≤ 2000 := ⟨((32 : Int) + n).toNat, by omega, by omega⟩
    go_upto_region 9 with fail
    rename_i K23 h23 K9 h9
    obtain ⟨wa, hwa⟩ : ∃ wa, wa = w1.alloc (.cells #[.int .i64 1000, .int .i64 32, .int .i64 32, .int .i64 40] 3) := ⟨_, rfl⟩
    have hsa : wa.heap.size = w1.heap.size + 1 := by rw [hwa]; exact World.size_alloc _ _
    have ba : Below w1.heap.size w1 wa := by rw [hwa]; exact (Below.refl _ _).alloc (Nat.le_refl _) _
    rw [← hwa]
    obtain ⟨wb, hwb⟩ : ∃ wb, wb = wa.alloc (.cells #[.int .i64 0, .int .i64 0, .slice none 0 0, .int .i64 0, .slice none 0 0] 42) := ⟨_, rfl⟩
    have hsb : wb.heap.size = w1.heap.size + 1 + 1 := by rw [hwb, World.size_alloc, hsa]
    have bb : Below wa.heap.size wa wb := by rw [hwb]; exact (Below.refl _ _).alloc (Nat.le_refl _) _
    have hg : Blk wb wa.heap.size #[.int .i64 0, .int .i64 0, .slice none 0 0, .int .i64 0, .slice none 0 0] 42 := by rw [hwb]; exact Blk.new _ _ _
    have hff : IsFrames wb (.slice (some ⟨wa.heap.size, 0, none⟩) 1 1) [F0] := by rw [hwb]; exact lit1_frames wa F0 _ _ F0_ok (IsRws.nil _) (IsRws.nil _)
    rw [← hwb]
    rw [hsa] at hg hff
    have hx := Blk.new wb #[.slice none 0 0, .slice (some ⟨w1.heap.size + 1, 0, none⟩) 1 1, .int .i64 (-1)] 25
    rw [hsb] at hx
    have bc := (Below.refl wb.heap.size wb).alloc (Nat.le_refl _) (.cells #[.slice none 0 0, .slice (some ⟨w1.heap.size + 1, 0, none⟩) 1 1, .int .i64 (-1)] 25)
    have hg := hg.below bc (by omega)
    have hff := hff.below bc
    replace hb := below_next (below_next (below_next hb ba) bb) bc
    obtain ⟨X, hX⟩ : ∃ X, w1.heap.size + 1 + 1 = X := ⟨_, rfl⟩
    obtain ⟨G, hG⟩ : ∃ G, w1.heap.size + 1 = G := ⟨_, rfl⟩
    have hGX : G < X := by omega
    rw [hX, hG] at hx
    rw [hG] at hg hff bc hb
    rw [hX, hG]
    have hsw := hb.size
    have hwG : w.heap.size ≤ G := by omega
    generalize wb.alloc (.cells #[.slice none 0 0, .slice (some ⟨G, 0, none⟩) 1 1, .int .i64 (-1)] 25) = w0 at hx hg hff hb hsw ⊢
    have hX0 := hx.lt
    clear ba bb bc hwa hwb hsa hsb hX hG
    have HX := Lib.hid hx
    have HG := Lib.hid hg
    have HF := Lib.hid hff
    clear hx hg hff
    have HK : Hid (∀ a w', Lim109 X n w a w' → K23 a w') := Lib.hid (by
      clear h9 hb HX HG HF
      intro a' w7 h
      unfold Lim109 at h
      obtain ⟨s, uv, uf, hfr, hb, hbx, hst, hmay⟩ := h
      obtain ⟨f, hf⟩ : ∃ f, f = slot a' := ⟨_, rfl⟩
      rw [← hf] at hfr
      clear hf
      subst hfr
      apply h23
      clear h23
      obtain ⟨hv, hf, -⟩ := id hst
      obtain ⟨av, capv, rfl, _, _, _⟩ := hv
      obtain ⟨af, capf, rfl, _, _⟩ := hf.slice
      have HST := Lib.hid hst
      have HBX := Lib.hid hbx
      clear hf hst hbx
      obtain ⟨x0, x1, x2⟩ := HBX.out.three
      go_wp2_with fail
      refine (encState_any _ _ s w7 HST.out).mono ?_
      rintro y w8 ⟨c, rfl, hb8, hc⟩
      have HST := Lib.hid (HST.out.below hb8)
      have HBX := Lib.hid (HBX.out.below hb8 HBX.out.lt)
      replace hb := below_next hb hb8
      clear x0 x1 x2
      obtain ⟨x0, x1, x2⟩ := HBX.out.three
      by_cases q3 : 0 < n
      · have f3 : decide (0 < n) = true := decide_eq_true q3
        have hnm : ¬ s.may := fun h => by have := hmay.1 h; omega
        rcases hc with ⟨h, -⟩ | ⟨-, rfl⟩
        · exact absurd h hnm
        have HNM := Lib.hid hnm
        clear hmay hnm
        go_wp2_with fail
        refine (mayState_any _ _ s w8 HST.out).mono ?_
        rintro y w9 ⟨rfl, hb9⟩
        rw [decide_eq_false HNM.out]
        replace hb := below_next hb hb9
        clear x0 x1 x2 hb9
        go_wp2_with fail
        go_ret
        exact ⟨rfl, hb⟩
      have f3 : decide (0 < n) = false := decide_eq_false q3
      have hm : s.may := hmay.2 (by omega)
      rcases hc with ⟨-, hc⟩ | ⟨h, -⟩
      rotate_left
      · exact absurd hm h
      obtain ⟨n1, n2⟩ := stateB_len hm HST.out.2.2
      have HM := Lib.hid hm
      have HC := Lib.hid hc.isBytes
      clear hmay hm hc
      go_wp2_with fail
      refine (decState_any _ _ w8 HC.out (by omega)).mono ?_
      rintro y w9 ⟨hb9, uvx, ufx, sx, err, rfl, hstx, hd⟩
      rcases hd with ⟨rfl, hm2, heq⟩ | ⟨-, -, h⟩
      rotate_left
      · exact absurd ⟨_, HM.out, HST.out.2.2, rfl⟩ h
      obtain rfl := stateB_inj hm2 hstx.2.2 HM.out HST.out.2.2 heq
      obtain ⟨hv, hf, -⟩ := id hstx
      obtain ⟨avx, capvx, rfl, _, _, _⟩ := hv
      obtain ⟨afx, capfx, rfl, _, _⟩ := hf.slice
      have hbz := Blk.new w9 #[.slice avx sx.vals.length capvx, .slice afx sx.frames.length capfx, .int .i64 sx.asks] 25
      have hal := (Below.refl w9.heap.size w9).alloc (Nat.le_refl _) (.cells #[.slice avx sx.vals.length capvx, .slice afx sx.frames.length capfx, .int .i64 sx.asks] 25)
      have hbx := below_next hb9 hal
      have HST := Lib.hid (HST.out.below hbx)
      have HBX := Lib.hid (HBX.out.below hbx HBX.out.lt)
      have HSX := Lib.hid (hstx.below hal)
      replace hb := below_next hb hbx
      clear x0 x1 x2 hb9 hal hbx hstx hm2 heq hf HC n1 n2
      obtain ⟨x0, x1, x2⟩ := HBX.out.three
      go_wp2_with fail
      obtain ⟨Z, hZ⟩ : ∃ Z, Z = w9.heap.size := ⟨_, rfl⟩
      rw [← hZ] at hbz ⊢
      clear hZ x0 x1 x2
      generalize w9.alloc (.cells #[.slice avx sx.vals.length capvx, .slice afx sx.frames.length capfx, .int .i64 sx.asks] 25) = wq at hbz HST HBX HSX hb ⊢
      refine (mayState_any _ _ sx wq HST.out).mono ?_
      rintro y w10 ⟨rfl, hb10⟩
      rw [decide_eq_true HM.out]
      have HST := Lib.hid (HST.out.below hb10)
      have HBX := Lib.hid (HBX.out.below hb10 HBX.out.lt)
      have HSX := Lib.hid (HSX.out.below hb10)
      have hbz := hbz.below hb10 hbz.lt
      replace hb := below_next hb hb10
      clear hb10
      obtain ⟨x0, x1, x2⟩ := HBX.out.three
      obtain ⟨y0, y1, y2⟩ := hbz.three
      go_wp2_with fail
      refine (lawEqS_any _ _ _ _ sx sx w10 HSX.out HST.out).mono ?_
      rintro y w11 ⟨r, rfl, hr, hb11⟩
      obtain rfl := hr.2 rfl
      replace hb := below_next hb hb11
      clear hr hb11 x0 x1 x2 y0 y1 y2
      go_wp2_with fail
      go_ret
      exact ⟨rfl, hb⟩)
    clear h23
    have HKN := Lib.hid hK
    clear hK
    obtain ⟨x0, x1, x2⟩ := HX.out.three
    have z1 := HX.out.free 1
    have hmk := make_frames K hK1
    go_wp2_with fail
    clear x0 x1 x2 z1 hmk
    have hszs : (w0.setCell ⟨X, 1, none⟩ (.slice (some ⟨w0.heap.size, 0, none⟩) K K)).heap.size = w0.heap.size := by simp
    have hm := made_frames K (by simp only [maxLen]; omega) (w0.setCell ⟨X, 1, none⟩ (.slice (some ⟨w0.heap.size, 0, none⟩) K K))
    rw [hszs] at hm
    have hka := (setKeeps w0 X 1 (.slice (some ⟨w0.heap.size, 0, none⟩) K K)).alloc (.cells (madeCells #[.int .i64 0, .int .i64 0, .slice none 0 0, .int .i64 0, .slice none 0 0] (K * 5)) 42)
    have hbx := (HX.out.set 1 (.slice (some ⟨w0.heap.size, 0, none⟩) K K)).alloc (.cells (madeCells #[.int .i64 0, .int .i64 0, .slice none 0 0, .int .i64 0, .slice none 0 0] (K * 5)) 42)
    refine HK.out _ _ ⟨⟨[], List.replicate K F0, -1⟩, _, _, rfl, hb.trans (hka.below hb.size (fun i h => by omega)), by simpa using hbx, ⟨IsRws.nil _, hm, in_m1, by simp, fun f hf => by rw [List.eq_of_mem_replicate hf]; exact F0_ok⟩, ?_⟩
    have := HKN.out
    refine ⟨fun h => by have h1 : (List.replicate K F0).length ≤ 32 := h.2.1; rw [List.length_replicate] at h1; omega, fun h => ⟨by show 0 ≤ 1000; omega, by show (List.replicate K F0).length ≤ 32; rw [List.length_replicate]; omega, by show (-1 : Int) ≤ -1; omega, by show (-1 : Int) ≤ 10000; omega, by simp, fun f hf => ?_⟩⟩
    rw [List.eq_of_mem_replicate hf]
    exact F0_may
  · skip
    have hw : bits .and .i64 which 3 = 2 := by rw [i64_and3, hp]
    clear hp
    go_enter Try.func6, Try.ntmps6
    go_wp2_with fail
    refine (stateBegun_any _).mono ?_
    rintro y w1 ⟨rfl, hb⟩
    have hsw1 := hb.size
    by_cases q1 : n < -2
    · have f1 : decide (n < -2) = true := decide_eq_true q1
      go_wp2_with fail
      go_ret
      exact ⟨rfl, hb.alloc hb.size _⟩
    have f1 : decide (n < -2) = false := decide_eq_false q1
    by_cases q2 : 2 < n
    · have f2 : decide (2 < n) = true := decide_eq_true q2
      go_wp2_with fail
      go_ret
      exact ⟨rfl, hb.alloc hb.size _⟩
    have f2 : decide (2 < n) = false := decide_eq_false q2
    obtain ⟨K, hK, hK1⟩ : ∃ K : Nat, (32 : Int) + n = (K : Int) ∧ K ≤ 2000 := ⟨((32 : Int) + n).toNat, by omega, by omega⟩
    go_upto_region 9 with fail
    rename_i K23 h23 K9 h9
    obtain ⟨wa, hwa⟩ : ∃ wa, wa = w1.alloc (.cells #[.int .i64 1000, .int .i64 32, .int .i64 32, .int .i64 40] 3) := ⟨_, rfl⟩
    have hsa : wa.heap.size = w1.heap.size + 1 := by rw [hwa]; exact World.size_alloc _ _
    have ba : Below w1.heap.size w1 wa := by rw [hwa]; exact (Below.refl _ _).alloc (Nat.le_refl _) _
    rw [← hwa]
    obtain ⟨wb, hwb⟩ : ∃ wb, wb = wa.alloc (.cells #[.int .i64 0, .int .i64 0, .slice none 0 0, .int .i64 0, .slice none 0 0] 42) := ⟨_, rfl⟩
    have hsb : wb.heap.size = w1.heap.size + 1 + 1 := by rw [hwb, World.size_alloc, hsa]
    have bb : Below wa.heap.size wa wb := by rw [hwb]; exact (Below.refl _ _).alloc (Nat.le_refl _) _
    have hg : Blk wb wa.heap.size #[.int .i64 0, .int .i64 0, .slice none 0 0, .int .i64 0, .slice none 0 0] 42 := by rw [hwb]; exact Blk.new _ _ _
    have hff : IsFrames wb (.slice (some ⟨wa.heap.size, 0, none⟩) 1 1) [F0] := by rw [hwb]; exact lit1_frames wa F0 _ _ F0_ok (IsRws.nil _) (IsRws.nil _)
    rw [← hwb]
    rw [hsa] at hg hff
    have hx := Blk.new wb #[.slice none 0 0, .slice (some ⟨w1.heap.size + 1, 0, none⟩) 1 1, .int .i64 (-1)] 25
    rw [hsb] at hx
    have bc := (Below.refl wb.heap.size wb).alloc (Nat.le_refl _) (.cells #[.slice none 0 0, .slice (some ⟨w1.heap.size + 1, 0, none⟩) 1 1, .int .i64 (-1)] 25)
    have hg := hg.below bc (by omega)
    have hff := hff.below bc
    replace hb := below_next (below_next (below_next hb ba) bb) bc
    obtain ⟨X, hX⟩ : ∃ X, w1.heap.size + 1 + 1 = X := ⟨_, rfl⟩
    obtain ⟨G, hG⟩ : ∃ G, w1.heap.size + 1 = G := ⟨_, rfl⟩
    have hGX : G < X := by omega
    rw [hX, hG] at hx
    rw [hG] at hg hff bc hb
    rw [hX, hG]
    have hsw := hb.size
    have hwG : w.heap.size ≤ G := by omega
    generalize wb.alloc (.cells #[.slice none 0 0, .slice (some ⟨G, 0, none⟩) 1 1, .int .i64 (-1)] 25) = w0 at hx hg hff hb hsw ⊢
    have hX0 := hx.lt
    clear ba bb bc hwa hwb hsa hsb hX hG
    have HX := Lib.hid hx
    have HG := Lib.hid hg
    have HF := Lib.hid hff
    clear hx hg hff
    have HK : Hid (∀ a w', Lim109 X n w a w' → K23 a w') := Lib.hid (by
      clear h9 hb HX HG HF
      intro a' w7 h
      unfold Lim109 at h
      obtain ⟨s, uv, uf, hfr, hb, hbx, hst, hmay⟩ := h
      obtain ⟨f, hf⟩ : ∃ f, f = slot a' := ⟨_, rfl⟩
      rw [← hf] at hfr
      clear hf
      subst hfr
      apply h23
      clear h23
      obtain ⟨hv, hf, -⟩ := id hst
      obtain ⟨av, capv, rfl, _, _, _⟩ := hv
      obtain ⟨af, capf, rfl, _, _⟩ := hf.slice
      have HST := Lib.hid hst
      have HBX := Lib.hid hbx
      clear hf hst hbx
      obtain ⟨x0, x1, x2⟩ := HBX.out.three
      go_wp2_with fail
      refine (encState_any _ _ s w7 HST.out).mono ?_
      rintro y w8 ⟨c, rfl, hb8, hc⟩
      have HST := Lib.hid (HST.out.below hb8)
      have HBX := Lib.hid (HBX.out.below hb8 HBX.out.lt)
      replace hb := below_next hb hb8
      clear x0 x1 x2
      obtain ⟨x0, x1, x2⟩ := HBX.out.three
      by_cases q3 : 0 < n
      · have f3 : decide (0 < n) = true := decide_eq_true q3
        have hnm : ¬ s.may := fun h => by have := hmay.1 h; omega
        rcases hc with ⟨h, -⟩ | ⟨-, rfl⟩
        · exact absurd h hnm
        have HNM := Lib.hid hnm
        clear hmay hnm
        go_wp2_with fail
        refine (mayState_any _ _ s w8 HST.out).mono ?_
        rintro y w9 ⟨rfl, hb9⟩
        rw [decide_eq_false HNM.out]
        replace hb := below_next hb hb9
        clear x0 x1 x2 hb9
        go_wp2_with fail
        go_ret
        exact ⟨rfl, hb⟩
      have f3 : decide (0 < n) = false := decide_eq_false q3
      have hm : s.may := hmay.2 (by omega)
      rcases hc with ⟨-, hc⟩ | ⟨h, -⟩
      rotate_left
      · exact absurd hm h
      obtain ⟨n1, n2⟩ := stateB_len hm HST.out.2.2
      have HM := Lib.hid hm
      have HC := Lib.hid hc.isBytes
      clear hmay hm hc
      go_wp2_with fail
      refine (decState_any _ _ w8 HC.out (by omega)).mono ?_
      rintro y w9 ⟨hb9, uvx, ufx, sx, err, rfl, hstx, hd⟩
      rcases hd with ⟨rfl, hm2, heq⟩ | ⟨-, -, h⟩
      rotate_left
      · exact absurd ⟨_, HM.out, HST.out.2.2, rfl⟩ h
      obtain rfl := stateB_inj hm2 hstx.2.2 HM.out HST.out.2.2 heq
      obtain ⟨hv, hf, -⟩ := id hstx
      obtain ⟨avx, capvx, rfl, _, _, _⟩ := hv
      obtain ⟨afx, capfx, rfl, _, _⟩ := hf.slice
      have hbz := Blk.new w9 #[.slice avx sx.vals.length capvx, .slice afx sx.frames.length capfx, .int .i64 sx.asks] 25
      have hal := (Below.refl w9.heap.size w9).alloc (Nat.le_refl _) (.cells #[.slice avx sx.vals.length capvx, .slice afx sx.frames.length capfx, .int .i64 sx.asks] 25)
      have hbx := below_next hb9 hal
      have HST := Lib.hid (HST.out.below hbx)
      have HBX := Lib.hid (HBX.out.below hbx HBX.out.lt)
      have HSX := Lib.hid (hstx.below hal)
      replace hb := below_next hb hbx
      clear x0 x1 x2 hb9 hal hbx hstx hm2 heq hf HC n1 n2
      obtain ⟨x0, x1, x2⟩ := HBX.out.three
      go_wp2_with fail
      obtain ⟨Z, hZ⟩ : ∃ Z, Z = w9.heap.size := ⟨_, rfl⟩
      rw [← hZ] at hbz ⊢
      clear hZ x0 x1 x2
      generalize w9.alloc (.cells #[.slice avx sx.vals.length capvx, .slice afx sx.frames.length capfx, .int .i64 sx.asks] 25) = wq at hbz HST HBX HSX hb ⊢
      refine (mayState_any _ _ sx wq HST.out).mono ?_
      rintro y w10 ⟨rfl, hb10⟩
      rw [decide_eq_true HM.out]
      have HST := Lib.hid (HST.out.below hb10)
      have HBX := Lib.hid (HBX.out.below hb10 HBX.out.lt)
      have HSX := Lib.hid (HSX.out.below hb10)
      have hbz := hbz.below hb10 hbz.lt
      replace hb := below_next hb hb10
      clear hb10
      obtain ⟨x0, x1, x2⟩ := HBX.out.three
      obtain ⟨y0, y1, y2⟩ := hbz.three
      go_wp2_with fail
      refine (lawEqS_any _ _ _ _ sx sx w10 HSX.out HST.out).mono ?_
      rintro y w11 ⟨r, rfl, hr, hb11⟩
      obtain rfl := hr.2 rfl
      replace hb := below_next hb hb11
      clear hr hb11 x0 x1 x2 y0 y1 y2
      go_wp2_with fail
      go_ret
      exact ⟨rfl, hb⟩)
    clear h23
    have HKN := Lib.hid hK
    clear hK
    go_wp2_with fail
    refine wp_loop_r (fun a' w' => ∃ (v : Value) (k : Nat), a' = { tmps := #[slot a' 0, .int .i64 n, slot a' 2, slot a' 3, slot a' 4, slot a' 5, slot a' 6, .pointer (some ⟨X, 0, none⟩), .int .i64 K, slot a' 9, .int .i64 k, slot a' 11, slot a' 12, slot a' 13, slot a' 14, slot a' 15, slot a' 16, slot a' 17, slot a' 18, slot a' 19, slot a' 20, slot a' 21, slot a' 22, slot a' 23, slot a' 24, slot a' 25, slot a' 26, slot a' 27, slot a' 28, slot a' 29, slot a' 30, slot a' 31, slot a' 32, slot a' 33, slot a' 34, slot a' 35, slot a' 36, slot a' 37, slot a' 38, slot a' 39, slot a' 40, slot a' 41, slot a' 42, slot a' 43, slot a' 44, slot a' 45, slot a' 46, slot a' 47, slot a' 48, slot a' 49, slot a' 50, slot a' 51, slot a' 52, slot a' 53, slot a' 54, slot a' 55, slot a' 56, slot a' 57, slot a' 58, slot a' 59, slot a' 60, slot a' 61, slot a' 62, slot a' 63, slot a' 64, slot a' 65, slot a' 66, slot a' 67, slot a' 68, slot a' 69, slot a' 70, slot a' 71, slot a' 72, slot a' 73, slot a' 74, slot a' 75, slot a' 76, slot a' 77, slot a' 78, slot a' 79, slot a' 80, slot a' 81, slot a' 82, slot a' 83, slot a' 84, slot a' 85, slot a' 86, slot a' 87, slot a' 88, slot a' 89, slot a' 90, slot a' 91, slot a' 92, slot a' 93, slot a' 94, slot a' 95, slot a' 96, slot a' 97, slot a' 98, slot a' 99, slot a' 100, slot a' 101, slot a' 102, slot a' 103, slot a' 104, slot a' 105, slot a' 106, slot a' 107, slot a' 108], defers := [] } ∧ LimJ 2 K G (fun v => #[.int .i64 0, .int .i64 0, v, .int .i64 0, .slice none 0 0]) 42 w0 w' v k) (fun a' _ => (K - (intOf (a'.tmps.getD 10 undef)).toNat)) ?_ ?_
    · exact ⟨_, 0, rfl, by omega, HG.out, OwnRws.nil _ _, Keeps.refl _ _⟩
    rintro R a' wr ⟨v, k, hfr, hJ⟩ HR
    obtain ⟨f, hf⟩ : ∃ f, f = slot a' := ⟨_, rfl⟩
    rw [← hf] at hfr
    clear hf
    subst hfr
    obtain ⟨hk, hbg, hov, hkk⟩ := hJ
    have hsr := hkk.size
    have hbx := HX.out.keeps hkk (by omega)
    have hgl := LimVals_len 2 k
    by_cases hkl : k < K
    rotate_left
    · obtain rfl : k = K := by omega
      have HBX := Lib.hid hbx
      have HBG := Lib.hid hbg
      have HOV := Lib.hid hov
      have HKK := Lib.hid hkk
      clear hbx hbg hov hkk hgl
      go_wp2_with fail
      have hok : FEnt.ok ⟨0, 0, LimVals 2 k, 0, []⟩ := ⟨⟨by show (-9223372036854775808 : Int) ≤ 0; omega, by show (0 : Int) ≤ 9223372036854775807; omega⟩, ⟨by show (-9223372036854775808 : Int) ≤ 0; omega, by show (0 : Int) ≤ 9223372036854775807; omega⟩, ⟨by show (-9223372036854775808 : Int) ≤ 0; omega, by show (0 : Int) ≤ 9223372036854775807; omega⟩, fun v hv => by
        obtain ⟨h1, h2, h3⟩ := LimVals_mem (show v ∈ LimVals 2 _ from hv)
        exact ⟨⟨by omega, by omega⟩, by omega, by omega⟩, by simp⟩
      refine HK.out _ _ ⟨⟨[], [⟨0, 0, LimVals 2 k, 0, []⟩], -1⟩, _, _, rfl, hb.trans (HKK.out.below hb.size (fun i h => by omega)), HBX.out, ⟨IsRws.nil _, blk_frames (f := ⟨0, 0, LimVals 2 k, 0, []⟩) HBG.out hok (HOV.out.isRws encV_len) (IsRws.nil _), in_m1, by simp, fun f hf => ?_⟩, ?_⟩
      · obtain rfl := List.mem_singleton.1 hf
        exact hok
      · have := HKN.out
        refine ⟨fun h => ?_, fun h => ⟨by show 0 ≤ 1000; omega, by show 1 ≤ 32; omega, by show (-1 : Int) ≤ -1; omega, by show (-1 : Int) ≤ 10000; omega, by simp, fun f hf => ?_⟩⟩
        · have h1 : (LimVals 2 k).length ≤ 32 := (h.2.2.2.2.2 _ (List.mem_singleton.2 rfl)).2.2.1
          rw [LimVals_len] at h1
          omega
        · obtain rfl := List.mem_singleton.1 hf
          refine ⟨by simp, by show 0 ≤ 40; omega, by show (LimVals 2 k).length ≤ 32; rw [LimVals_len]; omega, fun v hv => ?_, ⟨by show (0 : Int) ≤ 0; omega, by show (0 : Int) ≤ 10000; omega⟩, ⟨by show (0 : Int) ≤ 0; omega, by show (0 : Int) ≤ 10000; omega⟩, ⟨by show (0 : Int) ≤ 0; omega, by show (0 : Int) ≤ 10000; omega⟩⟩
          obtain ⟨h1, h2, h3⟩ := LimVals_mem (show v ∈ LimVals 2 _ from hv)
          exact .inl h1
    have HOV := Lib.hid hov
    have HBX := Lib.hid hbx
    have HBG := Lib.hid hbg
    have hXr := hbx.lt
    have hGr := hbg.lt
    clear hov hbx hbg
    go_wp2_with fail
    refine wp_region_last (fun w' => w'.cell? ⟨X, 1, none⟩ = some (.slice (some ⟨G, 0, none⟩) 1 1) ∧ w'.cell? ⟨G, 2, none⟩ = some v) 13
      [(0, true), (1, true), (2, true), (3, true), (4, true), (5, true), (6, true), (7, true), (8, true), (9, false), (10, false), (11, true), (12, true)] (by kernel_rfl) (by kernel_rfl) ⟨HBX.out.cell 1, HBG.out.cell 2⟩ ?_
    iterate 9 (first | (apply seg_skip rfl rfl; simp only [Act.put, List.setIfInBounds_toArray, List.set_cons_succ, List.set_cons_zero]) | (apply seg_pure rfl rfl rfl; · (rintro w' ⟨t0, t1⟩; go_wp2; exact ⟨rfl, rfl, rfl⟩)))
    refine seg_loud rfl rfl ?_
    go_wp2_with fail
    refine ⟨⟨(HBX.out.drew.alloc _).cell 1, (HBG.out.drew.alloc _).cell 2⟩, ?_⟩
    refine seg_loud rfl rfl ?_
    refine wpList_row1 wr.drew rfl _ _ 22 rfl _ 16 (by kernel_rfl) info_val rfl (by decide) (by decide) w0.heap.size v (LimVals 2 k) rfl HOV.out (⟨2, (k : Int)⟩ : VEnt) _ rfl rfl (encV_one _) rfl (by omega) (by show w0.heap.size ≤ wr.heap.size; omega) ?_
    intro v3 w3 ho3 hk3 hs3
    have hown : ∀ i, OwnB v i → w0.heap.size ≤ i := fun i hi => (own_lt HOV.out hi).1
    have hbx3 := HBX.out.drew.keeps hk3 (fun h => by have := hown _ h; omega)
    have hbg3 := HBG.out.drew.keeps hk3 (fun h => by have := hown _ h; omega)
    have hkk3 := hkk.trans hk3.undrew (fun i h => .inr (hown i h))
    rw [LimVals_succ] at ho3
    generalize hL : LimVals 2 (k + 1) = L at ho3
    have HL := Lib.hid hL
    obtain ⟨a3, cap3, rfl, _, _, _⟩ := ho3.isRws encV_len
    clear hL hk3 hs3
    have z2 := hbg3.free 2
    have x2 : w3.cell? ⟨G, 2, none⟩ = some v := hbg3.cell 2
    have HBX3 := Lib.hid hbx3
    go_wp2_with fail
    refine ⟨⟨HBX3.out.cell 1, hbg3.cell 2⟩, ?_⟩
    iterate 2 (first | (apply seg_skip rfl rfl; simp only [Act.put, List.setIfInBounds_toArray, List.set_cons_succ, List.set_cons_zero]) | (apply seg_pure rfl rfl rfl; · (rintro w' ⟨t0, t1⟩; go_wp2; exact ⟨rfl, rfl, rfl⟩)))
    refine seg_last rfl rfl ?_
    have hkx := setKeeps w3 G 2 (.slice a3 L.length cap3)
    have hlx := ho3.keeps hkx (fun i hi => by have := (own_lt ho3 hi).1; omega)
    have hbgx := hbg3.set 2 (.slice a3 L.length cap3)
    have hkkx := hkk3.trans hkx (fun i h => .inl h)
    have HLX := Lib.hid hlx
    have HBGX := Lib.hid hbgx
    clear hlx hbgx hkx ho3 hbg3 hbx3 hkk3
    go_wp2_with fail
    refine ⟨trivial, ?_⟩
    refine NoPanic.normal ?_
    go_wp2_with fail
    refine HR.out _ _ ⟨_, k + 1, rfl, by omega, by simpa using HBGX.out, ?_, hkkx⟩ ?_
    · rw [HL.out]
      exact HLX.out
    · simp [intOf]
      omega
  · skip
    have hw : bits .and .i64 which 3 = 3 := by rw [i64_and3, hp]
    clear hp
    go_enter Try.func6, Try.ntmps6
    go_wp2_with fail
    refine (stateBegun_any _).mono ?_
    rintro y w1 ⟨rfl, hb⟩
    have hsw1 := hb.size
    by_cases q1 : n < -2
    · have f1 : decide (n < -2) = true := decide_eq_true q1
      go_wp2_with fail
      go_ret
      exact ⟨rfl, hb.alloc hb.size _⟩
    have f1 : decide (n < -2) = false := decide_eq_false q1
    by_cases q2 : 2 < n
    · have f2 : decide (2 < n) = true := decide_eq_true q2
      go_wp2_with fail
      go_ret
      exact ⟨rfl, hb.alloc hb.size _⟩
    have f2 : decide (2 < n) = false := decide_eq_false q2
    obtain ⟨K, hK, hK1⟩ : ∃ K : Nat, (40 : Int) + n = (K : Int) ∧ K ≤ 2000 := ⟨((40 : Int) + n).toNat, by omega, by omega⟩
    go_upto_region 9 with fail
    rename_i K23 h23 K9 h9
    obtain ⟨wa, hwa⟩ : ∃ wa, wa = w1.alloc (.cells #[.int .i64 1000, .int .i64 32, .int .i64 32, .int .i64 40] 3) := ⟨_, rfl⟩
    have hsa : wa.heap.size = w1.heap.size + 1 := by rw [hwa]; exact World.size_alloc _ _
    have ba : Below w1.heap.size w1 wa := by rw [hwa]; exact (Below.refl _ _).alloc (Nat.le_refl _) _
    rw [← hwa]
    obtain ⟨wb, hwb⟩ : ∃ wb, wb = wa.alloc (.cells #[.int .i64 0, .int .i64 0, .slice none 0 0, .int .i64 0, .slice none 0 0] 42) := ⟨_, rfl⟩
    have hsb : wb.heap.size = w1.heap.size + 1 + 1 := by rw [hwb, World.size_alloc, hsa]
    have bb : Below wa.heap.size wa wb := by rw [hwb]; exact (Below.refl _ _).alloc (Nat.le_refl _) _
    have hg : Blk wb wa.heap.size #[.int .i64 0, .int .i64 0, .slice none 0 0, .int .i64 0, .slice none 0 0] 42 := by rw [hwb]; exact Blk.new _ _ _
    have hff : IsFrames wb (.slice (some ⟨wa.heap.size, 0, none⟩) 1 1) [F0] := by rw [hwb]; exact lit1_frames wa F0 _ _ F0_ok (IsRws.nil _) (IsRws.nil _)
    rw [← hwb]
    rw [hsa] at hg hff
    have hx := Blk.new wb #[.slice none 0 0, .slice (some ⟨w1.heap.size + 1, 0, none⟩) 1 1, .int .i64 (-1)] 25
    rw [hsb] at hx
    have bc := (Below.refl wb.heap.size wb).alloc (Nat.le_refl _) (.cells #[.slice none 0 0, .slice (some ⟨w1.heap.size + 1, 0, none⟩) 1 1, .int .i64 (-1)] 25)
    have hg := hg.below bc (by omega)
    have hff := hff.below bc
    replace hb := below_next (below_next (below_next hb ba) bb) bc
    obtain ⟨X, hX⟩ : ∃ X, w1.heap.size + 1 + 1 = X := ⟨_, rfl⟩
    obtain ⟨G, hG⟩ : ∃ G, w1.heap.size + 1 = G := ⟨_, rfl⟩
    have hGX : G < X := by omega
    rw [hX, hG] at hx
    rw [hG] at hg hff bc hb
    rw [hX, hG]
    have hsw := hb.size
    have hwG : w.heap.size ≤ G := by omega
    generalize wb.alloc (.cells #[.slice none 0 0, .slice (some ⟨G, 0, none⟩) 1 1, .int .i64 (-1)] 25) = w0 at hx hg hff hb hsw ⊢
    have hX0 := hx.lt
    clear ba bb bc hwa hwb hsa hsb hX hG
    have HX := Lib.hid hx
    have HG := Lib.hid hg
    have HF := Lib.hid hff
    clear hx hg hff
    have HK : Hid (∀ a w', Lim109 X n w a w' → K23 a w') := Lib.hid (by
      clear h9 hb HX HG HF
      intro a' w7 h
      unfold Lim109 at h
      obtain ⟨s, uv, uf, hfr, hb, hbx, hst, hmay⟩ := h
      obtain ⟨f, hf⟩ : ∃ f, f = slot a' := ⟨_, rfl⟩
      rw [← hf] at hfr
      clear hf
      subst hfr
      apply h23
      clear h23
      obtain ⟨hv, hf, -⟩ := id hst
      obtain ⟨av, capv, rfl, _, _, _⟩ := hv
      obtain ⟨af, capf, rfl, _, _⟩ := hf.slice
      have HST := Lib.hid hst
      have HBX := Lib.hid hbx
      clear hf hst hbx
      obtain ⟨x0, x1, x2⟩ := HBX.out.three
      go_wp2_with fail
      refine (encState_any _ _ s w7 HST.out).mono ?_
      rintro y w8 ⟨c, rfl, hb8, hc⟩
      have HST := Lib.hid (HST.out.below hb8)
      have HBX := Lib.hid (HBX.out.below hb8 HBX.out.lt)
      replace hb := below_next hb hb8
      clear x0 x1 x2
      obtain ⟨x0, x1, x2⟩ := HBX.out.three
      by_cases q3 : 0 < n
      · have f3 : decide (0 < n) = true := decide_eq_true q3
        have hnm : ¬ s.may := fun h => by have := hmay.1 h; omega
        rcases hc with ⟨h, -⟩ | ⟨-, rfl⟩
        · exact absurd h hnm
        have HNM := Lib.hid hnm
        clear hmay hnm
        go_wp2_with fail
        refine (mayState_any _ _ s w8 HST.out).mono ?_
        rintro y w9 ⟨rfl, hb9⟩
        rw [decide_eq_false HNM.out]
        replace hb := below_next hb hb9
        clear x0 x1 x2 hb9
        go_wp2_with fail
        go_ret
        exact ⟨rfl, hb⟩
      have f3 : decide (0 < n) = false := decide_eq_false q3
      have hm : s.may := hmay.2 (by omega)
      rcases hc with ⟨-, hc⟩ | ⟨h, -⟩
      rotate_left
      · exact absurd hm h
      obtain ⟨n1, n2⟩ := stateB_len hm HST.out.2.2
      have HM := Lib.hid hm
      have HC := Lib.hid hc.isBytes
      clear hmay hm hc
      go_wp2_with fail
      refine (decState_any _ _ w8 HC.out (by omega)).mono ?_
      rintro y w9 ⟨hb9, uvx, ufx, sx, err, rfl, hstx, hd⟩
      rcases hd with ⟨rfl, hm2, heq⟩ | ⟨-, -, h⟩
      rotate_left
      · exact absurd ⟨_, HM.out, HST.out.2.2, rfl⟩ h
      obtain rfl := stateB_inj hm2 hstx.2.2 HM.out HST.out.2.2 heq
      obtain ⟨hv, hf, -⟩ := id hstx
      obtain ⟨avx, capvx, rfl, _, _, _⟩ := hv
      obtain ⟨afx, capfx, rfl, _, _⟩ := hf.slice
      have hbz := Blk.new w9 #[.slice avx sx.vals.length capvx, .slice afx sx.frames.length capfx, .int .i64 sx.asks] 25
      have hal := (Below.refl w9.heap.size w9).alloc (Nat.le_refl _) (.cells #[.slice avx sx.vals.length capvx, .slice afx sx.frames.length capfx, .int .i64 sx.asks] 25)
      have hbx := below_next hb9 hal
      have HST := Lib.hid (HST.out.below hbx)
      have HBX := Lib.hid (HBX.out.below hbx HBX.out.lt)
      have HSX := Lib.hid (hstx.below hal)
      replace hb := below_next hb hbx
      clear x0 x1 x2 hb9 hal hbx hstx hm2 heq hf HC n1 n2
      obtain ⟨x0, x1, x2⟩ := HBX.out.three
      go_wp2_with fail
      obtain ⟨Z, hZ⟩ : ∃ Z, Z = w9.heap.size := ⟨_, rfl⟩
      rw [← hZ] at hbz ⊢
      clear hZ x0 x1 x2
      generalize w9.alloc (.cells #[.slice avx sx.vals.length capvx, .slice afx sx.frames.length capfx, .int .i64 sx.asks] 25) = wq at hbz HST HBX HSX hb ⊢
      refine (mayState_any _ _ sx wq HST.out).mono ?_
      rintro y w10 ⟨rfl, hb10⟩
      rw [decide_eq_true HM.out]
      have HST := Lib.hid (HST.out.below hb10)
      have HBX := Lib.hid (HBX.out.below hb10 HBX.out.lt)
      have HSX := Lib.hid (HSX.out.below hb10)
      have hbz := hbz.below hb10 hbz.lt
      replace hb := below_next hb hb10
      clear hb10
      obtain ⟨x0, x1, x2⟩ := HBX.out.three
      obtain ⟨y0, y1, y2⟩ := hbz.three
      go_wp2_with fail
      refine (lawEqS_any _ _ _ _ sx sx w10 HSX.out HST.out).mono ?_
      rintro y w11 ⟨r, rfl, hr, hb11⟩
      obtain rfl := hr.2 rfl
      replace hb := below_next hb hb11
      clear hr hb11 x0 x1 x2 y0 y1 y2
      go_wp2_with fail
      go_ret
      exact ⟨rfl, hb⟩)
    clear h23
    have HKN := Lib.hid hK
    clear hK
    have hmk := make_labels K hK1
    go_wp2_with fail
    refine wp_region_seq (fun w' => w'.cell? ⟨X, 1, none⟩ = some (.slice (some ⟨G, 0, none⟩) 1 1)) [(0, true), (1, true), (2, true), (3, false), (4, true), (5, true), (6, false)] (by kernel_rfl) (by kernel_rfl) (HX.out.cell 1) ?_
    iterate 3 (first | (apply seg_skip rfl rfl; simp only [Act.put, List.setIfInBounds_toArray, List.set_cons_succ, List.set_cons_zero]) | (apply seg_pure rfl rfl rfl; · (rintro w' t0; go_wp2; exact ⟨rfl, rfl, rfl⟩)))
    refine seg_loud rfl rfl ?_
    go_wp2_with fail
    refine ⟨(HX.out.drew.alloc _).cell 1, ?_⟩
    clear hmk
    iterate 2 (first | (apply seg_skip rfl rfl; simp only [Act.put, List.setIfInBounds_toArray, List.set_cons_succ, List.set_cons_zero]) | (apply seg_pure rfl rfl rfl; · (rintro w' t0; go_wp2; exact ⟨rfl, rfl, rfl⟩)))
    refine seg_loud rfl rfl ?_
    have hml : IsRws 2 encL (w0.alloc (.cells (madeCells #[.int .i64 0, .int .i64 0] (K * 2)) 44)) (.slice (some ⟨w0.heap.size, 0, none⟩) K K) (List.replicate K (⟨0, 0⟩ : LEnt)) := made_rws (enc := encL) (⟨0, 0⟩ : LEnt) rfl K (by simp only [maxLen]; omega) w0 _
    have hal := (Below.refl w0.heap.size w0).alloc (Nat.le_refl _) (.cells (madeCells #[.int .i64 0, .int .i64 0] (K * 2)) 44)
    have hG2 := HG.out.below hal HG.out.lt
    have hX2 := HX.out.below hal HX.out.lt
    have hg0 := HG.out.lt
    obtain ⟨L, hL⟩ : ∃ L, L = w0.heap.size := ⟨_, rfl⟩
    rw [← hL] at hml ⊢
    have hLG : G < L := by omega
    have hb2 := below_next hb hal
    clear hL hal
    generalize w0.alloc (.cells (madeCells #[.int .i64 0, .int .i64 0] (K * 2)) 44) = w2 at hml hG2 hX2 hb2 ⊢
    have x4 : w2.drew.cell? ⟨G, 4, none⟩ = some (.slice none 0 0) := hG2.cell 4
    have z4 : w2.drew.frozen? ⟨G, 4, none⟩ = false := hG2.free 4
    have hkx := setKeeps w2.drew G 4 (.slice (some ⟨L, 0, none⟩) K K)
    have hk2 : Keeps (fun i => i = G) w2 _ := hkx.undrew
    have hbg := hG2.drew.set 4 (.slice (some ⟨L, 0, none⟩) K K)
    have hml2 := hml.keeps hk2 (fun a n cap h hj => by injection h with h _ _; injection h with h; subst h; exact absurd hj (by show ¬ L = G; omega))
    have HML := Lib.hid hml2
    have HBG := Lib.hid hbg
    go_wp2_with fail
    refine ⟨(hX2.drew.keeps hkx (by omega)).cell 1, ?_⟩
    refine seg_nil ?_
    refine NoPanic.normal ?_
    clear x4 z4 hbg hml hml2
    go_wp2_with fail
    have hz : (-9223372036854775808 : Int) ≤ 0 ∧ (0 : Int) ≤ 9223372036854775807 := ⟨by omega, by omega⟩
    have hok : FEnt.ok ⟨0, 0, [], 0, List.replicate K ⟨0, 0⟩⟩ := ⟨hz, hz, hz, by simp, fun v hv => by
      rw [List.eq_of_mem_replicate (show v ∈ List.replicate K (⟨0, 0⟩ : LEnt) from hv)]
      exact ⟨hz, hz⟩⟩
    have hbg' : Blk (w2.drew.setCell ⟨G, 4, none⟩ (.slice (some ⟨L, 0, none⟩) K K)) G #[.int .i64 0, .int .i64 0, .slice none 0 0, .int .i64 0, .slice (some ⟨L, 0, none⟩) K K] 42 := by simpa using HBG.out
    refine HK.out _ _ ⟨⟨[], [⟨0, 0, [], 0, List.replicate K ⟨0, 0⟩⟩], -1⟩, _, _, rfl, hb2.trans (hk2.below hb2.size (fun i h => by omega)), hX2.keeps hk2 (by omega), ⟨IsRws.nil _, blk_frames (f := ⟨0, 0, [], 0, List.replicate K ⟨0, 0⟩⟩) hbg' hok (IsRws.nil _) HML.out, in_m1, by simp, fun f hf => ?_⟩, ?_⟩
    · obtain rfl := List.mem_singleton.1 hf
      exact hok
    · have := HKN.out
      have hz' : (0 : Int) ≤ 0 ∧ (0 : Int) ≤ 10000 := ⟨by omega, by omega⟩
      refine ⟨fun h => ?_, fun h => ⟨by show 0 ≤ 1000; omega, by show 1 ≤ 32; omega, by show (-1 : Int) ≤ -1; omega, by show (-1 : Int) ≤ 10000; omega, by simp, fun f hf => ?_⟩⟩
      · have h1 : (List.replicate K (⟨0, 0⟩ : LEnt)).length ≤ 40 := (h.2.2.2.2.2 _ (List.mem_singleton.2 rfl)).2.1
        rw [List.length_replicate] at h1
        omega
      · obtain rfl := List.mem_singleton.1 hf
        refine ⟨fun v hv => ?_, by show (List.replicate K (⟨0, 0⟩ : LEnt)).length ≤ 40; rw [List.length_replicate]; omega, by show 0 ≤ 32; omega, by simp, hz', hz', hz'⟩
        rw [List.eq_of_mem_replicate (show v ∈ List.replicate K (⟨0, 0⟩ : LEnt) from hv)]
        exact ⟨hz', hz'⟩
end Go.Proofs.Ytpknafidbmnjpaa
