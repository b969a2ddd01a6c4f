/-
  The law LebMany: numbers one behind the other are told one by one. No condition.
-/
import Derived.Test.YtbgeijdfkdfdoaaLebPad
import Derived.Test.YtbgeijdfkdfdoaaRow
import Derived.Test.YtbgeijdfkdfdoaaSeq
namespace Go.Proofs.Ytbgeijdfkdfdoaa
open Go.RowKit

/-- A slice from a place on. -/
def sliceFrom (a : Option Addr) (len cap k : Nat) : Value := .slice (if cap = k then a else a.map (·.add (k * 1))) (len - k) (cap - k)

theorem run_slice_from (a : Option Addr) (len cap k : Nat) (hk : k ≤ len) (w : World) :
    (Instr.slice 22 (.slice a len cap) (some (.int .i64 k)) none none).run Try.prog w = .ok (sliceFrom a len cap k) w := by
  have hu : Try.prog.underlying 22 = some (.slice 5) := by kernel_rfl
  obtain ⟨i0, hi, hz0, hz1, hz2⟩ := info_parts info_u8
  simp [Instr.slice, run_underlying hu, Instr.sliceBounds, Instr.sliceBound, sizeOf, typeInfo, hi, hz1, asIntOf, hk, sliceFrom]

theorem IsBytes.drop {w : World} {a : Option Addr} {n cap : Nat} {l : List UInt8} (h : IsBytes w (.slice a n cap) l) (k : Nat) (hk : k ≤ l.length) : IsBytes w (sliceFrom a n cap k) (l.drop k) := by
  obtain ⟨a', cap', hv, h1, h2, h3⟩ := h
  injection hv with e1 e2 e3
  subst e1 e2 e3
  refine ⟨_, cap - k, by rw [sliceFrom, List.length_drop], by rw [List.length_drop]; omega, by simp only [maxLen] at *; omega, fun i x hx => ?_⟩
  rw [List.getElem?_drop] at hx
  obtain ⟨b, off, rfl, hc⟩ := h3 _ x hx
  have hlt := (List.getElem?_eq_some_iff.1 hx).1
  rw [if_neg (by omega)]
  refine ⟨b, off + k, ?_, ?_⟩
  · simp only [Option.map_some, Nat.mul_one]
    unfold Addr.add
    split <;> simp_all
  · rw [Nat.add_assoc]
    exact hc

theorem cont_shape (p : List UInt8) (z : UInt8) (rest : List UInt8) (hp : ∀ y ∈ p, 128 ≤ y.toNat) (hz : z.toNat < 128) : cont (p ++ z :: rest) = p.length := by
  induction p with
  | nil => simp [cont]; omega
  | cons x p ih =>
    rw [List.cons_append, cont, if_pos (hp x (by simp)), ih (fun y hy => hp y (by simp [hy]))]
    rfl

theorem putUF_shape2 : ∀ (f n : Nat), n < 128 ^ (f + 1) → ∃ p z, putUF (f + 1) n = p ++ [z] ∧ (∀ y ∈ p, 128 ≤ y.toNat) ∧ z.toNat < 128 ∧ p.length ≤ f := by
  intro f
  induction f with
  | zero =>
    intro n h
    exact ⟨[], b8 n, by rw [putUF, if_pos (by omega)]; rfl, by simp, by rw [b8_toNat (by omega)]; omega, Nat.le_refl _⟩
  | succ f ih =>
    intro n h
    rw [putUF]
    split
    · exact ⟨[], b8 n, rfl, by simp, by rw [b8_toNat (by omega)]; omega, by simp⟩
    · obtain ⟨p, z, h1, h2, h3, h4⟩ := ih (n / 128) (by rw [Nat.pow_succ] at h; omega)
      refine ⟨b8 (n % 128 + 128) :: p, z, by rw [h1]; rfl, fun y hy => ?_, h3, by simpa using h4⟩
      rcases List.mem_cons.1 hy with rfl | hy
      · rw [b8_toNat (by omega)]
        omega
      · exact h2 y hy

theorem putSF_shape : ∀ (f : Nat) (n : Int), -((128 : Int) ^ (f + 1)) ≤ 2 * n → 2 * n < 128 ^ (f + 1) → ∃ p z, putSF (f + 1) n = p ++ [z] ∧ (∀ y ∈ p, 128 ≤ y.toNat) ∧ z.toNat < 128 ∧ p.length ≤ f := by
  intro f
  induction f with
  | zero =>
    intro n h h'
    exact ⟨[], b8 (n % 128).toNat, by rw [putSF, if_pos (by omega)]; rfl, by simp, by rw [b8_toNat (by omega)]; omega, Nat.le_refl _⟩
  | succ f ih =>
    intro n h h'
    rw [putSF]
    split
    · exact ⟨[], b8 (n % 128).toNat, rfl, by simp, by rw [b8_toNat (by omega)]; omega, by simp⟩
    · rw [Int.pow_succ, Int.pow_succ] at h h'
      obtain ⟨p, z, h1, h2, h3, h4⟩ := ih (n / 128) (by rw [Int.pow_succ]; omega) (by rw [Int.pow_succ]; omega)
      refine ⟨b8 ((n % 128).toNat + 128) :: p, z, by rw [h1]; rfl, fun y hy => ?_, h3, by simpa using h4⟩
      rcases List.mem_cons.1 hy with rfl | hy
      · rw [b8_toNat (by omega)]
        omega
      · exact h2 y hy

theorem lenRes_shape (p : List UInt8) (z : UInt8) (rest : List UInt8) (hp : ∀ y ∈ p, 128 ≤ y.toNat) (hz : z.toNat < 128) (hl : p.length ≤ 9) : lenRes 64 (p ++ z :: rest) = (p.length + 1, 0) := by
  unfold lenRes
  rw [if_neg (by omega), cont_shape p z rest hp hz, if_neg (by omega), if_neg (by simp)]

/-- What is written is read. -/
theorem uRes_put (u : Nat) (rest : List UInt8) (hu : u < 18446744073709551616) : uRes 64 (putU u ++ rest) = (u, (putU u).length, 0) := by
  obtain ⟨p, z, h1, h2, h3, h4⟩ := putUF_shape2 9 u (by omega)
  change putU u = p ++ [z] at h1
  have hl : lenRes 64 (putU u ++ rest) = ((putU u).length, 0) := by
    rw [h1, List.append_assoc]
    have := lenRes_shape p z rest h2 h3 h4
    simpa using this
  unfold uRes
  rw [hl, if_neg (by simp)]
  have ht : (putU u ++ rest).take (putU u).length = putU u := List.take_left
  simp only [ht]
  rw [valU_putU hu, if_pos ⟨rfl, hu⟩]

theorem sRes_put (n : Int) (rest : List UInt8) (h0 : -9223372036854775808 ≤ n) (h1 : n ≤ 9223372036854775807) : sRes 64 (putS n ++ rest) = (n, (putS n).length, 0) := by
  obtain ⟨p, z, e1, e2, e3, e4⟩ := putSF_shape 9 n (by omega) (by omega)
  change putS n = p ++ [z] at e1
  have hl : lenRes 64 (putS n ++ rest) = ((putS n).length, 0) := by
    rw [e1, List.append_assoc]
    have := lenRes_shape p z rest e2 e3 e4
    simpa using this
  unfold sRes
  rw [hl, if_neg (by simp)]
  have ht : (putS n ++ rest).take (putS n).length = putS n := List.take_left
  simp only [ht]
  have h2 : n < 9223372036854775808 := by omega
  rw [valS_putS h0 h2, if_pos ⟨rfl, h0, h2⟩]

/-- The numbers' bytes, one behind the other. -/
def encs : List (Nat × Int) → List UInt8
  | [] => []
  | (u, n) :: l => putU u ++ (putS n ++ encs l)

theorem encs_append : ∀ (a b : List (Nat × Int)), encs (a ++ b) = encs a ++ encs b
  | [], _ => rfl
  | (u, n) :: a, b => by simp [encs, encs_append a b]

theorem encs_len : ∀ l : List (Nat × Int), (∀ x ∈ l, -9223372036854775808 ≤ x.2 ∧ x.2 ≤ 9223372036854775807) → (encs l).length ≤ 20 * l.length
  | [], _ => by simp [encs]
  | (u, n) :: l, h => by
    have := encs_len l (fun x hx => h x (by simp [hx]))
    have h1 := (putU_len u).2
    have h2 : (putS n).length ≤ 10 := by
      obtain ⟨p, z, e1, _, _, e4⟩ := putSF_shape 9 n (by have := (h (u, n) (by simp)).1; omega) (by have := (h (u, n) (by simp)).2; omega)
      change putS n = p ++ [z] at e1
      rw [e1]
      simp
      omega
    simp [encs]
    omega

theorem slice_app {L p q : List UInt8} (hL : L = p ++ q) (a : Option Addr) (cap : Nat) : ∃ a2 cap2,
    (∀ wx, (Instr.slice 22 (.slice a L.length cap) (some (.int .i64 p.length)) none none).run Try.prog wx = .ok (.slice a2 q.length cap2) wx) ∧
    ∀ wy, IsBytes wy (.slice a L.length cap) L → IsBytes wy (.slice a2 q.length cap2) q := by
  have hle : p.length ≤ L.length := by rw [hL]; simp
  have hd : L.drop p.length = q := by rw [hL]; exact List.drop_left
  have hl : L.length - p.length = q.length := by rw [hL]; simp
  refine ⟨if cap = p.length then a else a.map (·.add (p.length * 1)), cap - p.length, fun wx => ?_, fun wy h => ?_⟩
  · rw [run_slice_from a L.length cap p.length hle wx, sliceFrom, hl]
  · have := h.drop p.length hle
    rw [hd, sliceFrom, hl] at this
    exact this

def ManyX (ps : List (Nat × Int)) (w w' : World) (v : Value) (i : Nat) : Prop :=
  i ≤ ps.length ∧ OwnBytes w' w.heap.size v (encs (ps.take i)) ∧ Below w.heap.size w w'

def ManyJ1 (ps : List (Nat × Int)) (w w' : World) (v : Value) (i : Nat) : Prop :=
  i ≤ ps.length ∧ i ≤ 20 ∧ OwnBytes w' w.heap.size v (encs (ps.take i)) ∧ Below w.heap.size w w'

def ManyJ2 (ps : List (Nat × Int)) (w w' : World) (v : Value) (i : Nat) : Prop :=
  i ≤ ps.length ∧ IsBytes w' v (encs (ps.drop i)) ∧ Below w.heap.size w w'

set_option maxRecDepth 100000 in
set_option maxHeartbeats 4000000 in
theorem many_any (a0 : Option Addr) (len0 cap0 : Nat) (us : List Int) (a1 : Option Addr) (len1 cap1 : Nat) (ns : List Int) (w : World)
    (hl0 : us.length = len0) (hl1 : ns.length = len1) (hm0 : len0 ≤ 9223372036854775807)
    (h0 : IsInts .u64 w a0 us) (h1 : IsInts .i64 w a1 ns) (b0 : ∀ x ∈ us, 0 ≤ x ∧ x ≤ 18446744073709551615) (b1 : ∀ x ∈ ns, -9223372036854775808 ≤ x ∧ x ≤ 9223372036854775807) :
    Calls Try.prog 6 #[.slice a0 len0 cap0, .slice a1 len1 cap1] w (TrueEnd w) := by
  obtain ⟨ps, hps⟩ : ∃ ps, ps = (us.zip ns).map fun x => (x.1.toNat, x.2) := ⟨_, rfl⟩
  have hpl : ps.length = min len0 len1 := by rw [hps, ← hl0, ← hl1]; simp
  have hget : ∀ i, i < ps.length → ∃ u n, ps[i]? = some (u, n) ∧ us[i]? = some (u : Int) ∧ ns[i]? = some n ∧ u < 18446744073709551616 ∧ -9223372036854775808 ≤ n ∧ n ≤ 9223372036854775807 := by
    intro i hi
    have hi0 : i < us.length := by omega
    have hi1 : i < ns.length := by omega
    have e0 := List.getElem?_eq_getElem hi0
    have e1 := List.getElem?_eq_getElem hi1
    have c0 := b0 _ (List.getElem_mem hi0)
    have c1 := b1 _ (List.getElem_mem hi1)
    refine ⟨us[i].toNat, ns[i], ?_, ?_, e1, by omega, c1.1, c1.2⟩
    · rw [hps, List.getElem?_map, (List.getElem?_zip_eq_some (z := (us[i], ns[i]))).2 ⟨e0, e1⟩]
      rfl
    · rw [e0]
      congr 1
      omega
  have hbd : ∀ x ∈ ps, -9223372036854775808 ≤ x.2 ∧ x.2 ≤ 9223372036854775807 := by
    intro x hx
    obtain ⟨i, hi⟩ := List.mem_iff_getElem?.1 hx
    obtain ⟨u, n, e, _, _, _, c⟩ := hget i (List.getElem?_eq_some_iff.1 hi).1
    rw [hi] at e
    injection e with e
    subst e
    exact c
  have HG := Lib.hid hget
  have HBD := Lib.hid hbd
  have H0 := Lib.hid h0
  have H1 := Lib.hid h1
  have HPL := Lib.hid hpl
  clear hget hbd h0 h1 b0 b1 hps hl0 hl1
  have hp0 : ps.length ≤ len0 := by omega
  have hp1 : ps.length ≤ len1 := by omega
  clear hpl
  go_enter Try.func6, Try.ntmps6
  go_wp2_with fail
  refine (begun_any _).mono ?_
  rintro e w1 ⟨rfl, hb⟩
  go_wp2_with fail
  refine wp_loop_x (fun a' w' => ∃ (v : Value) (i : Nat), a' = { tmps := #[.slice a0 len0 cap0, .slice a1 len1 cap1, undef, undef, .bool false, slot a' 5, v, .int .i64 i, .int .i64 i, slot a' 9, slot a' 10, slot a' 11, slot a' 12, slot a' 13, slot a' 14, slot a' 15, slot a' 16, slot a' 17, slot a' 18, slot a' 19, slot a' 20, slot a' 21, slot a' 22, slot a' 23, slot a' 24, slot a' 25, slot a' 26, slot a' 27, slot a' 28, slot a' 29, slot a' 30, slot a' 31, slot a' 32, slot a' 33, slot a' 34, slot a' 35, slot a' 36, slot a' 37, slot a' 38, slot a' 39, slot a' 40, slot a' 41, slot a' 42, slot a' 43, slot a' 44, slot a' 45, slot a' 46, slot a' 47, slot a' 48, slot a' 49, slot a' 50, slot a' 51, slot a' 52, slot a' 53, slot a' 54, slot a' 55, slot a' 56, slot a' 57, slot a' 58, slot a' 59, slot a' 60, slot a' 61, slot a' 62, slot a' 63, slot a' 64, slot a' 65, slot a' 66, slot a' 67, slot a' 68, slot a' 69, slot a' 70, slot a' 71, slot a' 72, slot a' 73, slot a' 74, slot a' 75, slot a' 76, slot a' 77, slot a' 78, slot a' 79, slot a' 80, slot a' 81, slot a' 82, slot a' 83, slot a' 84, slot a' 85, slot a' 86, slot a' 87, slot a' 88, slot a' 89, slot a' 90, slot a' 91, slot a' 92, slot a' 93, slot a' 94, slot a' 95, slot a' 96, slot a' 97, slot a' 98, slot a' 99, slot a' 100, slot a' 101, slot a' 102, slot a' 103, slot a' 104, slot a' 105], defers := [] } ∧ ManyJ1 ps w w' v i) (fun a' _ => (21 - (intOf (a'.tmps.getD 8 undef)).toNat))
    (fun a' w' => ∃ (v : Value) (i : Nat), a' = { tmps := #[.slice a0 len0 cap0, .slice a1 len1 cap1, undef, undef, .bool false, slot a' 5, v, .int .i64 i, slot a' 8, slot a' 9, slot a' 10, slot a' 11, slot a' 12, slot a' 13, slot a' 14, slot a' 15, slot a' 16, slot a' 17, slot a' 18, slot a' 19, slot a' 20, slot a' 21, slot a' 22, slot a' 23, slot a' 24, slot a' 25, slot a' 26, slot a' 27, slot a' 28, slot a' 29, slot a' 30, slot a' 31, slot a' 32, slot a' 33, slot a' 34, slot a' 35, slot a' 36, slot a' 37, slot a' 38, slot a' 39, slot a' 40, slot a' 41, slot a' 42, slot a' 43, slot a' 44, slot a' 45, slot a' 46, slot a' 47, slot a' 48, slot a' 49, slot a' 50, slot a' 51, slot a' 52, slot a' 53, slot a' 54, slot a' 55, slot a' 56, slot a' 57, slot a' 58, slot a' 59, slot a' 60, slot a' 61, slot a' 62, slot a' 63, slot a' 64, slot a' 65, slot a' 66, slot a' 67, slot a' 68, slot a' 69, slot a' 70, slot a' 71, slot a' 72, slot a' 73, slot a' 74, slot a' 75, slot a' 76, slot a' 77, slot a' 78, slot a' 79, slot a' 80, slot a' 81, slot a' 82, slot a' 83, slot a' 84, slot a' 85, slot a' 86, slot a' 87, slot a' 88, slot a' 89, slot a' 90, slot a' 91, slot a' 92, slot a' 93, slot a' 94, slot a' 95, slot a' 96, slot a' 97, slot a' 98, slot a' 99, slot a' 100, slot a' 101, slot a' 102, slot a' 103, slot a' 104, slot a' 105], defers := [] } ∧ ManyX ps w w' v i) ?_ ?_ ?_
  · exact ⟨_, 0, rfl, by omega, by omega, OwnBytes.nil _ _, hb⟩
  · clear hb
    rintro R Y a' w1 ⟨v, i, hfr, hJ⟩ HR HY
    obtain ⟨f, hf⟩ : ∃ f, f = slot a' := ⟨_, rfl⟩
    rw [← hf] at hfr
    clear hf
    subst hfr
    obtain ⟨w2, rfl⟩ : ∃ w2, w2 = w1 := ⟨_, rfl⟩
    obtain ⟨hi1, hi2, ho, hb⟩ := hJ
    by_cases hin : i < ps.length ∧ i < 20
    · obtain ⟨hin, hi20⟩ := hin
      obtain ⟨u, n, gp, g0, g1, hu, hn1, hn2⟩ := HG.out i hin
      obtain ⟨bu, ou, rfl, cu⟩ := H0.out i _ g0
      obtain ⟨bn, on, rfl, cn⟩ := H1.out i _ g1
      have GP := Lib.hid gp
      have dlu := World.block_lt_of_cell? w _ cu
      have dln := World.block_lt_of_cell? w _ cn
      have du : w2.cell? ⟨bu, ou + i, none⟩ = some (.int .u64 (u : Int)) := by rw [hb.cell dlu]; exact cu
      have dn : w2.cell? ⟨bn, on + i, none⟩ = some (.int .i64 n) := by rw [hb.cell dln]; exact cn
      have CU := Lib.hid cu
      have CN := Lib.hid cn
      clear gp g0 g1 cu cn
      have hil0 : i < len0 := by omega
      have hil1 : i < len1 := by omega
      have hel : (encs (ps.take i)).length ≤ 1000 := by
        have := encs_len (ps.take i) (fun x hx => HBD.out x (List.mem_of_mem_take hx))
        rw [List.length_take] at this
        omega
      generalize hL : encs (ps.take i) = L at ho hel
      have HL := Lib.hid hL
      clear hL
      go_wp2_with fail
      refine wp_region_seq (fun w' => w'.cell? ⟨bu, ou + i, none⟩ = some (.int .u64 (u : Int)) ∧ w'.cell? ⟨bn, on + i, none⟩ = some (.int .i64 n)) [(0, true), (1, true), (2, true), (3, true), (4, true), (6, true), (7, true), (8, true), (9, true), (5, false), (10, false), (11, true)] (by kernel_rfl) (by kernel_rfl) ⟨du, dn⟩ ?_
      clear du dn
      iterate 9 (first | (apply seg_skip rfl rfl; simp only [Act.put, List.setIfInBounds_toArray, List.set_cons_succ, List.set_cons_zero]) | (apply seg_pure rfl rfl rfl; · (rintro w' ⟨s1, s2⟩; go_wp2; exact ⟨rfl, rfl, rfl⟩)))
      refine seg_loud rfl rfl ?_
      go_wp2_with fail
      refine (putU_any _ L u hu w.heap.size w2.drew ho (by omega) hb.size).mono ?_
      rintro e w3 ⟨v3, rfl, ho3, hk3, hs3⟩
      have hb3 : Below w.heap.size w w3 := hb.trans (below_undrew (hk3.below hb.size (fun j hj => (own_lt ho hj).1)))
      have hl3 : (L ++ putU u).length ≤ 2000 := by have := (putU_len u).2; simp; omega
      go_wp2_with fail
      refine ⟨⟨by rw [hb3.cell dlu]; exact CU.out, by rw [hb3.cell dln]; exact CN.out⟩, ?_⟩
      refine seg_loud rfl rfl ?_
      go_wp2_with fail
      refine (putS_any _ _ n hn1 hn2 w.heap.size w3 ho3 (by omega) hb3.size).mono ?_
      rintro e w4 ⟨v4, rfl, ho4, hk4, hs4⟩
      have hb4 : Below w.heap.size w w4 := hb3.trans (hk4.below hb3.size (fun j hj => (own_lt ho3 hj).1))
      go_wp2_with fail
      refine ⟨⟨by rw [hb4.cell dlu]; exact CU.out, by rw [hb4.cell dln]; exact CN.out⟩, ?_⟩
      iterate 1 (first | (apply seg_skip rfl rfl; simp only [Act.put, List.setIfInBounds_toArray, List.set_cons_succ, List.set_cons_zero]) | (apply seg_pure rfl rfl rfl; · (rintro w' ⟨s1, s2⟩; go_wp2; exact ⟨rfl, rfl, rfl⟩)))
      refine seg_nil ?_
      refine NoPanic.normal ?_
      go_wp2_with fail
      refine HR.out _ _ ⟨v4, i + 1, rfl, by omega, by omega, ?_, hb4⟩ ?_
      · have e : encs (ps.take (i + 1)) = L ++ putU u ++ putS n := by
          rw [List.take_add_one, GP.out, encs_append, HL.out, List.append_assoc]
          simp [encs]
        rw [e]
        exact ho4
      · simp [intOf]
        omega
    · have hdec : (i : Int) < (len0 : Int) → (i : Int) < (len1 : Int) → ¬ (i : Int) < 20 := by
        have := HPL.out
        omega
      by_cases c0 : i < len0
      · by_cases c1 : i < len1
        · have c3 : ¬ i < 20 := by have := hdec (by omega) (by omega); omega
          clear hdec hin
          go_wp2_with fail
          exact HY.out _ _ ⟨v, i, rfl, hi1, ho, hb⟩
        · clear hdec hin
          go_wp2_with fail
          exact HY.out _ _ ⟨v, i, rfl, hi1, ho, hb⟩
      · clear hdec hin
        go_wp2_with fail
        exact HY.out _ _ ⟨v, i, rfl, hi1, ho, hb⟩
  · clear hb
    rintro a' w1 ⟨v, m, hfr, hJ⟩
    obtain ⟨f, hf⟩ : ∃ f, f = slot a' := ⟨_, rfl⟩
    rw [← hf] at hfr
    clear hf
    subst hfr
    obtain ⟨w2, rfl⟩ : ∃ w2, w2 = w1 := ⟨_, rfl⟩
    obtain ⟨hm, ho, hb⟩ := hJ
    have hib := ho.isBytes
    clear ho
    go_wp2_with fail
    refine wp_loop_r (fun a' w' => ∃ (v : Value) (i : Nat), a' = { tmps := #[.slice a0 len0 cap0, .slice a1 len1 cap1, undef, undef, .bool false, slot a' 5, v, .int .i64 m, slot a' 8, .int .i64 i, slot a' 10, slot a' 11, slot a' 12, slot a' 13, slot a' 14, slot a' 15, slot a' 16, slot a' 17, slot a' 18, slot a' 19, slot a' 20, slot a' 21, slot a' 22, slot a' 23, slot a' 24, slot a' 25, slot a' 26, slot a' 27, slot a' 28, slot a' 29, slot a' 30, slot a' 31, slot a' 32, slot a' 33, slot a' 34, slot a' 35, slot a' 36, slot a' 37, slot a' 38, slot a' 39, slot a' 40, slot a' 41, slot a' 42, slot a' 43, slot a' 44, slot a' 45, slot a' 46, slot a' 47, slot a' 48, slot a' 49, slot a' 50, slot a' 51, slot a' 52, slot a' 53, slot a' 54, slot a' 55, slot a' 56, slot a' 57, slot a' 58, slot a' 59, slot a' 60, slot a' 61, slot a' 62, slot a' 63, slot a' 64, slot a' 65, slot a' 66, slot a' 67, slot a' 68, slot a' 69, slot a' 70, slot a' 71, slot a' 72, slot a' 73, slot a' 74, slot a' 75, slot a' 76, slot a' 77, slot a' 78, slot a' 79, slot a' 80, slot a' 81, slot a' 82, slot a' 83, slot a' 84, slot a' 85, slot a' 86, slot a' 87, slot a' 88, slot a' 89, slot a' 90, slot a' 91, slot a' 92, slot a' 93, slot a' 94, slot a' 95, slot a' 96, slot a' 97, slot a' 98, slot a' 99, slot a' 100, slot a' 101, slot a' 102, slot a' 103, slot a' 104, slot a' 105], defers := [] } ∧ ManyJ2 (ps.take m) w w' v i) (fun a' _ => (m - (intOf (a'.tmps.getD 9 undef)).toNat)) ?_ ?_
    · exact ⟨v, 0, rfl, by omega, by simpa using hib, hb⟩
    · clear hb hib
      rintro R a' w1 ⟨v, i, hfr, hJ⟩ HR
      obtain ⟨f, hf⟩ : ∃ f, f = slot a' := ⟨_, rfl⟩
      rw [← hf] at hfr
      clear hf
      subst hfr
      obtain ⟨w3, rfl⟩ : ∃ w3, w3 = w1 := ⟨_, rfl⟩
      obtain ⟨hi, hib, hb⟩ := hJ
      rw [List.length_take, Nat.min_eq_left hm] at hi
      by_cases hin : i < m
      · obtain ⟨u, n, gp, g0, g1, hu, hn1, hn2⟩ := HG.out i (by omega)
        obtain ⟨bu, ou, rfl, cu⟩ := H0.out i _ g0
        obtain ⟨bn, on, rfl, cn⟩ := H1.out i _ g1
        have dlu := World.block_lt_of_cell? w _ cu
        have dln := World.block_lt_of_cell? w _ cn
        have e0 : (ps.take m).drop i = (u, n) :: (ps.take m).drop (i + 1) := by
          have h : (ps.take m)[i]? = some (u, n) := by rw [List.getElem?_take, if_pos hin]; exact gp
          obtain ⟨hlt, he⟩ := List.getElem?_eq_some_iff.1 h
          rw [List.drop_eq_getElem_cons hlt, he]
        have CU := Lib.hid cu
        have CN := Lib.hid cn
        clear gp g0 g1 cu cn
        have hil0 : i < len0 := by omega
        have hil1 : i < len1 := by omega
        obtain ⟨L2, hL2⟩ : ∃ L2, L2 = encs ((ps.take m).drop (i + 1)) := ⟨_, rfl⟩
        obtain ⟨L1, hL1⟩ : ∃ L1, L1 = putS n ++ L2 := ⟨_, rfl⟩
        obtain ⟨L0, hL0⟩ : ∃ L0, L0 = putU u ++ L1 := ⟨_, rfl⟩
        rw [e0, encs, ← hL2, ← hL1, ← hL0] at hib
        have hu0 : uRes 64 L0 = (u, (putU u).length, 0) := by rw [hL0]; exact uRes_put u L1 hu
        have hs1 : sRes 64 L1 = (n, (putS n).length, 0) := by rw [hL1]; exact sRes_put n L2 hn1 hn2
        have hle0 : (putU u).length ≤ L0.length := by rw [hL0]; simp
        have hle1 : (putS n).length ≤ L1.length := by rw [hL1]; simp
        obtain ⟨a, cap, rfl, hcap, hmax, hcc⟩ := id hib
        obtain ⟨a2, cap2, hr2, hi2⟩ := slice_app hL0 a cap
        obtain ⟨a3, cap3, hr3, hi3⟩ := slice_app hL1 a2 cap2
        have HU := Lib.hid hu0
        have HS := Lib.hid hs1
        have HI2 := Lib.hid hi2
        have HI3 := Lib.hid hi3
        have HL2 := Lib.hid hL2
        clear hu0 hs1 hi2 hi3 hL0 hL1 hL2 e0 hcc
        change cap ≤ 2 ^ 63 - 1 at hmax
        go_wp2_with fail
        refine (U_any _ L0 64 w3 hib (by omega) (by omega)).mono ?_
        rintro e w4 ⟨rfl, hb4⟩
        rw [HU.out]
        have hb4' : Below w.heap.size w w4 := hb.trans (hb4.mono hb.size)
        have du : w4.cell? ⟨bu, ou + i, none⟩ = some (.int .u64 (u : Int)) := by rw [hb4'.cell dlu]; exact CU.out
        have hib2 := HI2.out w4 (hib.below hb4)
        have HIB2 := Lib.hid hib2
        clear hib2
        go_wp2_with fail
        refine (S_any _ L1 64 w4 HIB2.out (by omega) (by omega)).mono ?_
        rintro e w5 ⟨rfl, hb5⟩
        rw [HS.out]
        have hb5' : Below w.heap.size w w5 := hb4'.trans (hb5.mono hb4'.size)
        have dn : w5.cell? ⟨bn, on + i, none⟩ = some (.int .i64 n) := by rw [hb5'.cell dln]; exact CN.out
        have hib3 := HI3.out w5 (HIB2.out.below hb5)
        have HIB3 := Lib.hid hib3
        clear hib3
        go_wp2_with fail
        refine HR.out _ _ ⟨_, i + 1, rfl, by rw [List.length_take, Nat.min_eq_left hm]; omega, by rw [← HL2.out]; exact HIB3.out, hb5'⟩ ?_
        simp [intOf]
        omega
      · obtain rfl : i = m := by omega
        have e : (ps.take i).drop i = [] := List.drop_eq_nil_of_le (by rw [List.length_take]; omega)
        rw [e] at hib
        obtain ⟨a, cap, rfl, -, -, -⟩ := hib
        clear e
        go_wp2_with fail
        go_ret
        exact ⟨rfl, hb⟩

theorem many_row (a0 : Option Addr) (len0 cap0 : Nat) (z0 : List Int) (a1 : Option Addr) (len1 cap1 : Nat) (z1 : List Int) (w : World) (w0 : RowIs .u64 w a0 len0 cap0 z0) (w1 : RowIs .i64 w a1 len1 cap1 z1) :
    Calls Try.prog 6 #[.slice a0 len0 cap0, .slice a1 len1 cap1] w (TrueEnd w) := by
  obtain ⟨h1, h2, h3, h4, h5⟩ := row_ints w0
  obtain ⟨g1, g2, g3, g4, g5⟩ := row_ints w1
  unfold maxLen at h3
  exact many_any a0 len0 cap0 _ a1 len1 cap1 _ w h1 g1 (by omega) h4 g4 (fun x hx => bounds_u64 (h5 x hx)) (fun x hx => bounds_i64 (g5 x hx))
end Go.Proofs.Ytbgeijdfkdfdoaa
