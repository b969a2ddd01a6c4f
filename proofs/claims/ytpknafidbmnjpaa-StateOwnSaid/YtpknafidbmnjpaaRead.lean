/-
  Walks of state.Reader: Num, Signed, Vals.
-/
import Derived.Test.YtpknafidbmnjpaaVals
namespace Go.Proofs.Ytpknafidbmnjpaa
open Go.RowKit

theorem uRes62_put (u : Nat) (rest : List UInt8) (hu : u < 4611686018427387904) : uRes 62 (putU u ++ rest) = (u, (putU u).length, 0) := by
  obtain ⟨p, z, h1, h2, h3, h4⟩ := putUF_shape2 9 u (by omega)
  change putU u = p ++ [z] at h1
  have hp : p.length ≤ 8 := by
    rcases putUF_big 10 u (by omega) with h | h
    · change (putU u).length ≤ 1 at h
      rw [h1] at h
      simp at h
      simp [h]
    · change 128 ^ ((putU u).length - 1) ≤ u at h
      rw [h1, List.length_append, List.length_singleton, Nat.add_sub_cancel] at h
      rcases Nat.lt_or_ge 8 p.length with g | g
      · have : (128 : Nat) ^ 9 ≤ 128 ^ p.length := Nat.pow_le_pow_right (by omega) g
        omega
      · exact g
  have hl : lenRes 62 (putU u ++ rest) = ((putU u).length, 0) := by
    rw [h1, List.append_assoc, List.singleton_append]
    unfold lenRes
    rw [if_neg (by omega), cont_shape p z rest h2 h3, if_neg (by omega), if_neg (by simp)]
    simp
  unfold uRes
  rw [hl, if_neg (by simp)]
  have ht : (putU u ++ rest).take (putU u).length = putU u := List.take_left
  simp only [ht]
  rw [valU_putU (by omega), if_pos ⟨rfl, by simpa using hu⟩]

theorem uRes62_ok {l : List UInt8} (h : (uRes 62 l).2.2 = 0) : ∃ u rest, u < 4611686018427387904 ∧ l = putU u ++ rest ∧ uRes 62 l = (u, (putU u).length, 0) := by
  unfold uRes at h ⊢
  by_cases h1 : (lenRes 62 l).2 ≠ 0
  · rw [if_pos h1] at h
    exact absurd h h1
  · rw [if_neg h1] at h ⊢
    by_cases h2 : putU (valU (l.take (lenRes 62 l).1)) = l.take (lenRes 62 l).1 ∧ valU (l.take (lenRes 62 l).1) < 2 ^ (62 : Int).toNat
    · rw [if_pos h2]
      obtain ⟨_, _, k1, k2, _⟩ := lenRes_ok (Decidable.not_not.1 h1)
      refine ⟨_, l.drop (lenRes 62 l).1, by simpa using h2.2, by rw [h2.1, List.take_append_drop], ?_⟩
      rw [h2.1, List.length_take, Nat.min_eq_left (by omega)]
    · rw [if_neg h2] at h
      cases h

theorem sRes64_put (n : Int) (rest : List UInt8) (h0 : -9223372036854775808 ≤ n) (h1 : n ≤ 9223372036854775807) : sRes 64 (putS n ++ rest) = (n, (putS n).length, 0) := by
  obtain ⟨p, z, e1, e2, e3, e4⟩ := putSF_shape 9 n (by omega) (by omega)
  change putS n = p ++ [z] at e1
  have hl : lenRes 64 (putS n ++ rest) = ((putS n).length, 0) := by
    rw [e1, List.append_assoc, List.singleton_append]
    unfold lenRes
    rw [if_neg (by omega), cont_shape p z rest e2 e3, if_neg (by omega), if_neg (by simp)]
    simp
  unfold sRes
  rw [hl, if_neg (by simp)]
  have ht : (putS n ++ rest).take (putS n).length = putS n := List.take_left
  simp only [ht]
  have h2 : n < 9223372036854775808 := by omega
  rw [valS_putS h0 h2, if_pos ⟨rfl, h0, h2⟩]

theorem sRes64_ok {l : List UInt8} (h : (sRes 64 l).2.2 = 0) : ∃ (n : Int) (rest : List UInt8), (-9223372036854775808 ≤ n ∧ n ≤ 9223372036854775807) ∧ l = putS n ++ rest ∧ sRes 64 l = (n, (putS n).length, 0) := by
  unfold sRes at h ⊢
  by_cases h1 : (lenRes 64 l).2 ≠ 0
  · rw [if_pos h1] at h
    exact absurd h h1
  · rw [if_neg h1] at h ⊢
    split at h
    · rename_i h2
      rw [if_pos h2]
      obtain ⟨_, _, k1, k2, _⟩ := lenRes_ok (Decidable.not_not.1 h1)
      refine ⟨_, l.drop (lenRes 64 l).1, ?_, by rw [h2.1, List.take_append_drop], ?_⟩
      · have := h2.2
        simp at this
        omega
      · rw [h2.1, List.length_take, Nat.min_eq_left (by omega)]
    · cases h

/-- What a reader reads next: noughts once it is bad. -/
def numR : Option (List UInt8) → Nat × Option (List UInt8)
  | none => (0, none)
  | some l => if (uRes 62 l).2.2 = 0 then ((uRes 62 l).1, some (l.drop (uRes 62 l).2.1)) else (0, none)
def sgnR : Option (List UInt8) → Int × Option (List UInt8)
  | none => (0, none)
  | some l => if (sRes 64 l).2.2 = 0 then ((sRes 64 l).1, some (l.drop (sRes 64 l).2.1)) else (0, none)

theorem numR_some (l : List UInt8) : numR (some l) = if (uRes 62 l).2.2 = 0 then ((uRes 62 l).1, some (l.drop (uRes 62 l).2.1)) else (0, none) := rfl
theorem sgnR_some (l : List UInt8) : sgnR (some l) = if (sRes 64 l).2.2 = 0 then ((sRes 64 l).1, some (l.drop (sRes 64 l).2.1)) else (0, none) := rfl

theorem numR_put (u : Nat) (r : List UInt8) (hu : u < 4611686018427387904) : numR (some (putU u ++ r)) = (u, some r) := by
  simp only [numR, uRes62_put u r hu, if_true, List.drop_left]
theorem sgnR_put (n : Int) (r : List UInt8) (h0 : -9223372036854775808 ≤ n) (h1 : n ≤ 9223372036854775807) : sgnR (some (putS n ++ r)) = (n, some r) := by
  simp only [sgnR, sRes64_put n r h0 h1, if_true, List.drop_left]

/-- How much a reader has to read. -/
def stl : Option (List UInt8) → Nat
  | none => 0
  | some l => l.length + 1

theorem stl_num (l : List UInt8) : stl (numR (some l)).2 + 1 ≤ stl (some l) := by
  rw [numR_some]
  split
  · rename_i h
    obtain ⟨u, r, _, hl, hr⟩ := uRes62_ok h
    have := (putU_len u).1
    have h2 := congrArg List.length hl
    rw [List.length_append] at h2
    simp only [hr, stl, List.length_drop]
    omega
  · simp [stl]
theorem stl_num' (st : Option (List UInt8)) : stl (numR st).2 ≤ stl st := by
  cases st with
  | none => simp [numR]
  | some l => have := stl_num l; omega
theorem stl_sgn (st : Option (List UInt8)) : stl (sgnR st).2 ≤ stl st := by
  cases st with
  | none => simp [sgnR]
  | some l =>
    rw [sgnR_some]
    split
    · simp only [stl, List.length_drop]
      omega
    · simp [stl]
theorem numR_lt (st : Option (List UInt8)) : (numR st).1 < 4611686018427387904 := by
  cases st with
  | none => simp [numR]
  | some l =>
    rw [numR_some]
    split
    · rename_i h
      obtain ⟨u, r, hu, _, hr⟩ := uRes62_ok h
      simp only [hr]
      exact hu
    · simp
theorem sgnR_in (st : Option (List UInt8)) : -9223372036854775808 ≤ (sgnR st).1 ∧ (sgnR st).1 ≤ 9223372036854775807 := by
  cases st with
  | none => simp [sgnR]
  | some l =>
    rw [sgnR_some]
    split
    · rename_i h
      obtain ⟨n, r, hn, _, hr⟩ := sRes64_ok h
      simp only [hr]
      exact hn
    · simp

/-- A reader in the block R, its bytes in a block below B0. -/
def Rd (B0 : Nat) (w : World) (R : Nat) (st : Option (List UInt8)) : Prop :=
  ∃ a n cap, Blk w R #[.slice a n cap, .bool st.isNone] 64 ∧ ∃ l, (l ≠ [] → ∀ ad, a = some ad → ad.block < B0) ∧ IsBytes w (.slice a n cap) l ∧ ∀ l', st = some l' → l' = l

theorem slice_app2 {L p q : List UInt8} (hL : L = p ++ q) (a : Option Addr) (cap : Nat) : ∃ a2 cap2,
    (∀ wx, (Instr.slice 28 (.slice a L.length cap) (some (.int .i64 p.length)) none none).run Try.prog wx = .ok (.slice a2 q.length cap2) wx) ∧
    (∀ wy, IsBytes wy (.slice a L.length cap) L → IsBytes wy (.slice a2 q.length cap2) q) ∧ ∀ ad, a2 = some ad → ∃ ad0, a = some ad0 ∧ ad.block = ad0.block := by
  have hle : p.length ≤ L.length := by rw [hL]; simp
  have hd : L.drop p.length = q := by rw [hL]; exact List.drop_left
  have hl : L.length - p.length = q.length := by rw [hL]; simp
  refine ⟨if cap = p.length then a else a.map (·.add (p.length * 1)), cap - p.length, fun wx => ?_, fun wy h => ?_, fun ad h => ?_⟩
  · rw [run_slice_from a L.length cap p.length hle wx, sliceFrom, hl]
  · have := h.drop p.length hle
    rw [hd, sliceFrom, hl] at this
    exact this
  · split at h
    · exact ⟨ad, h, rfl⟩
    · cases a with
      | none => cases h
      | some a0 =>
        injection h with h
        subst h
        refine ⟨a0, rfl, ?_⟩
        unfold Addr.add
        split <;> rfl

theorem IsBytes.off {w w' : World} {v : Value} {l : List UInt8} {R : Nat} {a : Option Addr} {n cap : Nat} {b : Bool} {t : TypeId} (h : IsBytes w v l) (hb : Blk w R #[.slice a n cap, .bool b] t) (hk : Keeps (fun i => i = R) w w') : IsBytes w' v l := by
  obtain ⟨a', cap', hv, h1, h2, h3⟩ := h
  refine ⟨a', cap', hv, h1, h2, fun i x hx => ?_⟩
  obtain ⟨g, off, ha, hc⟩ := h3 i x hx
  refine ⟨g, off, ha, ?_⟩
  have hlt := World.block_lt_of_cell? w _ hc
  have hne : g ≠ R := by
    rintro rfl
    have hc' := hb.cell (off + i)
    rw [hc] at hc'
    match off + i, hc' with
    | 0, hc' => simp at hc'
    | 1, hc' => simp at hc'
    | n + 2, hc' => simp at hc'
  rw [World.cell?_of_block (w := w) (a := ⟨g, off + i, none⟩) (hk.block g hlt hne)]
  exact hc

theorem Rd.below {B0 : Nat} {w w' : World} {R : Nat} {st : Option (List UInt8)} (h : Rd B0 w R st) (hk : Below w.heap.size w w') : Rd B0 w' R st := by
  obtain ⟨a, n, cap, hb, l, hB, hl, hs⟩ := h
  exact ⟨a, n, cap, hb.below hk hb.lt, l, hB, hl.below hk, hs⟩

theorem Rd.keeps {B0 : Nat} {w w' : World} {R : Nat} {st : Option (List UInt8)} {S : Nat → Prop} (h : Rd B0 w R st) (hk : Keeps S w w') (hR : ¬ S R) (hS : ∀ i, S i → B0 ≤ i) : Rd B0 w' R st := by
  obtain ⟨a, n, cap, hb, l, hB, ⟨a', cap', hv, h1, h2, h3⟩, hs⟩ := h
  injection hv with e1 e2 e3
  subst e1 e2 e3
  refine ⟨a, _, cap, hb.keeps hk hR, l, hB, ⟨a, cap, rfl, h1, h2, fun i x hx => ?_⟩, hs⟩
  obtain ⟨b, off, ha, hc⟩ := h3 i x hx
  refine ⟨b, off, ha, ?_⟩
  have hlt := World.block_lt_of_cell? w _ hc
  have hb0 : b < B0 := hB (by rintro rfl; simp at hx) _ ha
  rw [World.cell?_of_block (w := w) (a := ⟨b, off + i, none⟩) (hk.block b hlt (fun h => by have := hS b h; omega))]
  exact hc

theorem setR {w : World} {R : Nat} (i : Nat) (v : Value) : Keeps (fun k => k = R) w (w.setCell ⟨R, i, none⟩ v) :=
  ⟨rfl, rfl, rfl, by simp, fun k _ hk => Below.heap_setCell w ⟨R, i, none⟩ v k hk⟩

def NumEnd (B0 R : Nat) (st : Option (List UInt8)) (w : World) (e : Ending) (w' : World) : Prop :=
  e = .returned (.int .i64 (numR st).1) ∧ Rd B0 w' R (numR st).2 ∧ Keeps (fun k => k = R) w w'
def SgnEnd (B0 R : Nat) (st : Option (List UInt8)) (w : World) (e : Ending) (w' : World) : Prop :=
  e = .returned (.int .i64 (sgnR st).1) ∧ Rd B0 w' R (sgnR st).2 ∧ Keeps (fun k => k = R) w w'


set_option maxRecDepth 100000 in
set_option maxHeartbeats 2000000 in
theorem num_read (B0 R : Nat) (st : Option (List UInt8)) (w : World) (hr : Rd B0 w R st) : Calls Try.prog 37 #[.pointer (some ⟨R, 0, none⟩)] w (NumEnd B0 R st w) := by
  obtain ⟨a, n, cap, hbk, l, hB0, hl, hst⟩ := hr
  obtain ⟨a', cap', hv, h1, h2, _⟩ := id hl
  injection hv with e1 e2 e3
  subst e1 e2 e3
  unfold maxLen at h2
  have hRl := hbk.lt
  have c0 : w.cell? ⟨R, 0, none⟩ = some (.slice a l.length cap) := hbk.cell 0
  have c1 : w.cell? ⟨R, 1, none⟩ = some (.bool st.isNone) := hbk.cell 1
  have HBK := Lib.hid hbk
  have HL := Lib.hid hl
  have HS := Lib.hid hst
  have HB0 := Lib.hid hB0
  clear hbk hl hst hB0
  cases st with
  | none =>
    go_enter Try.func37, Try.ntmps37
    go_wp2_with fail
    refine (U_any _ l 62 _ HL.out (by omega) (by omega)).mono ?_
    rintro x w1 ⟨rfl, hb⟩
    have hbk := HBK.out.below hb hRl
    have hl := HL.out.below hb
    have z0 := hbk.free 0
    have z1 := hbk.free 1
    have c0 : w1.cell? ⟨R, 0, none⟩ = some (.slice a l.length cap) := hbk.cell 0
    have c1 : w1.cell? ⟨R, 1, none⟩ = some (.bool true) := hbk.cell 1
    have HBK1 := Lib.hid hbk
    have HL1 := Lib.hid hl
    clear hbk hl
    go_wp2_with fail
    go_ret
    have hb1 := HBK1.out.set 1 (.bool true)
    refine ⟨rfl, ⟨a, l.length, cap, by have h := hb1; simp at h; exact h, l, HB0.out, HL1.out.off HBK1.out (setR _ _), fun l' h => by cases h⟩, (Keeps.ofBelow hb).trans (setR _ _) (fun i h => .inl h)⟩
  | some l0 =>
    obtain rfl := HS.out l0 rfl
    by_cases hu : (uRes 62 l0).2.2 = 0
    · obtain ⟨u, r, hu1, hlr, hres⟩ := uRes62_ok hu
      obtain ⟨a3, cap3, hr3, hi3, hi4⟩ := slice_app2 hlr a cap
      have hle := congrArg List.length hlr
      rw [List.length_append] at hle
      have hle2 : (putU u).length ≤ l0.length := by omega
      have HI3 := Lib.hid hi3
      have HR := Lib.hid (show numR (some l0) = (u, some r) by simp only [numR, hres, if_true, Prod.mk.injEq, true_and, Option.some.injEq]; rw [hlr]; exact List.drop_left)
      have HI4 := Lib.hid hi4
      have HLR := Lib.hid hlr
      clear hi3 hi4 hu hle hlr
      go_enter Try.func37, Try.ntmps37
      go_wp2_with fail
      refine (U_any _ l0 62 _ HL.out (by omega) (by omega)).mono ?_
      rintro x w1 ⟨rfl, hb⟩
      rw [hres]
      have hbk := HBK.out.below hb hRl
      have hl := HL.out.below hb
      have z0 := hbk.free 0
      have z1 := hbk.free 1
      have c0 : w1.cell? ⟨R, 0, none⟩ = some (.slice a l0.length cap) := hbk.cell 0
      have c1 : w1.cell? ⟨R, 1, none⟩ = some (.bool false) := hbk.cell 1
      have HBK1 := Lib.hid hbk
      have HL1 := Lib.hid hl
      clear hbk hl hres
      go_wp2_with fail
      go_ret
      have hb1 := (HBK1.out.set 1 (.bool false)).set 0 (.slice a3 r.length cap3)
      have hkk : Keeps (fun k => k = R) w1 ((w1.setCell ⟨R, 1, none⟩ (.bool false)).setCell ⟨R, 0, none⟩ (.slice a3 r.length cap3)) := (setR 1 _).trans (setR 0 _) (fun i h => .inl h)
      refine ⟨by rw [HR.out]; rfl, ?_, (Keeps.ofBelow hb).trans hkk (fun i h => .inl h)⟩
      rw [HR.out]
      exact ⟨a3, r.length, cap3, by simpa using hb1, r, fun hne ad h => (by obtain ⟨ad0, g1, g2⟩ := HI4.out ad h; rw [g2]; exact HB0.out (by rw [HLR.out]; intro g; exact hne (List.append_eq_nil_iff.1 g).2) _ g1), (HI3.out _ HL1.out).off HBK1.out hkk, fun l' h => by injection h with h; exact h.symm⟩
    · have HR := Lib.hid (show numR (some l0) = (0, none) by simp only [numR]; rw [if_neg hu])
      obtain ⟨x, k, err, hr⟩ : ∃ x k err, uRes 62 l0 = (x, k, err) := ⟨_, _, _, rfl⟩
      have f1 : (err != 0) = true := ine_true (fun h => hu (by rw [hr]; exact h))
      clear hu
      go_enter Try.func37, Try.ntmps37
      go_wp2_with fail
      refine (U_any _ l0 62 _ HL.out (by omega) (by omega)).mono ?_
      rintro x w1 ⟨rfl, hb⟩
      rw [hr]
      have hbk := HBK.out.below hb hRl
      have hl := HL.out.below hb
      have z0 := hbk.free 0
      have z1 := hbk.free 1
      have c0 : w1.cell? ⟨R, 0, none⟩ = some (.slice a l0.length cap) := hbk.cell 0
      have c1 : w1.cell? ⟨R, 1, none⟩ = some (.bool false) := hbk.cell 1
      have HBK1 := Lib.hid hbk
      have HL1 := Lib.hid hl
      clear hbk hl hr
      go_wp2_with fail
      go_ret
      have hb1 := HBK1.out.set 1 (.bool true)
      refine ⟨by rw [HR.out]; rfl, ?_, (Keeps.ofBelow hb).trans (setR _ _) (fun i h => .inl h)⟩
      rw [HR.out]
      exact ⟨a, l0.length, cap, by simpa using hb1, l0, HB0.out, HL1.out.off HBK1.out (setR _ _), fun l' h => by cases h⟩

set_option maxRecDepth 100000 in
set_option maxHeartbeats 2000000 in
theorem sgn_read (B0 R : Nat) (st : Option (List UInt8)) (w : World) (hr : Rd B0 w R st) : Calls Try.prog 52 #[.pointer (some ⟨R, 0, none⟩)] w (SgnEnd B0 R st w) := by
  obtain ⟨a, n, cap, hbk, l, hB0, hl, hst⟩ := hr
  obtain ⟨a', cap', hv, h1, h2, _⟩ := id hl
  injection hv with e1 e2 e3
  subst e1 e2 e3
  unfold maxLen at h2
  have hRl := hbk.lt
  have c0 : w.cell? ⟨R, 0, none⟩ = some (.slice a l.length cap) := hbk.cell 0
  have c1 : w.cell? ⟨R, 1, none⟩ = some (.bool st.isNone) := hbk.cell 1
  have HBK := Lib.hid hbk
  have HL := Lib.hid hl
  have HS := Lib.hid hst
  have HB0 := Lib.hid hB0
  clear hbk hl hst hB0
  cases st with
  | none =>
    go_enter Try.func52, Try.ntmps52
    go_wp2_with fail
    refine (S_any _ l 64 _ HL.out (by omega) (by omega)).mono ?_
    rintro x w1 ⟨rfl, hb⟩
    have hbk := HBK.out.below hb hRl
    have hl := HL.out.below hb
    have z0 := hbk.free 0
    have z1 := hbk.free 1
    have c0 : w1.cell? ⟨R, 0, none⟩ = some (.slice a l.length cap) := hbk.cell 0
    have c1 : w1.cell? ⟨R, 1, none⟩ = some (.bool true) := hbk.cell 1
    have HBK1 := Lib.hid hbk
    have HL1 := Lib.hid hl
    clear hbk hl
    go_wp2_with fail
    go_ret
    have hb1 := HBK1.out.set 1 (.bool true)
    refine ⟨rfl, ⟨a, l.length, cap, by have h := hb1; simp at h; exact h, l, HB0.out, HL1.out.off HBK1.out (setR _ _), fun l' h => by cases h⟩, (Keeps.ofBelow hb).trans (setR _ _) (fun i h => .inl h)⟩
  | some l0 =>
    obtain rfl := HS.out l0 rfl
    by_cases hu : (sRes 64 l0).2.2 = 0
    · obtain ⟨u, r, hu1, hlr, hres⟩ := sRes64_ok hu
      obtain ⟨a3, cap3, hr3, hi3, hi4⟩ := slice_app2 hlr a cap
      have hle := congrArg List.length hlr
      rw [List.length_append] at hle
      have hle2 : (putS u).length ≤ l0.length := by omega
      have HI3 := Lib.hid hi3
      have HR := Lib.hid (show sgnR (some l0) = (u, some r) by simp only [sgnR, hres, if_true, Prod.mk.injEq, true_and, Option.some.injEq]; rw [hlr]; exact List.drop_left)
      have HI4 := Lib.hid hi4
      have HLR := Lib.hid hlr
      clear hi3 hi4 hu hle hlr
      go_enter Try.func52, Try.ntmps52
      go_wp2_with fail
      refine (S_any _ l0 64 _ HL.out (by omega) (by omega)).mono ?_
      rintro x w1 ⟨rfl, hb⟩
      rw [hres]
      have hbk := HBK.out.below hb hRl
      have hl := HL.out.below hb
      have z0 := hbk.free 0
      have z1 := hbk.free 1
      have c0 : w1.cell? ⟨R, 0, none⟩ = some (.slice a l0.length cap) := hbk.cell 0
      have c1 : w1.cell? ⟨R, 1, none⟩ = some (.bool false) := hbk.cell 1
      have HBK1 := Lib.hid hbk
      have HL1 := Lib.hid hl
      clear hbk hl hres
      go_wp2_with fail
      go_ret
      have hb1 := (HBK1.out.set 1 (.bool false)).set 0 (.slice a3 r.length cap3)
      have hkk : Keeps (fun k => k = R) w1 ((w1.setCell ⟨R, 1, none⟩ (.bool false)).setCell ⟨R, 0, none⟩ (.slice a3 r.length cap3)) := (setR 1 _).trans (setR 0 _) (fun i h => .inl h)
      refine ⟨by rw [HR.out]; rfl, ?_, (Keeps.ofBelow hb).trans hkk (fun i h => .inl h)⟩
      rw [HR.out]
      exact ⟨a3, r.length, cap3, by simpa using hb1, r, fun hne ad h => (by obtain ⟨ad0, g1, g2⟩ := HI4.out ad h; rw [g2]; exact HB0.out (by rw [HLR.out]; intro g; exact hne (List.append_eq_nil_iff.1 g).2) _ g1), (HI3.out _ HL1.out).off HBK1.out hkk, fun l' h => by injection h with h; exact h.symm⟩
    · have HR := Lib.hid (show sgnR (some l0) = (0, none) by simp only [sgnR]; rw [if_neg hu])
      obtain ⟨x, k, err, hr⟩ : ∃ x k err, sRes 64 l0 = (x, k, err) := ⟨_, _, _, rfl⟩
      have f1 : (err != 0) = true := ine_true (fun h => hu (by rw [hr]; exact h))
      clear hu
      go_enter Try.func52, Try.ntmps52
      go_wp2_with fail
      refine (S_any _ l0 64 _ HL.out (by omega) (by omega)).mono ?_
      rintro x w1 ⟨rfl, hb⟩
      rw [hr]
      have hbk := HBK.out.below hb hRl
      have hl := HL.out.below hb
      have z0 := hbk.free 0
      have z1 := hbk.free 1
      have c0 : w1.cell? ⟨R, 0, none⟩ = some (.slice a l0.length cap) := hbk.cell 0
      have c1 : w1.cell? ⟨R, 1, none⟩ = some (.bool false) := hbk.cell 1
      have HBK1 := Lib.hid hbk
      have HL1 := Lib.hid hl
      clear hbk hl hr
      go_wp2_with fail
      go_ret
      have hb1 := HBK1.out.set 1 (.bool true)
      refine ⟨by rw [HR.out]; rfl, ?_, (Keeps.ofBelow hb).trans (setR _ _) (fun i h => .inl h)⟩
      rw [HR.out]
      exact ⟨a, l0.length, cap, by simpa using hb1, l0, HB0.out, HL1.out.off HBK1.out (setR _ _), fun l' h => by cases h⟩
end Go.Proofs.Ytpknafidbmnjpaa
