/-
  Walks of bytes.Equal, slices.IndexFunc at an entry, dir.Find; and what bytes that begin with a number say of it.
-/
import Derived.Test.YtbgeijdfkdfdoaaDirD
namespace Go.Proofs.Ytbgeijdfkdfdoaa
open Go.RowKit

theorem bytesEq_any (a b : Value) (l m : List UInt8) (w : World) (ha : IsBytes w a l) (hb : IsBytes w b m) :
    Calls Try.prog 50 #[a, b] w (SameEnd l m w) := by
  have h1 := run_str ha
  have h2 := run_str hb
  clear ha hb
  go_enter Try.func50, Try.ntmps50
  go_wp2
  go_ret
  exact ⟨by rw [bs_toList, bs_toList]; rfl, rfl⟩

/-- A number of 32 bits is read, whatever stands behind it. -/
theorem uRes32_put (u : Nat) (rest : List UInt8) (hu : u < 4294967296) : uRes 32 (putU u ++ rest) = (u, (putU u).length, 0) := by
  obtain ⟨p, z, h1, h2, h3, h4⟩ := putUF_shape2 9 u (by omega)
  change putU u = p ++ [z] at h1
  have hp : p.length ≤ 4 := by
    rcases putUF_big 10 u (by omega) with h | h
    · change (putU u).length ≤ 1 at h
      rw [h1] at h
      simp at h
      simp [h]
    · change 128 ^ ((putU u).length - 1) ≤ u at h
      rw [h1, List.length_append, List.length_singleton, Nat.add_sub_cancel] at h
      rcases Nat.lt_or_ge 4 p.length with g | g
      · have : (128 : Nat) ^ 5 ≤ 128 ^ p.length := Nat.pow_le_pow_right (by omega) g
        omega
      · exact g
  have hl : lenRes 32 (putU u ++ rest) = ((putU u).length, 0) := by
    rw [h1, List.append_assoc, List.singleton_append]
    unfold lenRes
    rw [if_neg (by omega), cont_shape p z rest h2 h3, if_neg (by omega), if_neg (by simp)]
    simp
  unfold uRes
  rw [hl, if_neg (by simp)]
  have ht : (putU u ++ rest).take (putU u).length = putU u := List.take_left
  simp only [ht]
  rw [valU_putU (by omega), if_pos ⟨rfl, by simpa using hu⟩]

theorem uRes32_ok {l : List UInt8} (h : (uRes 32 l).2.2 = 0) : ∃ u rest, u < 4294967296 ∧ l = putU u ++ rest ∧ uRes 32 l = (u, (putU u).length, 0) := by
  unfold uRes at h ⊢
  by_cases h1 : (lenRes 32 l).2 ≠ 0
  · rw [if_pos h1] at h
    exact absurd h h1
  · rw [if_neg h1] at h ⊢
    by_cases h2 : putU (valU (l.take (lenRes 32 l).1)) = l.take (lenRes 32 l).1 ∧ valU (l.take (lenRes 32 l).1) < 2 ^ (32 : Int).toNat
    · rw [if_pos h2]
      obtain ⟨_, _, k1, k2, _⟩ := lenRes_ok (Decidable.not_not.1 h1)
      refine ⟨_, l.drop (lenRes 32 l).1, by simpa using h2.2, by rw [h2.1, List.take_append_drop], ?_⟩
      rw [h2.1, List.length_take, Nat.min_eq_left (by omega)]
    · rw [if_neg h2] at h
      cases h

theorem uRes32_bad {l : List UInt8} (h : (uRes 32 l).2.2 ≠ 0) (u : Nat) (rest : List UInt8) (hu : u < 4294967296) : l ≠ putU u ++ rest := by
  intro e
  rw [e, uRes32_put u rest hu] at h
  exact h rfl

/-- A number stands alike in front. -/
theorem putU_front {u v : Nat} {r s : List UInt8} (hu : u < 4294967296) (hv : v < 4294967296) (h : putU u ++ r = putU v ++ s) : u = v ∧ r = s := by
  have h1 := uRes32_put u r hu
  have h2 := uRes32_put v s hv
  rw [h, h2] at h1
  injection h1 with h1 _
  subst h1
  exact ⟨rfl, List.append_cancel_left h⟩

/-- The place of a name. -/
def findR (l : List DEnt) (nm : List UInt8) : Int := match l.findIdx? (fun e => e.name == nm) with | some i => i | none => -1

theorem findR_hit {l : List DEnt} {nm : List UInt8} {k : Nat} {e : DEnt} (he : l[k]? = some e) (hn : (e.name == nm) = true) (hb : ∀ i, i < k → ∀ d, l[i]? = some d → (d.name == nm) = false) : findR l nm = k := by
  obtain ⟨hk, rfl⟩ := List.getElem?_eq_some_iff.1 he
  have : l.findIdx? (fun e => e.name == nm) = some k := by
    rw [List.findIdx?_eq_some_iff_getElem]
    refine ⟨hk, hn, fun j hj => ?_⟩
    rw [hb j hj _ (List.getElem?_eq_getElem (by omega))]
    simp
  rw [findR, this]

theorem findR_miss {l : List DEnt} {nm : List UInt8} (hb : ∀ i, i < l.length → ∀ d, l[i]? = some d → (d.name == nm) = false) : findR l nm = -1 := by
  have : l.findIdx? (fun e => e.name == nm) = none := by
    rw [List.findIdx?_eq_none_iff]
    intro x hx
    obtain ⟨i, hi⟩ := List.mem_iff_getElem?.1 hx
    exact hb i (List.getElem?_eq_some_iff.1 hi).1 x hi
  rw [findR, this]

def FindEnd (l : List DEnt) (nm : List UInt8) (w : World) (e : Ending) (w' : World) : Prop := e = .returned (.int .i64 (findR l nm)) ∧ Below w.heap.size w w'

/-- The closure of Find. -/
theorem findPred_any (e : DEnt) (nm : List UInt8) (B : Nat) (w : World) (hc : w.cell? ⟨B, 0, none⟩ = some (.string (bs nm))) :
    Calls Try.prog 52 #[.agg #[.string (bs e.name), .int .i64 e.len, .int .i64 e.pos, .int .i64 e.sp], .pointer (some ⟨B, 0, none⟩)] w (BoolEnd (e.name == nm) w) := by
  have hlt := World.block_lt_of_cell? w _ hc
  simp only at hlt
  have hc' : (w.alloc (.cells #[.string (bs e.name), .int .i64 e.len, .int .i64 e.pos, .int .i64 e.sp] 52)).cell? ⟨B, 0, none⟩ = some (.string (bs nm)) := by
    rw [((Below.refl w.heap.size w).alloc (Nat.le_refl _) _).cell hlt]
    exact hc
  go_enter Try.func52, Try.ntmps52
  go_wp2_with fail
  go_ret
  exact ⟨by rw [bs_toList, bs_toList]; rfl, (Below.refl _ _).alloc (Nat.le_refl _) _⟩

def IxJ (l : List DEnt) (nm : List UInt8) (w w' : World) (k : Nat) : Prop := k ≤ l.length ∧ (∀ i, i < k → ∀ d, l[i]? = some d → (d.name == nm) = false) ∧ Below w.heap.size w w'

set_option maxRecDepth 100000 in
set_option maxHeartbeats 2000000 in
theorem ixFunc_any (v : Value) (l : List DEnt) (nm : List UInt8) (B : Nat) (w : World) (hl : IsEnts w v l) (hc : w.cell? ⟨B, 0, none⟩ = some (.string (bs nm))) :
    Calls Try.prog 51 #[v, .func (.func 52) #[] #[.pointer (some ⟨B, 0, none⟩)]] w (FindEnd l nm w) := by
  have hlt := World.block_lt_of_cell? w _ hc
  simp only at hlt
  have HC := Lib.hid hc
  have HI := Lib.hid hl
  obtain ⟨a, cap, rfl, h1, h2, _⟩ := hl
  unfold maxLen at h2
  clear hc
  go_enter Try.func51, Try.ntmps51
  go_wp2_with fail
  refine wp_loop_r (fun a' w' => ∃ (k : Nat), a' = { tmps := #[.slice a l.length cap, .func (.func 52) #[] #[.pointer (some ⟨B, 0, none⟩)], slot a' 2, slot a' 3, slot a' 4, slot a' 5, slot a' 6, .int .i64 l.length, .int .i64 k, slot a' 9, slot a' 10, slot a' 11, slot a' 12, slot a' 13, slot a' 14, slot a' 15, slot a' 16, slot a' 17, slot a' 18], defers := [] } ∧ IxJ l nm w w' k) (fun a' _ => (l.length - (intOf (a'.tmps.getD 8 undef)).toNat)) ?_ ?_
  · exact ⟨0, rfl, by omega, fun i hi => by omega, Below.refl _ _⟩
  · skip
    rintro R a' w1 ⟨k, hfr, hJ⟩ HR
    obtain ⟨f, hf⟩ : ∃ f, f = slot a' := ⟨_, rfl⟩
    rw [← hf] at hfr
    clear hf
    subst hfr
    obtain ⟨hk, hm, hb⟩ := hJ
    have HMM := Lib.hid hm
    clear hm
    by_cases hkl : k < l.length
    · obtain ⟨e, he⟩ : ∃ e, l[k]? = some e := ⟨_, List.getElem?_eq_getElem hkl⟩
      obtain ⟨a', cap', hv, _, _, hcells⟩ := HI.out.below (hb.mono (Nat.le_refl _))
      injection hv with e1 e2 e3
      subst e1 e3
      obtain ⟨ho, b, off, rfl, c0, c1, c2, c3⟩ := hcells k e he
      have HE := Lib.hid he
      clear hcells e2 he
      have hcl : w1.cell? ⟨B, 0, none⟩ = some (.string (bs nm)) := by rw [hb.cell hlt]; exact HC.out
      have hcall := findPred_any e nm B w1 hcl
      cases hq : e.name == nm
      · rw [hq] at hcall
        have HQ := Lib.hid hq
        clear hq hcl
        go_wp2_with fail
        refine hcall.mono ?_
        rintro x w2 ⟨rfl, hb2⟩
        replace hb := below_next hb hb2
        clear hcall c0 c1 c2 c3 hb2
        go_wp2_with fail
        refine HR.out _ _ ⟨k + 1, rfl, by omega, ?_, hb⟩ ?_
        · intro i hi d hd
          rcases Nat.lt_or_ge i k with h | h
          · exact HMM.out i h d hd
          · obtain rfl : i = k := by omega
            rw [HE.out] at hd
            injection hd with hd
            rw [← hd]
            exact HQ.out
        · simp [intOf]
          omega
      · rw [hq] at hcall
        have HQ := Lib.hid hq
        clear hq hcl
        go_wp2_with fail
        refine hcall.mono ?_
        rintro x w2 ⟨rfl, hb2⟩
        replace hb := below_next hb hb2
        clear hcall c0 c1 c2 c3 hb2
        go_wp2_with fail
        go_ret
        exact ⟨by rw [findR_hit HE.out HQ.out HMM.out]; rfl, hb⟩
    · obtain rfl : k = l.length := by omega
      go_wp2_with fail
      go_ret
      exact ⟨by rw [findR_miss HMM.out]; rfl, hb⟩

theorem find_any (v : Value) (l : List DEnt) (nm : List UInt8) (w : World) (hl : IsEnts w v l) : Calls Try.prog 34 #[v, .string (bs nm)] w (FindEnd l nm w) := by
  go_enter Try.func34, Try.ntmps34
  go_wp2_with fail
  refine (ixFunc_any v l nm w.heap.size _ (hl.below ((Below.refl _ _).alloc (Nat.le_refl _) _)) (by simp)).mono ?_
  rintro x w2 ⟨rfl, hb2⟩
  have hb := ((Below.refl w.heap.size w).alloc (Nat.le_refl _) _).trans (hb2.mono (by simp))
  go_wp2_with fail
  go_ret
  exact ⟨rfl, hb⟩
end Go.Proofs.Ytbgeijdfkdfdoaa
