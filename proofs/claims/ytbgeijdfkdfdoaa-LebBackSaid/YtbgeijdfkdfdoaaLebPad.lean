/-
  The law LebPad: a number that is written with more bytes than it needs is none. No condition.
-/
import Derived.Test.YtbgeijdfkdfdoaaLeb6
import Derived.Test.YtbgeijdfkdfdoaaLebSize
namespace Go.Proofs.Ytbgeijdfkdfdoaa
open Go.RowKit

/-- A store into a row of the call's own. -/
theorem OwnBytes.set {w : World} {B g n cap : Nat} {l : List UInt8} (h : OwnBytes w B (.slice (some ⟨g, 0, none⟩) n cap) l) (i : Nat) (y : UInt8) :
    OwnBytes (w.setCell ⟨g, i, none⟩ (bv y)) B (.slice (some ⟨g, 0, none⟩) n cap) (l.set i y) := by
  obtain ⟨h1, h2⟩ := h
  refine ⟨by simp, ?_⟩
  rcases h2 with ⟨h2, _⟩ | ⟨g', cap', cur, hv, hb, hg, hn, hm, hs, ht⟩
  · cases h2
  · injection hv with e1 e2 e3
    injection e1 with e1
    injection e1 with e1
    subst e1 e2 e3
    simp only [Nat.mul_one] at hs ht
    refine .inr ⟨g, cap, cur.setIfInBounds i (bv y), by simp, hb, heap_setCell_same w g i cur _ _ hg, by simpa using hn, hm, by simpa using hs, ?_⟩
    rw [List.length_set, Nat.mul_one, Array.toList_setIfInBounds, List.take_set, ht, List.map_set]

/-- What a row of the call's own looks like: its cells, and that none is frozen. -/
theorem OwnBytes.open {w : World} {B : Nat} {v : Value} {l : List UInt8} (h : OwnBytes w B v l) (hl : l ≠ []) :
    ∃ g cap, v = .slice (some ⟨g, 0, none⟩) l.length cap ∧ B ≤ g ∧ g < w.heap.size ∧ l.length ≤ cap ∧ cap ≤ maxLen ∧ (∀ i x, l[i]? = some x → w.cell? ⟨g, i, none⟩ = some (bv x)) ∧ ∀ i, w.frozen? ⟨g, i, none⟩ = false := by
  have hi := h.isBytes
  obtain ⟨h1, h2 | ⟨g, cap, cur, hv, hb, hg, hn, hm, hs, ht⟩⟩ := h
  · exact absurd (List.eq_nil_of_length_eq_zero h2.2) hl
  · refine ⟨g, cap, hv, hb, (Array.getElem?_eq_some_iff.1 hg).1, hn, hm, fun i x hx => ?_, fun i => frozen_of_row w g i cur _ hg⟩
    obtain ⟨a, c, hv', _, _, hc⟩ := hi
    obtain ⟨b, off, ha, hcell⟩ := hc i x hx
    rw [hv] at hv'
    injection hv' with e1 e2 e3
    subst e1
    injection ha with ha
    injection ha with e1 e2
    subst e1 e2
    rwa [Nat.zero_add] at hcell

theorem putUF_len (x : Nat) (h : x < 17592186044416) : 1 ≤ (putU x).length ∧ (putU x).length ≤ 7 := by
  have hl : ∀ f n, n < 128 ^ f → (putUF 10 n).length ≤ f ∨ f = 0 := by
    intro f n hn
    rcases Nat.eq_zero_or_pos f with h0 | h0
    · exact .inr h0
    left
    have key : ∀ (g f n : Nat), 0 < f → n < 128 ^ f → (putUF g n).length ≤ f := by
      intro g
      induction g with
      | zero => intro f n _ _; simp [putUF]
      | succ g ih =>
        intro f n hf hn
        rw [putUF]
        split
        · simp; omega
        · rename_i hge
          obtain ⟨f', rfl⟩ : ∃ f', f = f' + 1 := ⟨f - 1, by omega⟩
          rcases Nat.eq_zero_or_pos f' with h1 | h1
          · subst h1
            simp at hn
            omega
          · have := ih f' (n / 128) h1 (by rw [Nat.pow_succ] at hn; omega)
            simp
            omega
    exact key 10 f n h0 hn
  refine ⟨(putU_len x).1, ?_⟩
  have := hl 7 x (by omega)
  rcases this with h | h
  · exact h
  · cases h

theorem putUF_last : ∀ (f n : Nat), n < 128 ^ f → n ≠ 0 → (putUF f n).getLast? ≠ some 0
  | 0, n, h, h0 => by simp at h; omega
  | f + 1, n, h, h0 => by
    rw [putUF]
    split
    · simp only [List.getLast?_singleton]
      intro e
      injection e with e
      have := congrArg UInt8.toNat e
      rw [b8_toNat (by omega)] at this
      exact h0 this
    · have ih := putUF_last f (n / 128) (by rw [Nat.pow_succ] at h; omega) (by omega)
      cases hc : putUF f (n / 128) with
      | nil =>
        simp only [List.getLast?_singleton]
        intro e
        injection e with e
        have := congrArg UInt8.toNat e
        rw [b8_toNat (by omega)] at this
        exact absurd this (by simp)
      | cons y l =>
        rw [hc] at ih
        rwa [List.getLast?_cons_cons]

/-- Bytes that end in nought, behind another one, are no number. -/
theorem uRes_pad (l : List UInt8) (hl : l ≠ []) (hc : ∀ x ∈ l, 128 ≤ x.toNat) : (uRes 64 (l ++ [0])).2.1 = 0 ∧ (uRes 64 (l ++ [0])).2.2 = 1 := by
  have hcont : cont (l ++ [0]) = l.length := by
    clear hl
    induction l with
    | nil => simp [cont]
    | cons x l ih =>
      rw [List.cons_append, cont, if_pos (hc x (by simp)), ih (fun y hy => hc y (by simp [hy]))]
      simp
  have hp : 0 < l.length := List.length_pos_iff.2 hl
  have hlen : lenRes 64 (l ++ [0]) = if 10 ≤ l.length then (0, 1) else (l.length + 1, 0) := by
    unfold lenRes
    rw [if_neg (by omega), hcont]
    by_cases h : 10 ≤ l.length
    · rw [if_pos h, if_pos (by omega)]
    · rw [if_neg h, if_neg (by omega), if_neg (by simp)]
  unfold uRes
  rw [hlen]
  by_cases h : 10 ≤ l.length
  · rw [if_pos h]
    exact ⟨rfl, rfl⟩
  · rw [if_neg h, if_neg (by simp)]
    have ht : (l ++ [0]).take (l.length + 1) = l ++ [0] := List.take_of_length_le (by simp)
    simp only [ht]
    rw [if_neg]
    · exact ⟨rfl, rfl⟩
    · rintro ⟨h1, h2⟩
      have hv : valU (l ++ [0]) < 128 ^ 10 := Nat.lt_trans h2 (by decide)
      by_cases h0 : valU (l ++ [0]) = 0
      · rw [h0] at h1
        have := congrArg List.length h1
        have e : (putU 0).length = 1 := by decide +kernel
        rw [e, List.length_append] at this
        have e2 : ([0] : List UInt8).length = 1 := rfl
        rw [e2] at this
        omega
      · have := putUF_last 10 _ hv h0
        rw [← putU, h1] at this
        simp at this

def PadJ (l : List UInt8) (w w' : World) (v : Value) (i : Nat) (n : Nat) : Prop :=
  1 ≤ i ∧ i ≤ n ∧ OwnBytes w' w.heap.size v (l ++ List.replicate (i - 1) 128) ∧ Below w.heap.size w w'

theorem putUF_shape : ∀ (f n : Nat), n < 128 ^ (f + 1) → ∃ p z, putUF (f + 1) n = p ++ [z] ∧ ∀ y ∈ p, 128 ≤ y.toNat := by
  intro f
  induction f with
  | zero =>
    intro n h
    exact ⟨[], b8 n, by rw [putUF, if_pos (by omega)]; rfl, by simp⟩
  | succ f ih =>
    intro n h
    rw [putUF]
    split
    · exact ⟨[], b8 n, rfl, by simp⟩
    · obtain ⟨p, z, h1, h2⟩ := ih (n / 128) (by rw [Nat.pow_succ] at h; omega)
      refine ⟨b8 (n % 128 + 128) :: p, z, by rw [h1]; rfl, fun y hy => ?_⟩
      rcases List.mem_cons.1 hy with rfl | hy
      · rw [b8_toNat (by omega)]
        omega
      · exact h2 y hy

set_option maxRecDepth 100000 in
set_option maxHeartbeats 1000000 in
theorem pad_in (u : Nat) (n : Nat) (hu : u < 18446744073709551616) (hn1 : 1 ≤ n) (hn2 : n ≤ 5) (w : World) :
    Calls Try.prog 8 #[.int .u64 u, .int .i64 n] w (TrueEnd w) := by
  have hx : u / 1048576 < 17592186044416 := by omega
  have hx7 := (putUF_len _ hx).2
  obtain ⟨p, z, hp, hp8⟩ := putUF_shape 9 (u / 1048576) (by omega)
  change putU (u / 1048576) = p ++ [z] at hp
  rw [hp, List.length_append] at hx7
  have hpl : p.length ≤ 6 := by simp at hx7; omega
  have HP := Lib.hid hp
  have HP8 := Lib.hid hp8
  clear hp hp8 hx7
  have hz8 := z.toNat_lt
  go_enter Try.func8, Try.ntmps8
  go_wp2_with fail
  refine (begun_any _).mono ?_
  rintro e w1 ⟨rfl, hb⟩
  go_wp2_with fail
  rw [show ((u : Int) / 1048576) = ((u / 1048576 : Nat) : Int) from by omega]
  refine (putU_any _ [] (u / 1048576) (by omega) w.heap.size _ (OwnBytes.nil _ _) (by simp) hb.size).mono ?_
  rintro e w2 ⟨v1, rfl, ho, hk, _⟩
  replace hb := below_next hb (keeps_nil hk rfl)
  clear hk
  rw [List.nil_append, HP.out] at ho
  obtain ⟨g, cap, rfl, hg1, hg2, hcap, hmax, hcell, hfree⟩ := ho.open (by simp)
  have hc := hcell p.length z (by simp)
  have hf := hfree p.length
  have HO := Lib.hid ho
  rw [List.length_append] at hcap ⊢
  clear hcell hfree ho
  change p.length + 1 ≤ cap at hcap
  change _ ≤ 2 ^ 63 - 1 at hmax
  have hm : bits .or .u8 (z.toNat : Int) 128 = ((b8 (z.toNat % 128 + 128)).toNat : Int) := by rw [b8_toNat (by omega), bits_or128 z.toNat (by omega)]
  have HM := Lib.hid hm
  clear hm
  have hl0 : (((p.length : Int) + 1) == 0) = false := ieq_false (by omega)
  go_wp2_with fail
  rw [HM.out]
  have hset := HO.out.set p.length (b8 (z.toNat % 128 + 128))
  have hb3 : Below w.heap.size w (w2.setCell ⟨g, p.length, none⟩ (bv (b8 (z.toNat % 128 + 128)))) := hb.setCell hg1 _
  change OwnBytes (w2.setCell ⟨g, p.length, none⟩ (bv (b8 (z.toNat % 128 + 128)))) _ _ _ at hset
  rw [List.set_append_right _ _ (Nat.le_refl _), Nat.sub_self, List.set_cons_zero, List.length_append] at hset
  change OwnBytes (w2.setCell ⟨g, p.length, none⟩ (bv (b8 (z.toNat % 128 + 128)))) _ (.slice (some ⟨g, 0, none⟩) (p.length + 1) cap) _ at hset
  change Code.wp _ _ _ _ (w2.setCell ⟨g, p.length, none⟩ (bv (b8 (z.toNat % 128 + 128))))
  generalize w2.setCell ⟨g, p.length, none⟩ (bv (b8 (z.toNat % 128 + 128))) = w3 at hset hb3 ⊢
  clear hc hf HO HM hb hg2 hcap hmax hz8
  refine wp_loop (fun a' w' => ∃ (v : Value) (i : Nat) (u5 u8 u9 u10 u11 u12 u13 u14 u15 u16 u17 u18 u19 u20 u21 u22 u23 u24 u25 u26 u27 u28 u29 u30 u31 u32 u33 u34 u35 u36 u37 u38 u39 u40 u41 u42 u43 u44 u45 u46 u47 u48 u49 u50 u51 u52 u53 u54 u55 u56 : Value), a' = { tmps := #[.int .u64 u, .int .i64 n, undef, undef, .bool false, u5, v, .int .i64 i, u8, u9, u10, u11, u12, u13, u14, u15, u16, u17, u18, u19, u20, u21, u22, u23, u24, u25, u26, u27, u28, u29, u30, u31, u32, u33, u34, u35, u36, u37, u38, u39, u40, u41, u42, u43, u44, u45, u46, u47, u48, u49, u50, u51, u52, u53, u54, u55, u56], defers := [] } ∧ PadJ (p ++ [b8 (z.toNat % 128 + 128)]) w w' v i n) (fun a' _ => (n + 1 - (intOf (a'.tmps.getD 7 undef)).toNat)) ?_ ?_
  · exact ⟨_, 1, _, _, _, _, _, _, _, _, _, _, _, _, _, _, _, _, _, _, _, _, _, _, _, _, _, _, _, _, _, _, _, _, _, _, _, _, _, _, _, _, _, _, _, _, _, _, _, _, _, _, rfl, by omega, hn1, by simpa using hset, hb3⟩
  · rintro a' w4 ⟨v, i, u5, u8, u9, u10, u11, u12, u13, u14, u15, u16, u17, u18, u19, u20, u21, u22, u23, u24, u25, u26, u27, u28, u29, u30, u31, u32, u33, u34, u35, u36, u37, u38, u39, u40, u41, u42, u43, u44, u45, u46, u47, u48, u49, u50, u51, u52, u53, u54, u55, u56, rfl, hJ⟩
    obtain ⟨hi1, hi2, ho, hb4⟩ := hJ
    clear hset hb3
    have hrl : (p ++ [b8 (z.toNat % 128 + 128)] ++ List.replicate (i - 1) 128).length ≤ 140737488355327 := by simp; omega
    generalize hmm : p ++ [b8 (z.toNat % 128 + 128)] ++ List.replicate (i - 1) 128 = m at ho hrl
    have HM := Lib.hid hmm
    clear hmm
    by_cases hin : i < n
    · go_wp2_with (first | (at_builtin; refine wpList_byte w4 rfl _ _ rfl rfl w.heap.size v _ rfl ho 128 _ rfl rfl hrl hb4.size ?_))
      intro v' w5 ho5 hk5 _
      go_wp2
      refine ⟨⟨v', i + 1, _, _, _, _, _, _, _, _, _, _, _, _, _, _, _, _, _, _, _, _, _, _, _, _, _, _, _, _, _, _, _, _, _, _, _, _, _, _, _, _, _, _, _, _, _, _, _, _, _, _, rfl, by omega, by omega, ?_, hb4.trans (hk5.below hb4.size (fun j hj => (own_lt ho hj).1))⟩, ?_⟩
      · rw [← HM.out, List.append_assoc, ← List.replicate_succ', show i - 1 + 1 = i + 1 - 1 from by omega] at ho5
        exact ho5
      · simp [intOf]
        omega
    · have hpad := uRes_pad (p ++ [b8 (z.toNat % 128 + 128)] ++ List.replicate (i - 1) 128) (by simp) (by
        intro y hy
        simp only [List.mem_append, List.mem_singleton, List.mem_replicate] at hy
        rcases hy with (hy | rfl) | ⟨_, rfl⟩
        · exact HP8.out y hy
        · rw [b8_toNat (by omega)]
          omega
        · decide)
      rw [HM.out] at hpad
      have HQ1 := Lib.hid hpad.1
      have HQ2 := Lib.hid hpad.2
      clear hpad
      go_wp2_with (first | (at_builtin; refine wpList_byte w4 rfl _ _ rfl rfl w.heap.size v _ rfl ho 0 _ rfl rfl hrl hb4.size ?_))
      intro v' w5 ho5 hk5 _
      have hb5 := hb4.trans (hk5.below hb4.size (fun j hj => (own_lt ho hj).1))
      go_wp2_with fail
      refine (U_any _ _ 64 _ ho5.isBytes (by omega) (by omega)).mono ?_
      rintro e w6 ⟨rfl, hb6⟩
      rw [HQ1.out, HQ2.out]
      replace hb5 := below_next hb5 hb6
      go_wp2_with fail
      go_ret
      exact ⟨rfl, hb5⟩

theorem pad_out (u : Nat) (n : Int) (w : World) (h1 : -9223372036854775808 ≤ n) (h2 : n ≤ 9223372036854775807) (hn : n < 1 ∨ 5 < n) :
    Calls Try.prog 8 #[.int .u64 u, .int .i64 n] w (TrueEnd w) := by
  rcases hn with hn | hn
  · go_enter Try.func8, Try.ntmps8
    go_wp2_with fail
    refine (begun_any _).mono ?_
    rintro e w1 ⟨rfl, hb⟩
    go_wp2_with fail
    go_ret
    exact ⟨rfl, hb⟩
  · go_enter Try.func8, Try.ntmps8
    go_wp2_with fail
    refine (begun_any _).mono ?_
    rintro e w1 ⟨rfl, hb⟩
    go_wp2_with fail
    go_ret
    exact ⟨rfl, hb⟩

/-- THE WALK of the law. -/
theorem pad_any (u n : Int) (w : World) (h0 : (Lit.int .u64 u).wf = true) (h1 : (Lit.int .i64 n).wf = true) :
    Calls Try.prog 8 #[.int .u64 u, .int .i64 n] w (TrueEnd w) := by
  obtain ⟨a0, a1⟩ := bounds_u64 h0
  obtain ⟨c0, c1⟩ := bounds_i64 h1
  obtain ⟨u, rfl⟩ := Int.eq_ofNat_of_zero_le a0
  by_cases hn : n < 1 ∨ 5 < n
  · exact pad_out u n w c0 c1 hn
  · obtain ⟨m, rfl⟩ := Int.eq_ofNat_of_zero_le (show 0 ≤ n by omega)
    exact pad_in u m (by omega) (by omega) (by omega) w
end Go.Proofs.Ytbgeijdfkdfdoaa
