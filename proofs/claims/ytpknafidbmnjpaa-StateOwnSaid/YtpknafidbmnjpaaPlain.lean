/-
  Plain words on bytes and numbers that the walks of the upper layers use. No condition.
-/
import Derived.Test.YtpknafidbmnjpaaLeb3
import Derived.Test.YtpknafidbmnjpaaLeb4
import Derived.Test.YtpknafidbmnjpaaBlk
import Derived.Test.YtpknafidbmnjpaaSeq
namespace Go.Proofs.Ytpknafidbmnjpaa
open Go.RowKit

def TrueEnd (w : World) (e : Ending) (w' : World) : Prop := e = .returned (.bool true) ∧ Below w.heap.size w w'

theorem IsBytes.alloc {w : World} {v : Value} {l : List UInt8} (h : IsBytes w v l) (o : Obj) : IsBytes (w.alloc o) v l := h.below ((Below.refl _ _).alloc (Nat.le_refl _) o)

theorem below_next {a b c : World} (h : Below a.heap.size a b) (k : Below b.heap.size b c) : Below a.heap.size a c := h.trans (k.mono h.size)

theorem below_alloc {a b : World} (h : Below a.heap.size a b) (o : Obj) : Below a.heap.size a (b.alloc o) := h.alloc h.size o

theorem keeps_nil {a b : World} {v : Value} (h : Keeps (OwnB v) a b) (hv : v.ownBlock = none) : Below a.heap.size a b := h.below (Nat.le_refl _) (fun i hi => by rw [OwnB, hv] at hi; cases hi)

theorem lit_isBytes (w : World) (l : List UInt8) (h : l.length ≤ 1000000) : IsBytes (w.alloc (.cells (l.map bv).toArray 5)) (.slice (some ⟨w.heap.size, 0, none⟩) l.length l.length) l := by
  refine ⟨_, l.length, rfl, Nat.le_refl _, by simp [maxLen]; omega, fun i x hx => ⟨w.heap.size, 0, rfl, ?_⟩⟩
  rw [Nat.zero_add, World.cell?_alloc_new]
  simp [hx]

theorem putU_len (n : Nat) : 1 ≤ (putU n).length ∧ (putU n).length ≤ 10 := by
  have h : ∀ f n, (putUF f n).length ≤ f := by
    intro f
    induction f with
    | zero => intro n; simp [putUF]
    | succ f ih =>
      intro n
      rw [putUF]
      split
      · simp
      · have := ih (n / 128)
        simp
        omega
  refine ⟨?_, h 10 n⟩
  rw [putU, putUF]
  split <;> simp

theorem OwnBytes.set {w : World} {B g n cap : Nat} {l : List UInt8} (h : OwnBytes w B (.slice (some ⟨g, 0, none⟩) n cap) l) (i : Nat) (y : UInt8) :
    OwnBytes (w.setCell ⟨g, i, none⟩ (bv y)) B (.slice (some ⟨g, 0, none⟩) n cap) (l.set i y) := by
  obtain ⟨h1, h2⟩ := h
  refine ⟨by simp, ?_⟩
  rcases h2 with ⟨h2, _⟩ | ⟨g', cap', cur, hv, hb, hg, hn, hm, hs, ht⟩
  · cases h2
  · injection hv with e1 e2 e3
    injection e1 with e1
    injection e1 with e1
    subst e1 e2 e3
    simp only [Nat.mul_one] at hs ht
    refine .inr ⟨g, cap, cur.setIfInBounds i (bv y), by simp, hb, heap_setCell_same w g i cur _ _ hg, by simpa using hn, hm, by simpa using hs, ?_⟩
    rw [List.length_set, Nat.mul_one, Array.toList_setIfInBounds, List.take_set, ht, List.map_set]

theorem OwnBytes.open {w : World} {B : Nat} {v : Value} {l : List UInt8} (h : OwnBytes w B v l) (hl : l ≠ []) :
    ∃ g cap, v = .slice (some ⟨g, 0, none⟩) l.length cap ∧ B ≤ g ∧ g < w.heap.size ∧ l.length ≤ cap ∧ cap ≤ maxLen ∧ (∀ i x, l[i]? = some x → w.cell? ⟨g, i, none⟩ = some (bv x)) ∧ ∀ i, w.frozen? ⟨g, i, none⟩ = false := by
  have hi := h.isBytes
  obtain ⟨h1, h2 | ⟨g, cap, cur, hv, hb, hg, hn, hm, hs, ht⟩⟩ := h
  · exact absurd (List.eq_nil_of_length_eq_zero h2.2) hl
  · refine ⟨g, cap, hv, hb, (Array.getElem?_eq_some_iff.1 hg).1, hn, hm, fun i x hx => ?_, fun i => frozen_of_row w g i cur _ hg⟩
    obtain ⟨a, c, hv', _, _, hc⟩ := hi
    obtain ⟨b, off, ha, hcell⟩ := hc i x hx
    rw [hv] at hv'
    injection hv' with e1 e2 e3
    subst e1
    injection ha with ha
    injection ha with e1 e2
    subst e1 e2
    rwa [Nat.zero_add] at hcell

def sliceFrom (a : Option Addr) (len cap k : Nat) : Value := .slice (if cap = k then a else a.map (·.add (k * 1))) (len - k) (cap - k)

theorem run_slice_from (a : Option Addr) (len cap k : Nat) (hk : k ≤ len) (w : World) :
    (Instr.slice 28 (.slice a len cap) (some (.int .i64 k)) none none).run Try.prog w = .ok (sliceFrom a len cap k) w := by
  have hu : Try.prog.underlying 28 = some (.slice 5) := by kernel_rfl
  obtain ⟨i0, hi, hz0, hz1, hz2⟩ := info_parts info_u8
  simp [Instr.slice, run_underlying hu, Instr.sliceBounds, Instr.sliceBound, sizeOf, typeInfo, hi, hz1, asIntOf, hk, sliceFrom]

theorem IsBytes.drop {w : World} {a : Option Addr} {n cap : Nat} {l : List UInt8} (h : IsBytes w (.slice a n cap) l) (k : Nat) (hk : k ≤ l.length) : IsBytes w (sliceFrom a n cap k) (l.drop k) := by
  obtain ⟨a', cap', hv, h1, h2, h3⟩ := h
  injection hv with e1 e2 e3
  subst e1 e2 e3
  refine ⟨_, cap - k, by rw [sliceFrom, List.length_drop], by rw [List.length_drop]; omega, by simp only [maxLen] at *; omega, fun i x hx => ?_⟩
  rw [List.getElem?_drop] at hx
  obtain ⟨b, off, rfl, hc⟩ := h3 _ x hx
  have hlt := (List.getElem?_eq_some_iff.1 hx).1
  rw [if_neg (by omega)]
  refine ⟨b, off + k, ?_, ?_⟩
  · simp only [Option.map_some, Nat.mul_one]
    unfold Addr.add
    split <;> simp_all
  · rw [Nat.add_assoc]
    exact hc

theorem cont_shape (p : List UInt8) (z : UInt8) (rest : List UInt8) (hp : ∀ y ∈ p, 128 ≤ y.toNat) (hz : z.toNat < 128) : cont (p ++ z :: rest) = p.length := by
  induction p with
  | nil => simp [cont]; omega
  | cons x p ih =>
    rw [List.cons_append, cont, if_pos (hp x (by simp)), ih (fun y hy => hp y (by simp [hy]))]
    rfl

theorem putUF_shape2 : ∀ (f n : Nat), n < 128 ^ (f + 1) → ∃ p z, putUF (f + 1) n = p ++ [z] ∧ (∀ y ∈ p, 128 ≤ y.toNat) ∧ z.toNat < 128 ∧ p.length ≤ f := by
  intro f
  induction f with
  | zero =>
    intro n h
    exact ⟨[], b8 n, by rw [putUF, if_pos (by omega)]; rfl, by simp, by rw [b8_toNat (by omega)]; omega, Nat.le_refl _⟩
  | succ f ih =>
    intro n h
    rw [putUF]
    split
    · exact ⟨[], b8 n, rfl, by simp, by rw [b8_toNat (by omega)]; omega, by simp⟩
    · obtain ⟨p, z, h1, h2, h3, h4⟩ := ih (n / 128) (by rw [Nat.pow_succ] at h; omega)
      refine ⟨b8 (n % 128 + 128) :: p, z, by rw [h1]; rfl, fun y hy => ?_, h3, by simpa using h4⟩
      rcases List.mem_cons.1 hy with rfl | hy
      · rw [b8_toNat (by omega)]
        omega
      · exact h2 y hy

theorem putSF_shape : ∀ (f : Nat) (n : Int), -((128 : Int) ^ (f + 1)) ≤ 2 * n → 2 * n < 128 ^ (f + 1) → ∃ p z, putSF (f + 1) n = p ++ [z] ∧ (∀ y ∈ p, 128 ≤ y.toNat) ∧ z.toNat < 128 ∧ p.length ≤ f := by
  intro f
  induction f with
  | zero =>
    intro n h h'
    exact ⟨[], b8 (n % 128).toNat, by rw [putSF, if_pos (by omega)]; rfl, by simp, by rw [b8_toNat (by omega)]; omega, Nat.le_refl _⟩
  | succ f ih =>
    intro n h h'
    rw [putSF]
    split
    · exact ⟨[], b8 (n % 128).toNat, rfl, by simp, by rw [b8_toNat (by omega)]; omega, by simp⟩
    · rw [Int.pow_succ, Int.pow_succ] at h h'
      obtain ⟨p, z, h1, h2, h3, h4⟩ := ih (n / 128) (by rw [Int.pow_succ]; omega) (by rw [Int.pow_succ]; omega)
      refine ⟨b8 ((n % 128).toNat + 128) :: p, z, by rw [h1]; rfl, fun y hy => ?_, h3, by simpa using h4⟩
      rcases List.mem_cons.1 hy with rfl | hy
      · rw [b8_toNat (by omega)]
        omega
      · exact h2 y hy

theorem slice_app {L p q : List UInt8} (hL : L = p ++ q) (a : Option Addr) (cap : Nat) : ∃ a2 cap2,
    (∀ wx, (Instr.slice 28 (.slice a L.length cap) (some (.int .i64 p.length)) none none).run Try.prog wx = .ok (.slice a2 q.length cap2) wx) ∧
    ∀ wy, IsBytes wy (.slice a L.length cap) L → IsBytes wy (.slice a2 q.length cap2) q := by
  have hle : p.length ≤ L.length := by rw [hL]; simp
  have hd : L.drop p.length = q := by rw [hL]; exact List.drop_left
  have hl : L.length - p.length = q.length := by rw [hL]; simp
  refine ⟨if cap = p.length then a else a.map (·.add (p.length * 1)), cap - p.length, fun wx => ?_, fun wy h => ?_⟩
  · rw [run_slice_from a L.length cap p.length hle wx, sliceFrom, hl]
  · have := h.drop p.length hle
    rw [hd, sliceFrom, hl] at this
    exact this

theorem putUF_big : ∀ (f n : Nat), n < 128 ^ f → (putUF f n).length ≤ 1 ∨ 128 ^ ((putUF f n).length - 1) ≤ n
  | 0, n, _ => by simp [putUF]
  | f + 1, n, h => by
    rw [putUF]
    split
    · left; simp
    · rename_i hge
      right
      rcases putUF_big f (n / 128) (by rw [Nat.pow_succ] at h; omega) with h1 | h1
      · have : (b8 (n % 128 + 128) :: putUF f (n / 128)).length - 1 ≤ 1 := by simp; exact h1
        have h2 : 128 ^ ((b8 (n % 128 + 128) :: putUF f (n / 128)).length - 1) ≤ 128 ^ 1 := Nat.pow_le_pow_right (by omega) this
        omega
      · rw [List.length_cons, Nat.add_sub_cancel]
        rcases Nat.eq_zero_or_pos (putUF f (n / 128)).length with h0 | h0
        · rw [h0]
          omega
        · obtain ⟨m, hm⟩ : ∃ m, (putUF f (n / 128)).length = m + 1 := ⟨_, (Nat.succ_pred_eq_of_pos h0).symm⟩
          rw [hm] at h1 ⊢
          rw [Nat.add_sub_cancel] at h1
          rw [Nat.pow_succ]
          have := Nat.mul_le_mul_right 128 h1
          omega

theorem putSF_big : ∀ (f : Nat) (n : Int), -((128 : Int) ^ (f + 1)) ≤ 2 * n → 2 * n < 128 ^ (f + 1) → (putSF (f + 1) n).length = 1 ∨ ((putSF (f + 1) n).length ≠ 0 ∧ ¬ (-(64 * 128 ^ ((putSF (f + 1) n).length - 2)) ≤ n ∧ n < 64 * 128 ^ ((putSF (f + 1) n).length - 2))) := by
  intro f
  induction f with
  | zero =>
    intro n h h'
    left
    rw [putSF, if_pos (by omega)]
    rfl
  | succ f ih =>
    intro n h h'
    rw [putSF]
    split
    · left; rfl
    · rename_i hs
      right
      rw [Int.pow_succ, Int.pow_succ] at h h'
      obtain h1 | h1 := ih (n / 128) (by rw [Int.pow_succ]; omega) (by rw [Int.pow_succ]; omega)
      · rw [List.length_cons, h1]
        simp
        omega
      · rw [List.length_cons]
        obtain ⟨h0, h1⟩ := h1
        obtain ⟨m, hm⟩ : ∃ m, (putSF (f + 1) (n / 128)).length = m + 1 := ⟨_, (Nat.succ_pred_eq_of_pos (Nat.pos_of_ne_zero h0)).symm⟩
        rw [hm] at h1 ⊢
        refine ⟨by omega, ?_⟩
        rcases Nat.eq_zero_or_pos m with hm0 | hm0
        · subst hm0
          simp
          omega
        · obtain ⟨m', rfl⟩ : ∃ m', m = m' + 1 := ⟨m - 1, by omega⟩
          rw [show m' + 1 + 1 - 2 = m' from by omega] at h1
          rw [show m' + 1 + 1 + 1 - 2 = m' + 1 from by omega, Int.pow_succ]
          omega

theorem bs_app (l m : List UInt8) : bs l ++ bs m = bs (l ++ m) := by
  apply ByteArray.ext
  simp [bs]

theorem bs_size (l : List UInt8) : (bs l).size = l.length := by simp [bs, ByteArray.size]

theorem wpList_bytes {P : Program} (w : World) {ops : Array Oper} {rest : List Oper} {o : Oper} {a : Act} {Q : Exit → Act → World → Prop} (hgd : o.guard = none) (s x : Operand)
    (hP : P = Try.prog) (ho : o.op = .call { callee := .builtin .append, args := #[s, x], argTypes := #[28, 28] })
    (B : Nat) (v : Value) (l : List UInt8) (hs : a.eval s = v) (hown : OwnBytes w B v l)
    (b : Value) (m : List UInt8) (hx : a.eval x = b) (hm : IsBytes w b m)
    (h63 : l.length + m.length ≤ 140737488355327) (hbase : B ≤ w.heap.size)
    (h : ∀ v' w', OwnBytes w' B v' (l ++ m) → Keeps (OwnB v) w w' → SameOrNew w v v' → wpList P ops Q rest (a.put o.dst v') w') : wpList P ops Q (o :: rest) a w := by
  subst hP
  obtain ⟨i0, hi, hz0, hz1, hz2⟩ := info_parts info_u8
  obtain ⟨ad, cap, rfl, hc1, hc2, hc3⟩ := hm
  cases m with
  | nil =>
    have key : ∃ v' w', (Builtin.append_ #[28, 28] o.type #[v, .slice ad 0 cap]).run Try.prog w = .ok v' w' ∧ OwnBytes w' B v' (l ++ []) ∧ Keeps (OwnB v) w w' ∧ SameOrNew w v v' := by
      cases ad with
      | some ad =>
        obtain ⟨v', w', h1, h2, h3, h4⟩ := run_app (P := Try.prog) w B 28 o.type 5 i0 (.int .u8 0) 1 1 (by kernel_rfl) hi hz0 hz1 hz2 rfl (by decide) v l.length (l.map bv) hown ad 0 cap [] rfl (by simp) (by simp) (by simp only [maxLen]; omega) (by omega) hbase
        exact ⟨v', w', h1, by simpa [OwnBytes] using h2, h3, h4⟩
      | none =>
        have ht : Try.prog.underlying 28 = some (.slice 5) := by kernel_rfl
        rcases hown.2 with ⟨rfl, h0⟩ | ⟨g, cap', cur, rfl, hb, hg, hn, hm, hs, htk⟩
        · refine ⟨.slice none 0 0, w, ?_, by simpa using hown, Keeps.refl _ _, SameOrNew.refl _ _⟩
          simp [Builtin.append_, run_underlying ht, sizeOf, typeInfo, hi, Builtin.lenOf, Builtin.firstCells]
        · refine ⟨.slice (some ⟨g, 0, none⟩) l.length cap', w, ?_, by simpa using hown, Keeps.refl _ _, SameOrNew.refl _ _⟩
          simp [Builtin.append_, run_underlying ht, sizeOf, typeInfo, hi, Builtin.lenOf, Builtin.firstCells, hn]
          simp [storeCells]
    obtain ⟨v', w', hr, h2, h3, h4⟩ := key
    refine wpList_plain hgd fun _ hK => ?_
    unfold Oper.wp execOp
    simp only [ho, resolve, invoke, builtin, Sem.run_bind, Sem.run_pure, Result.andThen_ok, List.map_toArray, List.map_cons, List.map_nil, hs, hx, hr, List.length_nil]
    exact hK _ _ (h v' w' h2 h3 h4)
  | cons y m =>
    obtain ⟨b, off, rfl, _⟩ := hc3 0 y rfl
    refine wpList_app (P := Try.prog) w hgd s x 28 ho B 5 i0 (.int .u8 0) 1 1 (by kernel_rfl) hi hz0 hz1 hz2 rfl (by decide) v l.length (l.map bv) hs hown ⟨b, off, none⟩ (y :: m).length cap ((y :: m).map bv) hx (by simp) ?_ (bv_one _) (by simp only [maxLen]; omega) (by omega) hbase ?_
    · intro j u hu
      rw [List.getElem?_map] at hu
      cases hj : (y :: m)[j]? with
      | none => rw [hj] at hu; cases hu
      | some z =>
        rw [hj] at hu
        simp at hu
        subst hu
        obtain ⟨b', off', he, hc⟩ := hc3 j z hj
        injection he with he
        injection he with e1 e2
        subst e1 e2
        have hadd : (⟨b, off, none⟩ : Addr).add j = ⟨b, off + j, none⟩ := by
          unfold Addr.add
          split <;> simp_all
        rw [hadd]
        exact hc
    · intro v' w' h2 h3 h4
      refine h v' w' ?_ h3 h4
      rw [OwnBytes, List.length_append, List.map_append]
      exact h2

theorem slice_mid {L p q r : List UInt8} (hL : L = p ++ (q ++ r)) (a : Option Addr) (cap : Nat) (hcap : L.length ≤ cap) : ∃ a2 cap2,
    (∀ wx, (Instr.slice 28 (.slice a L.length cap) (some (.int .i64 p.length)) (some (.int .i64 ((p.length : Int) + (q.length : Int)))) none).run Try.prog wx = .ok (.slice a2 q.length cap2) wx) ∧
    ∀ wy, IsBytes wy (.slice a L.length cap) L → IsBytes wy (.slice a2 q.length cap2) q := by
  have hu : Try.prog.underlying 28 = some (.slice 5) := by kernel_rfl
  obtain ⟨i0, hi, hz0, hz1, hz2⟩ := info_parts info_u8
  have hl : L.length = p.length + (q.length + r.length) := by rw [hL]; simp
  refine ⟨if cap = p.length then a else a.map (·.add (p.length * 1)), cap - p.length, fun wx => ?_, fun wy h => ?_⟩
  · have h1 : (0 : Int) ≤ (p.length : Int) + (q.length : Int) ∧ (p.length : Int) + (q.length : Int) ≤ (cap : Int) := by omega
    have h2 : ((p.length : Int) + (q.length : Int)).toNat = p.length + q.length := by omega
    simp [Instr.slice, run_underlying hu, Instr.sliceBounds, Instr.sliceBound, sizeOf, typeInfo, hi, hz1, asIntOf, h1, h2]
  · have h1 := h.drop p.length (by omega)
    have h2 := h1.take q.length (by rw [List.length_drop]; omega)
    have h3 : (L.drop p.length).take q.length = q := by rw [hL, List.drop_left, List.take_left]
    rw [h3] at h2
    exact h2
end Go.Proofs.Ytpknafidbmnjpaa
