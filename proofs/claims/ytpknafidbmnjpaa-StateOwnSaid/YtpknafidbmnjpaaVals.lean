/-
  Walks on values: ints.May, the reference's May, state.PutVals.
-/
import Derived.Test.YtpknafidbmnjpaaPlain
import Derived.Test.YtpknafidbmnjpaaRws
import Derived.Test.YtpknafidbmnjpaaLeb5
namespace Go.Proofs.Ytpknafidbmnjpaa
open Go.RowKit

/-- A value. -/
structure VEnt where
  kind : Int
  n : Int
deriving DecidableEq

def encV (v : VEnt) : List Value := [.int .i64 v.kind, .int .i64 v.n]
theorem encV_len (v : VEnt) : (encV v).length = 2 := rfl
theorem encV_one (v : VEnt) : ∀ u ∈ encV v, u.oneCell' = true := by
  intro u hu
  simp only [encV, List.mem_cons, List.not_mem_nil, or_false] at hu
  rcases hu with rfl | rfl <;> rfl

def VEnt.ok (v : VEnt) : Prop := (-9223372036854775808 ≤ v.kind ∧ v.kind ≤ 9223372036854775807) ∧ (-9223372036854775808 ≤ v.n ∧ v.n ≤ 9223372036854775807)

/-- May it be? -/
def VEnt.may (v : VEnt) : Prop := v.kind = 2 ∨ v.kind = 1 ∧ -2147483648 ≤ v.n ∧ v.n ≤ 2147483647
instance (v : VEnt) : Decidable v.may := by unfold VEnt.may; infer_instance

def BoolEnd (b : Bool) (w : World) (e : Ending) (w' : World) : Prop := e = .returned (.bool b) ∧ Below w.heap.size w w'


theorem intsMay_any (v : VEnt) (w : World) : Calls Try.prog 46 #[.agg #[.int .i64 v.kind, .int .i64 v.n]] w (BoolEnd (decide v.may) w) := by
  by_cases q0 : v.kind = 2
  · have f0 := ieq_true q0
    have Q0 := Lib.hid q0
    clear q0
    rw [show decide v.may = true from decide_eq_true (.inl Q0.out)]
    go_enter Try.func46, Try.ntmps46
    go_wp2_with fail
    go_ret
    exact ⟨rfl, (Below.refl _ _).alloc (Nat.le_refl _) _⟩
  have f0 := ieq_false q0
  by_cases q1 : v.kind = 1
  · have f1 := ieq_true q1
    by_cases q2 : -2147483648 ≤ v.n
    · have f2 : decide (-2147483648 ≤ v.n) = true := decide_eq_true q2
      by_cases q3 : v.n ≤ 2147483647
      · have f3 : decide (v.n ≤ 2147483647) = true := decide_eq_true (by omega)
        have Q1 := Lib.hid q1
        clear q1 q0
        rw [show decide v.may = true from decide_eq_true (.inr ⟨Q1.out, q2, q3⟩)]
        go_enter Try.func46, Try.ntmps46
        go_wp2_with fail
        go_ret
        exact ⟨rfl, (Below.refl _ _).alloc (Nat.le_refl _) _⟩
      · have f3 : decide (v.n ≤ 2147483647) = false := decide_eq_false (by omega)
        have Q0 := Lib.hid q0
        clear q0 q1
        rw [show decide v.may = false from decide_eq_false (fun h => h.elim Q0.out (fun h => q3 h.2.2))]
        go_enter Try.func46, Try.ntmps46
        go_wp2_with fail
        go_ret
        exact ⟨rfl, (Below.refl _ _).alloc (Nat.le_refl _) _⟩
    · have f2 : decide (-2147483648 ≤ v.n) = false := decide_eq_false q2
      have Q0 := Lib.hid q0
      clear q0 q1
      rw [show decide v.may = false from decide_eq_false (fun h => h.elim Q0.out (fun h => q2 h.2.1))]
      go_enter Try.func46, Try.ntmps46
      go_wp2_with fail
      go_ret
      exact ⟨rfl, (Below.refl _ _).alloc (Nat.le_refl _) _⟩
  · have f1 := ieq_false q1
    have Q0 := Lib.hid q0
    have Q1 := Lib.hid q1
    clear q0 q1
    rw [show decide v.may = false from decide_eq_false (fun h => h.elim Q0.out (fun h => Q1.out h.1))]
    go_enter Try.func46, Try.ntmps46
    go_wp2_with fail
    go_ret
    exact ⟨rfl, (Below.refl _ _).alloc (Nat.le_refl _) _⟩

theorem refMay_any (v : VEnt) (w : World) : Calls Try.prog 51 #[.agg #[.int .i64 v.kind, .int .i64 v.n]] w (BoolEnd (decide v.may) w) := by
  by_cases q0 : v.kind = 2
  · have f0 := ieq_true q0
    have Q0 := Lib.hid q0
    clear q0
    rw [show decide v.may = true from decide_eq_true (.inl Q0.out)]
    go_enter Try.func51, Try.ntmps51
    go_wp2_with fail
    go_ret
    exact ⟨rfl, (Below.refl _ _).alloc (Nat.le_refl _) _⟩
  have f0 := ieq_false q0
  by_cases q1 : v.kind = 1
  · have f1 := ieq_true q1
    by_cases q2 : -2147483648 ≤ v.n
    · have f2 : decide (-2147483648 ≤ v.n) = true := decide_eq_true q2
      by_cases q3 : v.n ≤ 2147483647
      · have f3 : decide (v.n < 2147483648) = true := decide_eq_true (by omega)
        have Q1 := Lib.hid q1
        clear q1 q0
        rw [show decide v.may = true from decide_eq_true (.inr ⟨Q1.out, q2, q3⟩)]
        go_enter Try.func51, Try.ntmps51
        go_wp2_with fail
        go_ret
        exact ⟨rfl, (Below.refl _ _).alloc (Nat.le_refl _) _⟩
      · have f3 : decide (v.n < 2147483648) = false := decide_eq_false (by omega)
        have Q0 := Lib.hid q0
        clear q0 q1
        rw [show decide v.may = false from decide_eq_false (fun h => h.elim Q0.out (fun h => q3 h.2.2))]
        go_enter Try.func51, Try.ntmps51
        go_wp2_with fail
        go_ret
        exact ⟨rfl, (Below.refl _ _).alloc (Nat.le_refl _) _⟩
    · have f2 : decide (-2147483648 ≤ v.n) = false := decide_eq_false q2
      have Q0 := Lib.hid q0
      clear q0 q1
      rw [show decide v.may = false from decide_eq_false (fun h => h.elim Q0.out (fun h => q2 h.2.1))]
      go_enter Try.func51, Try.ntmps51
      go_wp2_with fail
      go_ret
      exact ⟨rfl, (Below.refl _ _).alloc (Nat.le_refl _) _⟩
  · have f1 := ieq_false q1
    have Q0 := Lib.hid q0
    have Q1 := Lib.hid q1
    clear q0 q1
    rw [show decide v.may = false from decide_eq_false (fun h => h.elim Q0.out (fun h => Q1.out h.1))]
    go_enter Try.func51, Try.ntmps51
    go_wp2_with fail
    go_ret
    exact ⟨rfl, (Below.refl _ _).alloc (Nat.le_refl _) _⟩

/-- The place of the first one. -/
def idxR {α : Type} (p : α → Bool) (l : List α) : Int := match l.findIdx? p with | some i => i | none => -1

theorem idxR_hit {α : Type} {p : α → Bool} {l : List α} {k : Nat} {e : α} (he : l[k]? = some e) (hn : p e = true) (hb : ∀ i, i < k → ∀ d, l[i]? = some d → p d = false) : idxR p l = k := by
  obtain ⟨hk, rfl⟩ := List.getElem?_eq_some_iff.1 he
  have : l.findIdx? p = some k := by
    rw [List.findIdx?_eq_some_iff_getElem]
    refine ⟨hk, hn, fun j hj => ?_⟩
    rw [hb j hj _ (List.getElem?_eq_getElem (by omega))]
    simp
  rw [idxR, this]

theorem idxR_miss {α : Type} {p : α → Bool} {l : List α} (hb : ∀ i, i < l.length → ∀ d, l[i]? = some d → p d = false) : idxR p l = -1 := by
  have : l.findIdx? p = none := by
    rw [List.findIdx?_eq_none_iff]
    intro x hx
    obtain ⟨i, hi⟩ := List.mem_iff_getElem?.1 hx
    exact hb i (List.getElem?_eq_some_iff.1 hi).1 x hi
  rw [idxR, this]

theorem idxR_any {α : Type} (p : α → Bool) (l : List α) : decide (0 ≤ idxR p l) = l.any p := by
  unfold idxR
  cases h : l.findIdx? p with
  | none =>
    rw [List.findIdx?_eq_none_iff] at h
    have : l.any p = false := by rw [List.any_eq_false]; intro x hx; rw [h x hx]; simp
    rw [this]
    rfl
  | some i =>
    rw [List.findIdx?_eq_some_iff_getElem] at h
    obtain ⟨hi, h1, _⟩ := h
    have : l.any p = true := List.any_eq_true.2 ⟨_, List.getElem_mem hi, h1⟩
    rw [this]
    exact decide_eq_true (by show (0 : Int) ≤ (i : Int); omega)

def IdxEnd {α : Type} (p : α → Bool) (l : List α) (w : World) (e : Ending) (w' : World) : Prop := e = .returned (.int .i64 (idxR p l)) ∧ Below w.heap.size w w'
def IdxJ {α : Type} (p : α → Bool) (l : List α) (w w' : World) (k : Nat) : Prop := k ≤ l.length ∧ (∀ i, i < k → ∀ d, l[i]? = some d → p d = false) ∧ Below w.heap.size w w'

/-- What a writer of a row leaves. -/
def PutEnd (xs ys : List UInt8) (B : Nat) (b : Value) (w : World) (e : Ending) (w' : World) : Prop :=
  ∃ v', e = .returned v' ∧ OwnBytes w' B v' (xs ++ ys) ∧ Keeps (OwnB b) w w' ∧ SameOrNew w b v'

theorem num_any (b : Value) (xs : List UInt8) (u : Nat) (h1 : u ≤ 9223372036854775807) (B : Nat) (w : World) (hown : OwnBytes w B b xs) (hn : xs.length ≤ 1000000) (hB : B ≤ w.heap.size) :
    Calls Try.prog 21 #[b, .int .i64 u] w (PutEnd xs (putU u) B b w) := by
  go_enter Try.func21, Try.ntmps21
  go_wp2_with fail
  refine (putU_any b xs u (by omega) B w hown hn hB).mono ?_
  rintro x w2 ⟨v, rfl, h2, h3, h4⟩
  go_wp2_with fail
  go_ret
  exact ⟨v, rfl, h2, h3, h4⟩

/-- A value's bytes; a list's. -/
def valB (v : VEnt) : List UInt8 := putU v.kind.toNat ++ putS v.n
def valsB (l : List VEnt) : List UInt8 := putU l.length ++ (l.map valB).flatten

theorem putS_len {n : Int} (h1 : -9223372036854775808 ≤ n) (h2 : n ≤ 9223372036854775807) : 1 ≤ (putS n).length ∧ (putS n).length ≤ 10 := by
  obtain ⟨p, z, e1, _, _, e4⟩ := putSF_shape 9 n (by omega) (by omega)
  change putS n = p ++ [z] at e1
  rw [e1]
  simp
  omega

theorem valB_len {v : VEnt} (h : v.ok) : (valB v).length ≤ 20 := by
  have h1 := (putU_len v.kind.toNat).2
  have h2 := (putS_len h.2.1 h.2.2).2
  rw [valB, List.length_append]
  omega

theorem vals_len : ∀ l : List VEnt, (∀ v ∈ l, v.ok) → ((l.map valB).flatten).length ≤ 20 * l.length
  | [], _ => by simp
  | v :: l, h => by
    have h1 := valB_len (h v (by simp))
    have h2 := vals_len l (fun x hx => h x (by simp [hx]))
    simp only [List.map_cons, List.flatten_cons, List.length_append, List.length_cons]
    omega

def PutVJ (xs : List UInt8) (l : List VEnt) (B : Nat) (b : Value) (w w' : World) (v : Value) (k : Nat) : Prop :=
  k ≤ l.length ∧ OwnBytes w' B v (xs ++ (putU l.length ++ ((l.take k).map valB).flatten)) ∧ Keeps (OwnB b) w w' ∧ SameOrNew w b v

set_option maxRecDepth 100000 in
set_option maxHeartbeats 2000000 in
theorem putVals_any (b : Value) (xs : List UInt8) (vl : Value) (l : List VEnt) (B : Nat) (w : World) (hown : OwnBytes w B b xs) (hn : xs.length ≤ 100000) (hB : B ≤ w.heap.size)
    (hl : IsRws 2 encV w vl l) (hm : ∀ v ∈ l, v.may) (hok : ∀ v ∈ l, v.ok) (hll : l.length ≤ 1000) (hvb : l ≠ [] → ∀ i, OwnB b i → ∀ a n c, vl = .slice (some a) n c → a.block ≠ i) :
    Calls Try.prog 22 #[b, vl] w (PutEnd xs (valsB l) B b w) := by
  have HI := Lib.hid hl
  have HOK := Lib.hid hok
  have HM := Lib.hid hm
  have HVB := Lib.hid hvb
  obtain ⟨a, cap, rfl, h1, h2, _⟩ := hl
  unfold maxLen at h2
  clear hok hm hvb
  go_enter Try.func22, Try.ntmps22
  go_wp2_with fail
  refine (num_any b xs l.length (by omega) B w hown (by omega) hB).mono ?_
  rintro x w1 ⟨v, rfl, ho, hk, hs⟩
  go_wp2_with fail
  refine wp_loop_r (fun a' w' => ∃ (v : Value) (k : Nat), a' = { tmps := #[v, .slice a l.length cap, slot a' 2, slot a' 3, slot a' 4, slot a' 5, slot a' 6, slot a' 7, slot a' 8, slot a' 9, slot a' 10, .slice a l.length cap, .int .i64 l.length, .int .i64 k, slot a' 14, slot a' 15, slot a' 16, slot a' 17, slot a' 18, slot a' 19, slot a' 20, slot a' 21, slot a' 22, slot a' 23, slot a' 24, slot a' 25], defers := [] } ∧ PutVJ xs l B b w w' v k) (fun a' _ => (l.length - (intOf (a'.tmps.getD 13 undef)).toNat)) ?_ ?_
  · exact ⟨v, 0, rfl, by omega, by simpa using ho, hk, hs⟩
  · clear ho hk hs
    rintro R a' w1 ⟨v, k, hfr, hJ⟩ HR
    obtain ⟨f, hf⟩ : ∃ f, f = slot a' := ⟨_, rfl⟩
    rw [← hf] at hfr
    clear hf
    subst hfr
    obtain ⟨hkl, ho, hk, hs⟩ := hJ
    have hsz := hk.size
    by_cases hlt : k < l.length
    · obtain ⟨e, he⟩ : ∃ e, l[k]? = some e := ⟨_, List.getElem?_eq_getElem hlt⟩
      obtain ⟨a', cap', hv, _, _, hcells⟩ := HI.out
      injection hv with e1 e2 e3
      subst e1 e3
      obtain ⟨bb, off, rfl, hlt2, hc⟩ := hcells k e he
      have hne : ¬ OwnB b bb := fun h => HVB.out (by rintro rfl; simp at hlt) bb h _ _ _ rfl rfl
      have hcell : ∀ j u, (encV e)[j]? = some u → w1.cell? ⟨bb, off + k * 2 + j, none⟩ = some u := fun j u hu => by
        rw [World.cell?_of_block (w := w) (a := ⟨bb, off + k * 2 + j, none⟩) (hk.block bb hlt2 hne)]
        exact hc j u hu
      have c0 := hcell 0 _ rfl
      have c1 := hcell 1 _ rfl
      rw [Nat.add_zero] at c0
      have hme := HM.out e (List.mem_of_getElem? he)
      obtain ⟨⟨m1, m2⟩, m3, m4⟩ := HOK.out e (List.mem_of_getElem? he)
      obtain ⟨n0, hn0⟩ : ∃ n : Nat, e.kind = n := ⟨e.kind.toNat, by rcases hme with h | h <;> omega⟩
      have hn2 : n0 ≤ 2 := by rcases hme with h | h <;> omega
      rw [hn0] at m1 m2 c0
      have hlen : (xs ++ (putU l.length ++ ((l.take k).map valB).flatten)).length ≤ 200000 := by
        have g1 := (putU_len l.length).2
        have g2 := vals_len (l.take k) (fun x hx => HOK.out x (List.mem_of_mem_take hx))
        have g3 : (l.take k).length ≤ 1000 := by rw [List.length_take]; omega
        simp only [List.length_append]
        omega
      have HV := Lib.hid (show valB e = putU n0 ++ putS e.n by rw [valB, hn0]; rfl)
      have HE := Lib.hid he
      generalize hL : xs ++ (putU l.length ++ ((l.take k).map valB).flatten) = L at ho hlen
      have HL := Lib.hid hL
      clear hL hcells hc hcell e2 he hme hn0
      have hx0 : ∀ i, OwnB v i → i ≠ w1.heap.size := fun i hi => by have := (own_lt ho hi).2; omega
      have HX0 := Lib.hid hx0
      clear hx0
      go_wp2_with fail
      refine wp_region_seq (fun w' => w'.cell? ⟨w1.heap.size, 0, none⟩ = some (.int .i64 n0) ∧ w'.cell? ⟨w1.heap.size, 1, none⟩ = some (.int .i64 e.n)) [(0, true), (1, true), (2, true), (4, true), (5, true), (3, false), (6, false), (7, true)] (by kernel_rfl) (by kernel_rfl) ⟨by simp, by simp⟩ ?_
      iterate 5 (first | (apply seg_skip rfl rfl; simp only [Act.put, List.setIfInBounds_toArray, List.set_cons_succ, List.set_cons_zero]) | (apply seg_pure rfl rfl rfl; · (rintro w' ⟨t0, t1⟩; go_wp2; exact ⟨rfl, rfl, rfl⟩)))
      refine seg_loud rfl rfl ?_
      go_wp2_with fail
      have hk1 : Keeps (OwnB v) w1 (w1.alloc (.cells #[.int .i64 n0, .int .i64 e.n] 39)).drew := ((Keeps.refl _ _).alloc _).drew
      have hbx : Blk (w1.alloc (.cells #[.int .i64 n0, .int .i64 e.n] 39)).drew w1.heap.size #[.int .i64 n0, .int .i64 e.n] 39 := (Blk.new w1 _ _).drew
      refine (num_any v L n0 (by omega) B _ (ho.keeps (((Keeps.refl (fun _ => False) w1).alloc _).drew) (fun _ _ h => h)) (by omega) (by simp; have := (Keeps.refl (OwnB v) w1); omega)).mono ?_
      rintro x w2 ⟨v2, rfl, ho2, hk2, hs2⟩
      have hbx2 := hbx.keeps hk2 (fun h => HX0.out _ h rfl)
      have hn1 : (putU n0).length ≤ 10 := (putU_len _).2
      go_wp2_with fail
      refine ⟨⟨hbx2.cell 0, hbx2.cell 1⟩, ?_⟩
      refine seg_loud rfl rfl ?_
      have hsz2 := hk2.size
      simp only [World.size_drew, World.size_alloc] at hsz2
      go_wp2_with fail
      refine (putS_any v2 _ e.n m3 m4 B w2 ho2 (by simp only [List.length_append]; omega) (by omega)).mono ?_
      rintro x w3 ⟨v3, rfl, ho3, hk3, hs3⟩
      have hbx3 := hbx2.keeps hk3 (fun h => by
        rcases hs2 _ h with g | g
        · exact HX0.out _ g rfl
        · simp at g
          omega)
      have hk12 : Keeps (OwnB v) w1 w2 := hk1.trans hk2 (fun i h => .inl h)
      have hs12 : SameOrNew w1 v v2 := fun i hi => (hs2 i hi).imp id (fun g => by simp at g; omega)
      have hk13 : Keeps (OwnB v) w1 w3 := hk12.trans hk3 (fun i h => (hs12 i h))
      have hs13 : SameOrNew w1 v v3 := hs12.trans hs3 hk12.size
      have hkf : Keeps (OwnB b) w w3 := hk.trans hk13 (fun i h => (hs i h))
      have hsf : SameOrNew w b v3 := hs.trans hs13 hk.size
      clear hk2 hs2 hk3 hs3 hk12 hs12 hk13 hs13 hk1 hbx hbx2
      go_wp2_with fail
      refine ⟨⟨hbx3.cell 0, hbx3.cell 1⟩, ?_⟩
      iterate 1 (first | (apply seg_skip rfl rfl; simp only [Act.put, List.setIfInBounds_toArray, List.set_cons_succ, List.set_cons_zero]) | (apply seg_pure rfl rfl rfl; · (rintro w' ⟨t0, t1⟩; go_wp2; exact ⟨rfl, rfl, rfl⟩)))
      refine seg_nil ?_
      refine NoPanic.normal ?_
      go_wp2_with fail
      refine HR.out _ _ ⟨v3, k + 1, rfl, by omega, ?_, hkf, hsf⟩ ?_
      · have e1 : xs ++ (putU l.length ++ ((l.take (k + 1)).map valB).flatten) = L ++ putU n0 ++ putS e.n := by
          rw [← HL.out, List.take_add_one, HE.out]
          simp [HV.out]
        rw [e1]
        exact ho3
      · simp [intOf]
        omega
    · obtain rfl : k = l.length := by omega
      go_wp2_with fail
      go_ret
      refine ⟨v, rfl, ?_, hk, hs⟩
      rw [List.take_length] at ho
      exact ho
end Go.Proofs.Ytpknafidbmnjpaa
