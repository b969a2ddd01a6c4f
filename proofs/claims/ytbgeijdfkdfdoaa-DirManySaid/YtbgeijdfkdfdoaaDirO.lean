/-
  The law DirMany: a list has at most thirty-two entries, by rising names; each is found where it stands. No condition.
-/
import Derived.Test.YtbgeijdfkdfdoaaDirM
import Derived.Test.YtbgeijdfkdfdoaaRow
namespace Go.Proofs.Ytbgeijdfkdfdoaa
open Go.RowKit

def manyN (i : Nat) : List UInt8 := [102, b8 (48 + i / 10), b8 (48 + i % 10)]
def manyE (size : Nat) (i : Nat) : DEnt := ⟨manyN i, size, if size = 0 then 0 else i + 1, ((size + 63) / 64 : Nat)⟩
def manyL (size n : Nat) : List DEnt := (List.range n).map (manyE size)

theorem manyN_less : ∀ i : Fin 40, Op.bytesLess (manyN i.val) (manyN (i.val + 1)) = true := by decide +kernel
theorem manyN_inj : ∀ i j : Fin 40, manyN i.val = manyN j.val → i = j := by decide +kernel
theorem manyN_f (i : Nat) : (manyN i == [102]) = false := by simp [manyN]

theorem manyL_get {size n i : Nat} {e : DEnt} (h : (manyL size n)[i]? = some e) : i < n ∧ e = manyE size i := by
  rw [manyL, List.getElem?_map] at h
  have hi : i < n := by
    rcases Nat.lt_or_ge i n with g | g
    · exact g
    · rw [List.getElem?_eq_none (by simpa using g)] at h
      cases h
  rw [List.getElem?_eq_getElem (by simpa using hi)] at h
  simp at h
  exact ⟨hi, h.symm⟩

theorem manyE_may {size i : Nat} (hs : size ≤ 65536) (hi : i < 40) : (manyE size i).may := by
  refine ⟨by simp [manyE, manyN], by simp [manyE, manyN], by simp [manyE], by simp only [manyE]; omega, by simp only [manyE]; omega, ?_, ?_, ?_⟩
  · simp only [manyE]; split <;> omega
  · simp only [manyE]; split <;> omega
  · simp only [manyE]
    split
    · exact .inr rfl
    · exact .inl (by omega)

theorem manyL_may {size n : Nat} (hs : size ≤ 65536) (hn : n ≤ 32) : mayL (manyL size n) := by
  refine ⟨fun i _ e he => ?_, by simpa [manyL] using hn⟩
  obtain ⟨hi, rfl⟩ := manyL_get he
  refine ⟨manyE_may hs (by omega), fun d h0 hd => ?_⟩
  obtain ⟨hi2, rfl⟩ := manyL_get hd
  have := manyN_less ⟨i - 1, by omega⟩
  simp only [show i - 1 + 1 = i from by omega] at this
  exact this

theorem manyL_not {size n : Nat} (hn : 32 < n) : ¬ mayL (manyL size n) := fun h => by
  have := h.2
  simp [manyL] at this
  omega

theorem manyL_find {size n i : Nat} (hn : n ≤ 32) (hi : i < n) : findR (manyL size n) (manyN i) = i := by
  refine findR_hit (e := manyE size i) ?_ (beq_self_eq_true _) (fun j hj d hd => ?_)
  · rw [manyL, List.getElem?_map, List.getElem?_eq_getElem (by simpa using hi)]
    simp
  · obtain ⟨_, rfl⟩ := manyL_get hd
    refine beq_eq_false_iff_ne.2 (fun h => ?_)
    have := manyN_inj ⟨j, by omega⟩ ⟨i, by omega⟩ h
    simp only [Fin.mk.injEq] at this
    omega

theorem manyL_miss {size n : Nat} : findR (manyL size n) [102] = -1 := by
  refine findR_miss (fun i _ d hd => ?_)
  obtain ⟨_, rfl⟩ := manyL_get hd
  exact manyN_f i

def ManJ1 (size n : Nat) (w w' : World) (v : Value) (i : Nat) : Prop := i ≤ n ∧ OwnEnts w' w.heap.size v (manyL size i) ∧ Below w.heap.size w w'
def ManJ2 (size n : Nat) (w w' : World) (v v2 : Value) (i : Nat) : Prop := i ≤ n ∧ IsEnts w' v (manyL size n) ∧ IsEnts w' v2 (manyL size n) ∧ Below w.heap.size w w'

theorem manyL_succ (size i : Nat) : manyL size (i + 1) = manyL size i ++ [manyE size i] := by simp [manyL, List.range_succ]

theorem many_conv (i : Nat) (hi : i < 40) (w1 : World) : (convert 22 9 (.slice (some ⟨w1.heap.size, 0, none⟩) 3 3)).run Try.prog (w1.alloc (.cells #[.int .u8 102, .int .u8 (48 + (i : Int) / 10), .int .u8 (48 + (i : Int) % 10)] 5)) =
    .ok (.string (bs (manyN i))) (w1.alloc (.cells #[.int .u8 102, .int .u8 (48 + (i : Int) / 10), .int .u8 (48 + (i : Int) % 10)] 5)) := by
  have h := run_str (lit_isBytes w1 (manyN i) (by simp [manyN]))
  have e0 : ((b8 (48 + i / 10)).toNat : Int) = 48 + (i : Int) / 10 := by rw [b8_toNat (by omega)]; omega
  have e1 : ((b8 (48 + i % 10)).toNat : Int) = 48 + (i : Int) % 10 := by rw [b8_toNat (by omega)]; omega
  have e : ((manyN i).map bv).toArray = #[.int .u8 102, .int .u8 (48 + (i : Int) / 10), .int .u8 (48 + (i : Int) % 10)] := by
    simp only [manyN, List.map_cons, List.map_nil, bv]
    rw [e0, e1]
    rfl
  rw [e] at h
  exact h


set_option maxRecDepth 100000 in
set_option maxHeartbeats 4000000 in
theorem many_in (n size : Nat) (hn : n ≤ 40) (hs : size ≤ 65536) (w : World) :
    Calls Try.prog 11 #[.int .i64 n, .int .i64 size] w (TrueEnd w) := by
  go_enter Try.func11, Try.ntmps11
  go_wp2_with fail
  refine (dirBegun_any _).mono ?_
  rintro x w1 ⟨rfl, hb⟩
  go_wp2_with fail
  refine wp_loop_x (fun a' w' => ∃ (v : Value) (i : Nat), a' = { tmps := #[.int .i64 n, .int .i64 size, slot a' 2, slot a' 3, slot a' 4, slot a' 5, v, .int .i64 i, slot a' 8, slot a' 9, slot a' 10, slot a' 11, slot a' 12, slot a' 13, slot a' 14, slot a' 15, slot a' 16, slot a' 17, slot a' 18, slot a' 19, slot a' 20, slot a' 21, slot a' 22, slot a' 23, slot a' 24, slot a' 25, slot a' 26, slot a' 27, slot a' 28, slot a' 29, slot a' 30, slot a' 31, slot a' 32, slot a' 33, slot a' 34, slot a' 35, slot a' 36, slot a' 37, slot a' 38, slot a' 39, slot a' 40, slot a' 41, slot a' 42, slot a' 43, slot a' 44, slot a' 45, slot a' 46, slot a' 47, slot a' 48, slot a' 49, slot a' 50, slot a' 51, slot a' 52, slot a' 53, slot a' 54, slot a' 55, slot a' 56, slot a' 57, slot a' 58, slot a' 59, slot a' 60, slot a' 61, slot a' 62, slot a' 63, slot a' 64, slot a' 65, slot a' 66, slot a' 67, slot a' 68, slot a' 69, slot a' 70, slot a' 71, slot a' 72, slot a' 73, slot a' 74, slot a' 75, slot a' 76, slot a' 77, slot a' 78, slot a' 79, slot a' 80, slot a' 81, slot a' 82, slot a' 83, slot a' 84, slot a' 85, slot a' 86, slot a' 87, slot a' 88, slot a' 89, slot a' 90, slot a' 91, slot a' 92, slot a' 93, slot a' 94, slot a' 95, slot a' 96, slot a' 97, slot a' 98, slot a' 99, slot a' 100, slot a' 101, slot a' 102], defers := [] } ∧ ManJ1 size n w w' v i) (fun a' _ => (41 - (intOf (a'.tmps.getD 7 undef)).toNat))
    (fun a' w' => ∃ (v : Value), a' = { tmps := #[.int .i64 n, .int .i64 size, slot a' 2, slot a' 3, slot a' 4, slot a' 5, v, slot a' 7, slot a' 8, slot a' 9, slot a' 10, slot a' 11, slot a' 12, slot a' 13, slot a' 14, slot a' 15, slot a' 16, slot a' 17, slot a' 18, slot a' 19, slot a' 20, slot a' 21, slot a' 22, slot a' 23, slot a' 24, slot a' 25, slot a' 26, slot a' 27, slot a' 28, slot a' 29, slot a' 30, slot a' 31, slot a' 32, slot a' 33, slot a' 34, slot a' 35, slot a' 36, slot a' 37, slot a' 38, slot a' 39, slot a' 40, slot a' 41, slot a' 42, slot a' 43, slot a' 44, slot a' 45, slot a' 46, slot a' 47, slot a' 48, slot a' 49, slot a' 50, slot a' 51, slot a' 52, slot a' 53, slot a' 54, slot a' 55, slot a' 56, slot a' 57, slot a' 58, slot a' 59, slot a' 60, slot a' 61, slot a' 62, slot a' 63, slot a' 64, slot a' 65, slot a' 66, slot a' 67, slot a' 68, slot a' 69, slot a' 70, slot a' 71, slot a' 72, slot a' 73, slot a' 74, slot a' 75, slot a' 76, slot a' 77, slot a' 78, slot a' 79, slot a' 80, slot a' 81, slot a' 82, slot a' 83, slot a' 84, slot a' 85, slot a' 86, slot a' 87, slot a' 88, slot a' 89, slot a' 90, slot a' 91, slot a' 92, slot a' 93, slot a' 94, slot a' 95, slot a' 96, slot a' 97, slot a' 98, slot a' 99, slot a' 100, slot a' 101, slot a' 102], defers := [] } ∧ ManJ1 size n w w' v n) ?_ ?_ ?_
  · exact ⟨_, 0, rfl, by omega, OwnEnts.nil _ _, hb⟩
  · clear hb
    rintro R Y a' w1 ⟨v, i, hfr, hJ⟩ HR HY
    obtain ⟨f, hf⟩ : ∃ f, f = slot a' := ⟨_, rfl⟩
    rw [← hf] at hfr
    clear hf
    subst hfr
    obtain ⟨hi, ho, hb⟩ := hJ
    by_cases hin : i < n
    · by_cases hs0 : size = 0
      · subst hs0
        have hcv := many_conv i (by omega) w1
        go_wp2_with (first | (at_builtin; refine Stop.out ?_))
        change wpList _ _ _ _ _ _
        have hcl : (manyL 0 i).length ≤ 40 := by simp [manyL]; omega
        have hob : ∀ o o', OwnEnts ((w1.alloc o).alloc o') w.heap.size v (manyL 0 i) := fun o o' => (ho.below ((Below.refl _ _).alloc (Nat.le_refl _) o)).below ((Below.refl _ _).alloc (Nat.le_refl _) o')
        refine wpList_ent _ rfl _ _ rfl rfl w.heap.size v (manyL 0 i) rfl (hob _ _) ⟨manyN i, ((0 : Nat) : Int), 0, 0⟩ (by simp only [World.size_alloc]; rfl) (by omega) (by simp; have := hb.size; omega) ?_
        intro v2 w3 ho3 hk3 _
        have hb3 : Below w.heap.size w w3 := ((hb.alloc hb.size _).alloc (by simp; have := hb.size; omega) _).trans (hk3.below (by simp; have := hb.size; omega) (fun j hj => (own_lt ho hj).1))
        rw [show (⟨manyN i, ((0 : Nat) : Int), 0, 0⟩ : DEnt) = manyE 0 i from by rfl, ← manyL_succ] at ho3
        clear ho hb hk3 hob hcv
        go_wp2_with fail
        refine HR.out _ _ ⟨v2, i + 1, rfl, by omega, ho3, hb3⟩ ?_
        simp [intOf]
        omega
      · have f0 : ((size : Int) == 0) = false := ieq_false (by omega)
        have HS0 := Lib.hid hs0
        clear hs0
        have hcv := many_conv i (by omega) w1
        go_wp2_with (first | (at_builtin; refine Stop.out ?_))
        change wpList _ _ _ _ _ _
        have hcl : (manyL size i).length ≤ 40 := by simp [manyL]; omega
        have hob : ∀ o o', OwnEnts ((w1.alloc o).alloc o') w.heap.size v (manyL size i) := fun o o' => (ho.below ((Below.refl _ _).alloc (Nat.le_refl _) o)).below ((Below.refl _ _).alloc (Nat.le_refl _) o')
        refine wpList_ent _ rfl _ _ rfl rfl w.heap.size v (manyL size i) rfl (hob _ _) ⟨manyN i, size, (i : Int) + 1, ((size : Int) + 63) / 64⟩ (by simp only [World.size_alloc]; rfl) (by omega) (by simp; have := hb.size; omega) ?_
        intro v2 w3 ho3 hk3 _
        have hb3 : Below w.heap.size w w3 := ((hb.alloc hb.size _).alloc (by simp; have := hb.size; omega) _).trans (hk3.below (by simp; have := hb.size; omega) (fun j hj => (own_lt ho hj).1))
        rw [show (⟨manyN i, size, (i : Int) + 1, ((size : Int) + 63) / 64⟩ : DEnt) = manyE size i from by (rw [manyE, if_neg HS0.out]; rfl), ← manyL_succ] at ho3
        clear ho hb hk3 hob hcv
        go_wp2_with fail
        refine HR.out _ _ ⟨v2, i + 1, rfl, by omega, ho3, hb3⟩ ?_
        simp [intOf]
        omega
    · obtain rfl : i = n := by omega
      go_wp2_with fail
      exact HY.out _ _ ⟨v, rfl, by omega, ho, hb⟩
  · clear hb
    rintro a' w1 ⟨v, hfr, hJ⟩
    obtain ⟨f, hf⟩ : ∃ f, f = slot a' := ⟨_, rfl⟩
    rw [← hf] at hfr
    clear hf
    subst hfr
    obtain ⟨-, ho, hb⟩ := hJ
    have hl := ho.isEnts (fun e he => by
      obtain ⟨i, hi⟩ := List.mem_iff_getElem?.1 he
      obtain ⟨g, rfl⟩ := manyL_get hi
      exact (manyE_may hs (by omega)).fits.ok)
    clear ho
    have HL := Lib.hid hl
    clear hl
    go_wp2_with fail
    refine (encode_any _ _ _ HL.out).mono ?_
    rintro x w2 ⟨c, rfl, hb2, hc⟩
    have hl := HL.out.below hb2
    clear HL
    have HL := Lib.hid hl
    replace hb := below_next hb hb2
    clear hb2 hl
    by_cases hn32 : 32 < n
    · rcases hc with ⟨h, -⟩ | ⟨hm, rfl⟩
      · exact absurd h (manyL_not hn32)
      go_wp2_with fail
      refine (mayList_any _ _ _ HL.out).mono ?_
      rintro x w3 ⟨r, rfl, hr, hb3⟩
      obtain rfl : r = false := by
        cases r
        · rfl
        · exact absurd (hr.1 rfl) hm
      replace hb := below_next hb hb3
      clear hr hm hb3 HL
      go_wp2_with fail
      go_ret
      exact ⟨rfl, hb⟩
    · have HM := Lib.hid (manyL_may hs (show n ≤ 32 by omega))
      rcases hc with ⟨-, hc⟩ | ⟨h, -⟩
      rotate_left
      · exact absurd HM.out h
      have hci := hc.isBytes
      have HCI := Lib.hid hci
      clear hc hci
      go_wp2_with fail
      refine (decode_any _ _ _ HCI.out).mono ?_
      rintro x w3 ⟨hb3, v2, err, rfl, hd⟩
      rcases hd with ⟨rfl, es, hes, heq, hoe⟩ | ⟨-, -, h⟩
      rotate_left
      · exact absurd ⟨_, HM.out, rfl⟩ h
      obtain rfl := dirB_inj hes HM.out heq
      have hl := HL.out.below hb3
      have hl2 := hoe.isEnts (fun e he => (mayL_fits hes e he).ok)
      clear HL
      have HL := Lib.hid hl
      have HL2 := Lib.hid hl2
      replace hb := below_next hb hb3
      clear hb3 hes heq hoe hl hl2 HCI
      go_wp2_with fail
      refine (eq_any _ _ _ _ _ HL2.out HL.out).mono ?_
      rintro x w4 ⟨r, rfl, hr, hb4⟩
      obtain rfl := hr.2 rfl
      have hl := HL.out.below hb4
      have hl2 := HL2.out.below hb4
      clear HL HL2
      have HL := Lib.hid hl
      have HL2 := Lib.hid hl2
      replace hb := below_next hb hb4
      clear hb4 hr hl hl2
      go_wp2_with fail
      refine wp_loop_r (fun a' w' => ∃ (i : Nat), a' = { tmps := #[.int .i64 n, .int .i64 size, slot a' 2, slot a' 3, slot a' 4, slot a' 5, v, slot a' 7, slot a' 8, slot a' 9, v2, slot a' 11, .int .i64 i, slot a' 13, slot a' 14, slot a' 15, slot a' 16, slot a' 17, slot a' 18, slot a' 19, slot a' 20, slot a' 21, slot a' 22, slot a' 23, slot a' 24, slot a' 25, slot a' 26, slot a' 27, slot a' 28, slot a' 29, slot a' 30, slot a' 31, slot a' 32, slot a' 33, slot a' 34, slot a' 35, slot a' 36, slot a' 37, slot a' 38, slot a' 39, slot a' 40, slot a' 41, slot a' 42, slot a' 43, slot a' 44, slot a' 45, slot a' 46, slot a' 47, slot a' 48, slot a' 49, slot a' 50, slot a' 51, slot a' 52, slot a' 53, slot a' 54, slot a' 55, slot a' 56, slot a' 57, slot a' 58, slot a' 59, slot a' 60, slot a' 61, slot a' 62, slot a' 63, slot a' 64, slot a' 65, slot a' 66, slot a' 67, slot a' 68, slot a' 69, slot a' 70, slot a' 71, slot a' 72, slot a' 73, slot a' 74, slot a' 75, slot a' 76, slot a' 77, slot a' 78, slot a' 79, slot a' 80, slot a' 81, slot a' 82, slot a' 83, slot a' 84, slot a' 85, slot a' 86, slot a' 87, slot a' 88, slot a' 89, slot a' 90, slot a' 91, slot a' 92, slot a' 93, slot a' 94, slot a' 95, slot a' 96, slot a' 97, slot a' 98, slot a' 99, slot a' 100, slot a' 101, slot a' 102], defers := [] } ∧ ManJ2 size n w w' v v2 i) (fun a' _ => (41 - (intOf (a'.tmps.getD 12 undef)).toNat)) ?_ ?_
      · exact ⟨0, rfl, by omega, HL.out, HL2.out, hb⟩
      · clear hb HL HL2
        rintro R a' w1 ⟨i, hfr, hJ⟩ HR
        obtain ⟨f, hf⟩ : ∃ f, f = slot a' := ⟨_, rfl⟩
        rw [← hf] at hfr
        clear hf
        subst hfr
        obtain ⟨hi, hl, hl2, hb⟩ := hJ
        have HL2 := Lib.hid hl2
        have HL := Lib.hid hl
        clear hl2
        by_cases hin : i < n
        · obtain ⟨a, cap, rfl, hc1, hc2, hcells⟩ := hl
          have hge : (manyL size n)[i]? = some (manyE size i) := by
            rw [manyL, List.getElem?_map, List.getElem?_eq_getElem (by simpa using hin)]
            simp
          obtain ⟨-, b, off, rfl, c0, -⟩ := hcells i _ hge
          have c0' : w1.cell? ⟨b, off + i * 4, none⟩ = some (.string (bs (manyN i))) := c0
          have hlen : (manyL size n).length = n := by simp [manyL]
          unfold maxLen at hc2
          rw [hlen] at hc1
          simp only [hlen] at HR ⊢
          clear hcells hge c0 hlen
          go_wp2_with fail
          refine (find_any _ _ (manyN i) _ HL2.out).mono ?_
          rintro x w5 ⟨rfl, hb5⟩
          rw [manyL_find (by omega) hin]
          have hl := HL.out.below hb5
          have hl2 := HL2.out.below hb5
          clear HL HL2
          have HL := Lib.hid hl
          have HL2 := Lib.hid hl2
          replace hb := below_next hb hb5
          clear hb5 hl hl2 c0'
          go_wp2_with fail
          refine HR.out _ _ ⟨i + 1, rfl, by omega, ?_, HL2.out, hb⟩ ?_
          · have := HL.out
            simpa only [show (manyL size n).length = n from by simp [manyL]] using this
          · simp [intOf]
            omega
        · obtain rfl : i = n := by omega
          clear hl
          go_wp2_with fail
          refine (find_any _ _ [102] _ HL2.out).mono ?_
          rintro x w5 ⟨rfl, hb5⟩
          rw [manyL_miss]
          replace hb := below_next hb hb5
          clear hb5 HL HL2
          go_wp2_with fail
          go_ret
          exact ⟨rfl, hb⟩

set_option maxRecDepth 100000 in
theorem many_any (n size : Int) (w : World) (h0 : (Lit.int .i64 n).wf = true) (h1 : (Lit.int .i64 size).wf = true) :
    Calls Try.prog 11 #[.int .i64 n, .int .i64 size] w (TrueEnd w) := by
  obtain ⟨a0, a1⟩ := bounds_i64 h0
  obtain ⟨b0, b1⟩ := bounds_i64 h1
  clear h0 h1
  by_cases q : 0 ≤ n ∧ n ≤ 40 ∧ 0 ≤ size ∧ size ≤ 65536
  · obtain ⟨q0, q1, q2, q3⟩ := q
    obtain ⟨n, rfl⟩ := Int.eq_ofNat_of_zero_le q0
    obtain ⟨size, rfl⟩ := Int.eq_ofNat_of_zero_le q2
    exact many_in n size (by omega) (by omega) w
  · go_enter Try.func11, Try.ntmps11
    go_wp2_with fail
    refine (dirBegun_any _).mono ?_
    rintro x w1 ⟨rfl, hb⟩
    by_cases q0 : n < 0
    · have f0 : decide (n < 0) = true := decide_eq_true q0
      go_wp2_with fail
      go_ret
      exact ⟨rfl, hb⟩
    have f0 : decide (n < 0) = false := decide_eq_false q0
    by_cases q1 : 40 < n
    · have f1 : decide (40 < n) = true := decide_eq_true q1
      go_wp2_with fail
      go_ret
      exact ⟨rfl, hb⟩
    have f1 : decide (40 < n) = false := decide_eq_false q1
    by_cases q2 : size < 0
    · have f2 : decide (size < 0) = true := decide_eq_true q2
      go_wp2_with fail
      go_ret
      exact ⟨rfl, hb⟩
    have f2 : decide (size < 0) = false := decide_eq_false q2
    have f3 : decide (65536 < size) = true := decide_eq_true (by omega)
    clear q
    go_wp2_with fail
    go_ret
    exact ⟨rfl, hb⟩
end Go.Proofs.Ytbgeijdfkdfdoaa
