/-
  The law LebLong: bytes that go on and on: what could begin a number, and what cannot. No condition.
-/
import Derived.Test.YtbgeijdfkdfdoaaLebAny
namespace Go.Proofs.Ytbgeijdfkdfdoaa
open Go.RowKit

/-- 'append(v, bytes..)': bytes behind a row of the call's own. -/
theorem wpList_bytes {P : Program} (w : World) {ops : Array Oper} {rest : List Oper} {o : Oper} {a : Act} {Q : Exit → Act → World → Prop} (hgd : o.guard = none) (s x : Operand)
    (hP : P = Try.prog) (ho : o.op = .call { callee := .builtin .append, args := #[s, x], argTypes := #[22, 22] })
    (B : Nat) (v : Value) (l : List UInt8) (hs : a.eval s = v) (hown : OwnBytes w B v l)
    (b : Value) (m : List UInt8) (hx : a.eval x = b) (hm : IsBytes w b m)
    (h63 : l.length + m.length ≤ 140737488355327) (hbase : B ≤ w.heap.size)
    (h : ∀ v' w', OwnBytes w' B v' (l ++ m) → Keeps (OwnB v) w w' → SameOrNew w v v' → wpList P ops Q rest (a.put o.dst v') w') : wpList P ops Q (o :: rest) a w := by
  subst hP
  obtain ⟨i0, hi, hz0, hz1, hz2⟩ := info_parts info_u8
  obtain ⟨ad, cap, rfl, hc1, hc2, hc3⟩ := hm
  cases m with
  | nil =>
    have key : ∃ v' w', (Builtin.append_ #[22, 22] o.type #[v, .slice ad 0 cap]).run Try.prog w = .ok v' w' ∧ OwnBytes w' B v' (l ++ []) ∧ Keeps (OwnB v) w w' ∧ SameOrNew w v v' := by
      cases ad with
      | some ad =>
        obtain ⟨v', w', h1, h2, h3, h4⟩ := run_app (P := Try.prog) w B 22 o.type 5 i0 (.int .u8 0) 1 1 (by kernel_rfl) hi hz0 hz1 hz2 rfl (by decide) v l.length (l.map bv) hown ad 0 cap [] rfl (by simp) (by simp) (by simp only [maxLen]; omega) (by omega) hbase
        exact ⟨v', w', h1, by simpa [OwnBytes] using h2, h3, h4⟩
      | none =>
        have ht : Try.prog.underlying 22 = some (.slice 5) := by kernel_rfl
        rcases hown.2 with ⟨rfl, h0⟩ | ⟨g, cap', cur, rfl, hb, hg, hn, hm, hs, htk⟩
        · refine ⟨.slice none 0 0, w, ?_, by simpa using hown, Keeps.refl _ _, SameOrNew.refl _ _⟩
          simp [Builtin.append_, run_underlying ht, sizeOf, typeInfo, hi, Builtin.lenOf, Builtin.firstCells]
        · refine ⟨.slice (some ⟨g, 0, none⟩) l.length cap', w, ?_, by simpa using hown, Keeps.refl _ _, SameOrNew.refl _ _⟩
          simp [Builtin.append_, run_underlying ht, sizeOf, typeInfo, hi, Builtin.lenOf, Builtin.firstCells, hn]
          simp [storeCells]
    obtain ⟨v', w', hr, h2, h3, h4⟩ := key
    refine wpList_plain hgd fun _ hK => ?_
    unfold Oper.wp execOp
    simp only [ho, resolve, invoke, builtin, Sem.run_bind, Sem.run_pure, Result.andThen_ok, List.map_toArray, List.map_cons, List.map_nil, hs, hx, hr, List.length_nil]
    exact hK _ _ (h v' w' h2 h3 h4)
  | cons y m =>
    obtain ⟨b, off, rfl, _⟩ := hc3 0 y rfl
    refine wpList_app (P := Try.prog) w hgd s x 22 ho B 5 i0 (.int .u8 0) 1 1 (by kernel_rfl) hi hz0 hz1 hz2 rfl (by decide) v l.length (l.map bv) hs hown ⟨b, off, none⟩ (y :: m).length cap ((y :: m).map bv) hx (by simp) ?_ (bv_one _) (by simp only [maxLen]; omega) (by omega) hbase ?_
    · intro j u hu
      rw [List.getElem?_map] at hu
      cases hj : (y :: m)[j]? with
      | none => rw [hj] at hu; cases hu
      | some z =>
        rw [hj] at hu
        simp at hu
        subst hu
        obtain ⟨b', off', he, hc⟩ := hc3 j z hj
        injection he with he
        injection he with e1 e2
        subst e1 e2
        have hadd : (⟨b, off, none⟩ : Addr).add j = ⟨b, off + j, none⟩ := by
          unfold Addr.add
          split <;> simp_all
        rw [hadd]
        exact hc
    · intro v' w' h2 h3 h4
      refine h v' w' ?_ h3 h4
      rw [OwnBytes, List.length_append, List.map_append]
      exact h2

def longB (i : Nat) : UInt8 := b8 (i * 37 % 128 + 128)

def LongJ (n : Nat) (w w' : World) (v : Value) (i : Nat) : Prop := i ≤ n ∧ OwnBytes w' w.heap.size v ((List.range i).map longB) ∧ Below w.heap.size w w'

theorem long_b (i : Nat) (h : i ≤ 15) : bits .or .u8 128 ((i : Int) * 37 % 256) = ((longB i).toNat : Int) := by
  have hi : ∀ j : Fin 16, bits .or .u8 128 ((j.val : Int) * 37 % 256) = ((longB j.val).toNat : Int) := by decide +kernel
  exact hi ⟨i, by omega⟩

set_option maxRecDepth 100000 in
set_option maxHeartbeats 1000000 in
theorem long_in (n : Nat) (y : UInt8) (bits : Int) (w : World) (hn : n ≤ 15) (hb1 : -9223372036854775808 ≤ bits) (hb2 : bits ≤ 9223372036854775807) :
    Calls Try.prog 5 #[.int .i64 n, .int .u8 y.toNat, .int .i64 bits] w (TrueEnd w) := by
  go_enter Try.func5, Try.ntmps5
  go_wp2_with fail
  refine (begun_any _).mono ?_
  rintro e w1 ⟨rfl, hb⟩
  go_wp2_with fail
  refine wp_loop_r (fun a' w' => ∃ (v : Value) (i : Nat), a' = { tmps := #[.int .i64 n, .int .u8 y.toNat, .int .i64 bits, undef, undef, undef, .bool false, slot a' 7, v, .int .i64 i, slot a' 10, slot a' 11, slot a' 12, slot a' 13, slot a' 14, slot a' 15, slot a' 16, slot a' 17, slot a' 18, slot a' 19, slot a' 20, slot a' 21, slot a' 22, slot a' 23, slot a' 24, slot a' 25, slot a' 26, slot a' 27, slot a' 28, slot a' 29, slot a' 30, slot a' 31, slot a' 32, slot a' 33, slot a' 34, slot a' 35, slot a' 36, slot a' 37, slot a' 38, slot a' 39, slot a' 40, slot a' 41, slot a' 42, slot a' 43, slot a' 44, slot a' 45, slot a' 46, slot a' 47, slot a' 48, slot a' 49, slot a' 50, slot a' 51, slot a' 52, slot a' 53, slot a' 54, slot a' 55, slot a' 56, slot a' 57, slot a' 58, slot a' 59, slot a' 60, slot a' 61, slot a' 62, slot a' 63, slot a' 64, slot a' 65, slot a' 66, slot a' 67, slot a' 68, slot a' 69, slot a' 70, slot a' 71, slot a' 72, slot a' 73, slot a' 74, slot a' 75, slot a' 76, slot a' 77, slot a' 78, slot a' 79, slot a' 80, slot a' 81, slot a' 82, slot a' 83, slot a' 84, slot a' 85, slot a' 86, slot a' 87, slot a' 88, slot a' 89, slot a' 90, slot a' 91, slot a' 92, slot a' 93, slot a' 94, slot a' 95, slot a' 96, slot a' 97, slot a' 98, slot a' 99, slot a' 100, slot a' 101, slot a' 102, slot a' 103, slot a' 104], defers := [] } ∧ LongJ n w w' v i) (fun a' _ => (n - (intOf (a'.tmps.getD 9 undef)).toNat)) ?_ ?_
  · exact ⟨_, 0, rfl, by omega, OwnBytes.nil _ _, hb⟩
  · clear hb
    rintro R a' w1 ⟨v, i, hfr, hJ⟩ HR
    obtain ⟨f, hf⟩ : ∃ f, f = slot a' := ⟨_, rfl⟩
    rw [← hf] at hfr
    clear hf
    subst hfr
    obtain ⟨w2, rfl⟩ : ∃ w2, w2 = w1 := ⟨_, rfl⟩
    obtain ⟨hi, ho, hb⟩ := hJ
    have hl : ((List.range i).map longB).length ≤ 15 := by simp; omega
    generalize hL : (List.range i).map longB = L at ho hl
    have HL := Lib.hid hL
    clear hL
    by_cases hin : i < n
    · have HM := Lib.hid (long_b i (by omega))
      go_wp2_with (first | (at_builtin; refine wpList_byte w2 rfl _ _ rfl rfl w.heap.size v _ rfl ho (longB i) _ HM.out rfl (by omega) hb.size ?_))
      intro v' w3 ho3 hk3 _
      go_wp2_with fail
      refine HR.out _ _ ⟨v', i + 1, rfl, by omega, ?_, hb.trans (hk3.below hb.size (fun j hj => (own_lt ho hj).1))⟩ ?_
      · rw [List.range_succ, List.map_append, HL.out]
        exact ho3
      · simp [intOf]
        omega
    · go_wp2_with (first | (at_builtin; refine Stop.out ?_))
      change wpList _ _ _ _ _ _
      refine wpList_bytes w2 rfl _ _ rfl rfl w2.heap.size _ [] rfl (OwnBytes.nil _ _) v L rfl ho.isBytes (by simp; omega) (Nat.le_refl _) ?_
      intro c w3 hc hk3 _
      have hb3 := keeps_nil hk3 rfl
      have hb0 := hb
      rw [List.nil_append] at hc
      have hsz := hb3.size
      go_wp2_with (first | (at_builtin; refine Stop.out ?_))
      change wpList _ _ _ _ _ _
      refine wpList_byte w3 rfl _ _ rfl rfl w2.heap.size c L rfl hc y _ rfl rfl (by omega) hsz ?_
      intro c' w4 hc4 hk4 _
      have hb24 : Below w2.heap.size w2 w4 := hb3.trans (hk4.below hsz (fun j hj => (own_lt hc hj).1))
      have hv := ho.isBytes.below hb24
      have h1 : Below w.heap.size w w4 := hb0.trans (hb24.mono hb0.size)
      have hcv := hc4.isBytes
      clear hb hb0 hb3 hk3 hk4 hb24 hc hc4 hsz ho
      go_wp2_with fail
      refine (U_any v L bits _ hv hb1 hb2).mono ?_
      rintro e w5 ⟨rfl, h2⟩
      replace hv := hv.below h2
      replace hcv := hcv.below h2
      replace h1 := below_next h1 h2
      clear h2
      go_wp2_with fail
      refine (GetU_any v L bits _ hv hb1 hb2).mono ?_
      rintro e w6 ⟨rfl, h2⟩
      replace hcv := hcv.below h2
      replace h1 := below_next h1 h2
      clear h2
      go_wp2_with fail
      refine (S_any c' _ bits _ hcv hb1 hb2).mono ?_
      rintro e w7 ⟨rfl, h2⟩
      replace hcv := hcv.below h2
      replace h1 := below_next h1 h2
      clear h2
      go_wp2_with fail
      refine (GetS_any c' _ bits _ hcv hb1 hb2).mono ?_
      rintro e w8 ⟨rfl, h2⟩
      replace h1 := below_next h1 h2
      clear h2
      go_wp2_with fail
      go_ret
      exact ⟨rfl, h1⟩

theorem long_out (n : Int) (y : UInt8) (bits : Int) (w : World) (hn : n < 0 ∨ 15 < n) :
    Calls Try.prog 5 #[.int .i64 n, .int .u8 y.toNat, .int .i64 bits] w (TrueEnd w) := by
  rcases hn with hn | hn
  · go_enter Try.func5, Try.ntmps5
    go_wp2_with fail
    refine (begun_any _).mono ?_
    rintro e w1 ⟨rfl, hb⟩
    go_wp2_with fail
    go_ret
    exact ⟨rfl, hb⟩
  · go_enter Try.func5, Try.ntmps5
    go_wp2_with fail
    refine (begun_any _).mono ?_
    rintro e w1 ⟨rfl, hb⟩
    go_wp2_with fail
    go_ret
    exact ⟨rfl, hb⟩

/-- THE WALK of the law. -/
theorem long_any (n y bits : Int) (w : World) (_h0 : (Lit.int .i64 n).wf = true) (h1 : (Lit.int .u8 y).wf = true) (h2 : (Lit.int .i64 bits).wf = true) :
    Calls Try.prog 5 #[.int .i64 n, .int .u8 y, .int .i64 bits] w (TrueEnd w) := by
  obtain ⟨a0, a1⟩ := bounds_u8 h1
  obtain ⟨c0, c1⟩ := bounds_i64 h2
  have e : y = ((b8 y.toNat).toNat : Int) := by rw [b8_toNat (by omega)]; omega
  rw [e]
  by_cases hn : n < 0 ∨ 15 < n
  · exact long_out n _ bits w hn
  · obtain ⟨m, rfl⟩ := Int.eq_ofNat_of_zero_le (show 0 ≤ n by omega)
    exact long_in m _ bits w (by omega) c0 c1
end Go.Proofs.Ytbgeijdfkdfdoaa
