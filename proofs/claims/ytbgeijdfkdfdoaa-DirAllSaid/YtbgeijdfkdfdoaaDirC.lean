/-
  append of a string to a row of bytes of the call's own.
-/
import Derived.Test.YtbgeijdfkdfdoaaDirB
namespace Go.Proofs.Ytbgeijdfkdfdoaa
open Go.RowKit

theorem firstCells_bs (l : List UInt8) (w : World) : (Builtin.firstCells 1 l.length (.string (bs l))).run Try.prog w = .ok (l.map bv).toArray w := by
  have h : ((bs l).extract 0 l.length).data.map (fun b : UInt8 => Value.int IntKind.u8 (b.toNat : Int)) = (l.map bv).toArray := by
    have e : (bs l).extract 0 l.length = bs l := by
      apply ByteArray.ext
      simp [bs]
    rw [e]
    simp [bs]
  simp only [Builtin.firstCells, Sem.run_pure, h]

theorem run_app_str (w : World) (B : Nat) (ty : TypeId) (v : Value) (l m : List UInt8) (hown : OwnBytes w B v l) (h63 : l.length + m.length ≤ 140737488355327) (hbase : B ≤ w.heap.size) :
    ∃ v' w', (Builtin.append_ #[22, 9] ty #[v, .string (bs m)]).run Try.prog w = .ok v' w' ∧ OwnBytes w' B v' (l ++ m) ∧ Keeps (OwnB v) w w' ∧ SameOrNew w v v' := by
  obtain ⟨i0, hi, hz0, hz1, hz2⟩ := info_parts info_u8
  have ht : Try.prog.underlying 22 = some (.slice 5) := by kernel_rfl
  have hu : Try.prog.underlying 9 = some .string := by kernel_rfl
  have hs : (bs m).size = m.length := bs_size m
  have grown : ∀ (old : Nat), old < l.length + m.length →
      OwnBytes (w.drew.alloc (.cells ((l.map bv).toArray ++ (m.map bv).toArray ++ Builtin.zeroCells #[.int .u8 0] (grownCap w (l.length + m.length) old 5 - (l.length + m.length))) 5)) B
        (.slice (some ⟨w.heap.size, 0, none⟩) (l.length + m.length) (grownCap w (l.length + m.length) old 5)) (l ++ m) ∧
      Keeps (OwnB v) w (w.drew.alloc (.cells ((l.map bv).toArray ++ (m.map bv).toArray ++ Builtin.zeroCells #[.int .u8 0] (grownCap w (l.length + m.length) old 5 - (l.length + m.length))) 5)) ∧
      SameOrNew w v (.slice (some ⟨w.heap.size, 0, none⟩) (l.length + m.length) (grownCap w (l.length + m.length) old 5)) := by
    intro old ho
    have hge := grownCap_ge w (l.length + m.length) old 5
    have hcm : grownCap w (l.length + m.length) old 5 ≤ maxLen := grownCap_le_maxLen w (l.length + m.length) old 5 (by simp only [maxLen]; omega)
    refine ⟨⟨by simp, .inr ⟨w.heap.size, _, _, ?_, hbase, heap_alloc_new w.drew _, ?_, hcm, ?_, ?_⟩⟩, (Keeps.refl _ _).drew.alloc _, fun k hk => .inr ?_⟩
    · rw [List.length_append]
    · rw [List.length_append]; exact hge
    · simp [size_zeroCells]
      omega
    · simp only [Array.toList_append, List.append_assoc]
      rw [← List.append_assoc, List.map_append, Nat.mul_one, show (l ++ m).length = (l.map bv ++ m.map bv).length from by simp]
      exact List.take_left
    · simp [OwnB, Value.ownBlock] at hk
      omega
  rcases hown.2 with ⟨rfl, h0⟩ | ⟨g, cap, cur, rfl, hbg, hg, hnc, hcm, hcs, htake⟩
  · obtain rfl : l = [] := List.eq_nil_of_length_eq_zero h0
    by_cases hm : m.length = 0
    · obtain rfl : m = [] := List.eq_nil_of_length_eq_zero hm
      refine ⟨.slice none 0 0, w, ?_, OwnBytes.nil _ _, Keeps.refl _ _, SameOrNew.refl _ _⟩
      have hf := firstCells_bs [] w
      simp only [List.length_nil] at hf
      simp [Builtin.append_, run_underlying ht, run_underlying hu, sizeOf, typeInfo, hi, hz1, Builtin.lenOf, hs, hf]
    · have hr := run_append_nil_string (P := Try.prog) w 22 9 ty 5 i0 (.int .u8 0) ht hu hi hz0 (bs m) (by omega) (by omega) (by rw [hz2]; omega)
      have hgr := grown 0 (by simp; omega)
      have e1 : (bs m).data.map (fun b : UInt8 => Value.int IntKind.u8 (b.toNat : Int)) = (m.map bv).toArray := by simp [bs]
      rw [hs, e1] at hr
      simp only [List.length_nil, Nat.zero_add, List.map_nil, List.nil_append, Array.empty_append] at hgr
      exact ⟨_, _, hr, hgr.1, hgr.2.1, hgr.2.2⟩
  · simp only [Nat.mul_one] at hcs htake
    by_cases hroom : l.length + m.length ≤ cap
    · have hf := firstCells_bs m w
      have hst := run_storeCells_at Try.prog g l.length 5 (m.map bv) 0 cur w hg (by simp; omega) (bv_one m)
      simp only [Nat.add_zero] at hst
      refine ⟨.slice (some ⟨g, 0, none⟩) (l.length + m.length) cap, w.setRow g (cur.toList.take l.length ++ m.map bv ++ cur.toList.drop (l.length + (m.map bv).length)).toArray, ?_, ⟨by simp, .inr ⟨g, cap, _, by rw [List.length_append], hbg, setRow_heap w g cur _ _ _ hg, by rw [List.length_append]; exact hroom, hcm, ?_, ?_⟩⟩, ⟨rfl, rfl, rfl, by simp, fun k _ hk => setRow_other w g k _ (fun e => hk (by simp [OwnB, Value.ownBlock, e]))⟩, fun k hk => .inl hk⟩
      · simp [Builtin.append_, run_underlying ht, run_underlying hu, sizeOf, typeInfo, hi, hz1, Builtin.lenOf, hs, hroom, hf, Addr.add_lit, hst]
      · simp only [List.size_toArray, List.length_append, List.length_take, List.length_drop, Array.length_toList, List.length_map]
        omega
      · rw [htake, List.map_append, Nat.mul_one, show (l ++ m).length = (l.map bv ++ m.map bv).length from by simp]
        exact List.take_left
    · have holds : ∀ j u, (l.map bv)[j]? = some u → w.cell? ((⟨g, 0, none⟩ : Addr).add j) = some u := hown.cells (g := g) rfl
      have hn : ¬ (l.length + m.length ≤ cap) := hroom
      have h63' : ¬ (9223372036854775807 < ((l.length : Int) + (m.length : Int))) := by omega
      have h48' : ¬ (281474976710656 < Builtin.nextslicecap (l.length + m.length) cap * i0.bytes) := by
        have := growslice_fits (need := l.length + m.length) (old := cap) (bytes := 1) (by omega) (by omega)
        rw [hz2]
        omega
      have hf := firstCells_bs m w.drew
      have hfo := run_firstCells_some (P := Try.prog) w.drew 1 l.length ⟨g, 0, none⟩ l.length cap (l.map bv) (by simp) (by simpa using holds)
      have hgr := grown cap (by omega)
      refine ⟨_, _, ?_, hgr.1, hgr.2.1, hgr.2.2⟩
      rw [hz2, Nat.mul_one] at h48'
      simp [Builtin.append_, run_underlying ht, run_underlying hu, sizeOf, typeInfo, zeroValue, hi, hz0, hz1, hz2, Builtin.lenOf, hs, hn, h63', h48', Question.forced, hf, hfo, newRow, grownCap]
      congr 2
      apply Array.ext'
      simp [List.append_assoc]
      rfl

/-- 'append(v, s...)' of a string, in the walk. -/
theorem wpList_str {P : Program} (w : World) {ops : Array Oper} {rest : List Oper} {o : Oper} {a : Act} {Q : Exit → Act → World → Prop} (hgd : o.guard = none) (s x : Operand)
    (hP : P = Try.prog) (ho : o.op = .call { callee := .builtin .append, args := #[s, x], argTypes := #[22, 9] })
    (B : Nat) (v : Value) (l m : List UInt8) (hs : a.eval s = v) (hown : OwnBytes w B v l) (hx : a.eval x = .string (bs m))
    (h63 : l.length + m.length ≤ 140737488355327) (hbase : B ≤ w.heap.size)
    (h : ∀ v' w', OwnBytes w' B v' (l ++ m) → Keeps (OwnB v) w w' → SameOrNew w v v' → wpList P ops Q rest (a.put o.dst v') w') : wpList P ops Q (o :: rest) a w := by
  subst hP
  refine wpList_plain hgd fun _ hK => ?_
  obtain ⟨v', w', hr, h2, h3, h4⟩ := run_app_str w B o.type v l m hown h63 hbase
  unfold Oper.wp execOp
  simp only [ho, resolve, invoke, builtin, Sem.run_bind, Sem.run_pure, Result.andThen_ok, List.map_toArray, List.map_cons, List.map_nil, hs, hx, hr]
  exact hK _ _ (h v' w' h2 h3 h4)
end Go.Proofs.Ytbgeijdfkdfdoaa
