/-
  Rows of structs once more: append of rows, one cell set; slices.Clone.
-/
import Derived.Test.YtpknafidbmnjpaaStJ
namespace Go.Proofs.Ytpknafidbmnjpaa
open Go.RowKit

section
variable {α : Type} {k : Nat} {enc : α → List Value} {t : TypeId}

/-- append of rows, in the walk. -/
theorem wpList_rows {P : Program} (w : World) {ops : Array Oper} {rest : List Oper} {o : Oper} {a : Act} {Q : Exit → Act → World → Prop} (hgd : o.guard = none) (s x : Operand) (ts : TypeId)
    (ho : o.op = .call { callee := .builtin .append, args := #[s, x], argTypes := #[ts, ts] })
    (z : Value) (bytes : Nat) (ht : P.underlying ts = some (.slice t)) (hi : (P.info? t).map (fun i => (i.zero, i.size, i.bytes)) = some (some z, k, bytes)) (hzs : z.cells.size = k) (h0 : 0 < k) (hby : bytes ≤ 100000000)
    (B : Nat) (v : Value) (l : List α) (hs : a.eval s = v) (hown : OwnRws t k enc w B v l) (hk : ∀ x, (enc x).length = k)
    (m : List α) (ad : Addr) (n c : Nat) (hx : a.eval x = .slice (some ad) n c) (hm : IsRws k enc w (.slice (some ad) n c) m) (h1 : ∀ y ∈ m, ∀ u ∈ enc y, u.oneCell' = true)
    (h63 : l.length + m.length ≤ 1000000) (hbase : B ≤ w.heap.size)
    (h : ∀ v' w', OwnRws t k enc w' B v' (l ++ m) → Keeps (OwnB v) w w' → SameOrNew w v v' → wpList P ops Q rest (a.put o.dst v') w') :
    wpList P ops Q (o :: rest) a w := by
  obtain ⟨i0, hi, hz0, hz1, hz2⟩ := info_parts hi
  obtain ⟨a', cap', hv, hc1, hc2, hc3⟩ := hm
  injection hv with e1 e2 e3
  subst e1 e2 e3
  refine wpList_app (P := P) w hgd s x ts ho B t i0 z k bytes ht hi hz0 hz1 hz2 hzs h0 v l.length (l.flatMap enc) hs hown ad m.length c (m.flatMap enc) hx (flat_len' hk m) ?_ ?_ (by simp only [maxLen]; omega) ?_ hbase ?_
  · intro j u hu
    have hj : j < m.length * k := by rw [← flat_len' hk]; exact (List.getElem?_eq_some_iff.1 hu).1
    have hjk : j / k < m.length := Nat.div_lt_of_lt_mul (by rw [Nat.mul_comm]; exact hj)
    obtain ⟨y, hy⟩ : ∃ y, m[j / k]? = some y := ⟨_, List.getElem?_eq_getElem hjk⟩
    obtain ⟨b, off, ha, hlt, hc⟩ := hc3 _ y hy
    injection ha with ha
    subst ha
    have h3 := flat_get hk m (j / k) y (j % k) hy (Nat.mod_lt _ h0)
    have h4 : j / k * k + j % k = j := Nat.div_add_mod' j k
    rw [h4, hu] at h3
    have h5 := hc (j % k) u h3.symm
    have hadd : (⟨b, off, none⟩ : Addr).add j = ⟨b, off + j, none⟩ := by unfold Addr.add; split <;> simp_all
    rw [hadd, ← h5]
    congr 2
    omega
  · intro u hu
    obtain ⟨y, hy, hu⟩ := List.mem_flatMap.1 hu
    exact h1 y hy u hu
  · have : (l.length + m.length) * bytes ≤ 1000000 * 100000000 := Nat.mul_le_mul (by omega) hby
    omega
  · intro v' w' h2 h3 h4
    refine h v' w' ?_ h3 h4
    simpa [OwnRws] using h2

theorem flat_set (hk : ∀ x, (enc x).length = k) : ∀ (l : List α) (i : Nat) (x y : α) (j : Nat) (u : Value), l[i]? = some x → j < k → enc y = (enc x).set j u → (l.set i y).flatMap enc = (l.flatMap enc).set (i * k + j) u
  | [], i, x, y, j, u, h, _, _ => by simp at h
  | d :: l, 0, x, y, j, u, h, hj, he => by
    simp at h
    subst h
    rw [List.set_cons_zero, List.flatMap_cons, List.flatMap_cons, he, List.set_append_left _ _ (by rw [hk]; omega)]
    simp
  | d :: l, i + 1, x, y, j, u, h, hj, he => by
    rw [List.set_cons_succ, List.flatMap_cons, List.flatMap_cons, List.set_append_right _ _ (by rw [hk, Nat.add_mul]; omega)]
    rw [show (i + 1) * k + j - (enc d).length = i * k + j from by rw [hk, Nat.add_mul]; omega]
    rw [flat_set hk l i x y j u (by simpa using h) hj he]

/-- One cell of one element is set. -/
theorem OwnRws.set {w : World} {B g n cap : Nat} {l : List α} (hk : ∀ x, (enc x).length = k) (h : OwnRws t k enc w B (.slice (some ⟨g, 0, none⟩) n cap) l) {i j : Nat} {x y : α} {u : Value} (hx : l[i]? = some x) (hj : j < k) (he : enc y = (enc x).set j u) :
    OwnRws t k enc (w.setCell ⟨g, i * k + j, none⟩ u) B (.slice (some ⟨g, 0, none⟩) n cap) (l.set i y) := by
  obtain ⟨hl, hv | ⟨g', cap', cur, hv, hb, hg, hn, hm, hs, ht⟩⟩ := h
  · cases hv.1
  · injection hv with e1 e2 e3
    injection e1 with e1
    injection e1 with e1 e4
    subst e1 e2 e3
    refine ⟨by rw [flat_len' hk], .inr ⟨g, cap, cur.setIfInBounds (i * k + j) u, by rw [List.length_set], hb, heap_setCell_same w g _ cur _ _ hg, by rw [List.length_set]; exact hn, hm, by simpa using hs, ?_⟩⟩
    rw [flat_set hk l i x y j u hx hj he, List.length_set]
    rw [Array.toList_setIfInBounds, List.take_set, ht]

/-- Where a row of the call's own stands, if it is not empty. -/
theorem OwnRws.open {w : World} {B : Nat} {v : Value} {l : List α} (h : OwnRws t k enc w B v l) (hl : l ≠ []) : ∃ g cap cur, v = .slice (some ⟨g, 0, none⟩) l.length cap ∧ B ≤ g ∧ g < w.heap.size ∧ w.heap[g]? = some (.cells cur t) ∧ l.length ≤ cap ∧ cap ≤ maxLen := by
  obtain ⟨_, hv | ⟨g, cap, cur, hv, hb, hg, hn, hm, hs, ht⟩⟩ := h
  · exact absurd (List.eq_nil_of_length_eq_zero hv.2) hl
  · exact ⟨g, cap, cur, hv, hb, (Array.getElem?_eq_some_iff.1 hg).1, hg, hn, hm⟩

theorem OwnRws.empty (w : World) : OwnRws t k enc (w.alloc (.cells #[] t)) w.heap.size (.slice (some ⟨w.heap.size, 0, none⟩) 0 0) [] :=
  ⟨by simp, .inr ⟨w.heap.size, 0, #[], rfl, Nat.le_refl _, heap_alloc_new w _, Nat.le_refl _, by simp [maxLen], by simp, by simp⟩⟩

def CloneEnd (t : TypeId) (k : Nat) (enc : α → List Value) (l : List α) (w : World) (e : Ending) (w' : World) : Prop := ∃ v, e = .returned v ∧ OwnRws t k enc w' w.heap.size v l ∧ Below w.heap.size w w'
end


set_option maxRecDepth 100000 in
theorem cloneV_any (v : Value) (l : List VEnt) (w : World) (hl : IsRws 2 encV w v l) (hll : l.length ≤ 1000000) : Calls Try.prog 39 #[v] w (CloneEnd 39 2 encV l w) := by
  obtain ⟨a, cap, rfl, h1, h2, h3⟩ := id hl
  unfold maxLen at h2
  have HI := Lib.hid hl
  cases a with
  | none =>
    obtain rfl : l = [] := by
      cases l with
      | nil => rfl
      | cons x l =>
        obtain ⟨_, _, h, _⟩ := h3 0 x rfl
        cases h
    clear h3 hl
    have e1 := Lib.run_eql_slice_nil (P := Try.prog) w 22 39 none 0 cap 0 0 (by kernel_rfl)
    rw [Option.isNone_none] at e1
    go_enter Try.func39, Try.ntmps39
    go_wp2_with fail
    go_ret
    exact ⟨_, rfl, OwnRws.nil _ _, Below.refl _ _⟩
  | some ad =>
    clear h3 hl
    have e1 := Lib.run_eql_slice_nil (P := Try.prog) w 22 39 (some ad) l.length cap 0 0 (by kernel_rfl)
    rw [Option.isNone_some] at e1
    go_enter Try.func39, Try.ntmps39
    go_wp2_with (first | (at_builtin; refine Stop.out ?_))
    change wpList _ _ _ _ _ (World.alloc _ (.cells #[] 39))
    have hbo := (Below.refl w.heap.size w).alloc (Nat.le_refl _) (.cells #[] 39)
    refine wpList_rows (w.alloc (.cells #[] 39)) rfl _ _ 22 rfl _ 16 (by kernel_rfl) info_val rfl (by decide) (by decide) w.heap.size (.slice (some ⟨w.heap.size, 0, none⟩) 0 0) [] rfl (OwnRws.empty w) encV_len l ad l.length cap rfl (HI.out.below hbo) (fun y _ => encV_one y) (by simp only [List.length_nil]; omega) hbo.size ?_
    intro v w' ho hk hs
    have hb : Below w.heap.size w w' := hbo.trans (hk.below hbo.size (fun i hi => by simp [OwnB, Value.ownBlock] at hi; omega))
    clear hk hs hbo
    go_wp2_with fail
    go_ret
    exact ⟨v, rfl, by simpa using ho, hb⟩

set_option maxRecDepth 100000 in
theorem cloneL_any (v : Value) (l : List LEnt) (w : World) (hl : IsRws 2 encL w v l) (hll : l.length ≤ 1000000) : Calls Try.prog 41 #[v] w (CloneEnd 44 2 encL l w) := by
  obtain ⟨a, cap, rfl, h1, h2, h3⟩ := id hl
  unfold maxLen at h2
  have HI := Lib.hid hl
  cases a with
  | none =>
    obtain rfl : l = [] := by
      cases l with
      | nil => rfl
      | cons x l =>
        obtain ⟨_, _, h, _⟩ := h3 0 x rfl
        cases h
    clear h3 hl
    have e1 := Lib.run_eql_slice_nil (P := Try.prog) w 40 44 none 0 cap 0 0 (by kernel_rfl)
    rw [Option.isNone_none] at e1
    go_enter Try.func41, Try.ntmps41
    go_wp2_with fail
    go_ret
    exact ⟨_, rfl, OwnRws.nil _ _, Below.refl _ _⟩
  | some ad =>
    clear h3 hl
    have e1 := Lib.run_eql_slice_nil (P := Try.prog) w 40 44 (some ad) l.length cap 0 0 (by kernel_rfl)
    rw [Option.isNone_some] at e1
    go_enter Try.func41, Try.ntmps41
    go_wp2_with (first | (at_builtin; refine Stop.out ?_))
    change wpList _ _ _ _ _ (World.alloc _ (.cells #[] 44))
    have hbo := (Below.refl w.heap.size w).alloc (Nat.le_refl _) (.cells #[] 44)
    refine wpList_rows (w.alloc (.cells #[] 44)) rfl _ _ 40 rfl _ 16 (by kernel_rfl) info_label rfl (by decide) (by decide) w.heap.size (.slice (some ⟨w.heap.size, 0, none⟩) 0 0) [] rfl (OwnRws.empty w) encL_len l ad l.length cap rfl (HI.out.below hbo) (fun y _ => encL_one y) (by simp only [List.length_nil]; omega) hbo.size ?_
    intro v w' ho hk hs
    have hb : Below w.heap.size w w' := hbo.trans (hk.below hbo.size (fun i hi => by simp [OwnB, Value.ownBlock] at hi; omega))
    clear hk hs hbo
    go_wp2_with fail
    go_ret
    exact ⟨v, rfl, by simpa using ho, hb⟩

set_option maxRecDepth 100000 in
theorem cloneF_any (v : Value) (l : List (FEnt × Value × Value)) (w : World) (hl : IsRws 5 encF w v l) (hll : l.length ≤ 1000000) (hone : ∀ y ∈ l, ∀ u ∈ encF y, u.oneCell' = true) : Calls Try.prog 40 #[v] w (CloneEnd 42 5 encF l w) := by
  obtain ⟨a, cap, rfl, h1, h2, h3⟩ := id hl
  unfold maxLen at h2
  have HI := Lib.hid hl
  cases a with
  | none =>
    obtain rfl : l = [] := by
      cases l with
      | nil => rfl
      | cons x l =>
        obtain ⟨_, _, h, _⟩ := h3 0 x rfl
        cases h
    clear h3 hl
    have e1 := Lib.run_eql_slice_nil (P := Try.prog) w 23 42 none 0 cap 0 0 (by kernel_rfl)
    rw [Option.isNone_none] at e1
    go_enter Try.func40, Try.ntmps40
    go_wp2_with fail
    go_ret
    exact ⟨_, rfl, OwnRws.nil _ _, Below.refl _ _⟩
  | some ad =>
    clear h3 hl
    have e1 := Lib.run_eql_slice_nil (P := Try.prog) w 23 42 (some ad) l.length cap 0 0 (by kernel_rfl)
    rw [Option.isNone_some] at e1
    go_enter Try.func40, Try.ntmps40
    go_wp2_with (first | (at_builtin; refine Stop.out ?_))
    change wpList _ _ _ _ _ (World.alloc _ (.cells #[] 42))
    have hbo := (Below.refl w.heap.size w).alloc (Nat.le_refl _) (.cells #[] 42)
    refine wpList_rows (w.alloc (.cells #[] 42)) rfl _ _ 23 rfl _ 72 (by kernel_rfl) info_frame rfl (by decide) (by decide) w.heap.size (.slice (some ⟨w.heap.size, 0, none⟩) 0 0) [] rfl (OwnRws.empty w) encF_len l ad l.length cap rfl (HI.out.below hbo) hone (by simp only [List.length_nil]; omega) hbo.size ?_
    intro v w' ho hk hs
    have hb : Below w.heap.size w w' := hbo.trans (hk.below hbo.size (fun i hi => by simp [OwnB, Value.ownBlock] at hi; omega))
    clear hk hs hbo
    go_wp2_with fail
    go_ret
    exact ⟨v, rfl, by simpa using ho, hb⟩
end Go.Proofs.Ytpknafidbmnjpaa
