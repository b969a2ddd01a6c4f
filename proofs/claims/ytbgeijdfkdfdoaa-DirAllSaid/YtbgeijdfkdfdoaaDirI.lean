/-
  Walks of the statements' own functions: shorter, Cut, may, eq.
-/
import Derived.Test.YtbgeijdfkdfdoaaDirH
namespace Go.Proofs.Ytbgeijdfkdfdoaa
open Go.RowKit

theorem bs_take (l : List UInt8) (n : Nat) : (bs l).extract 0 n = bs (l.take n) := by
  apply ByteArray.ext
  simp [bs]

def StrEnd (l : List UInt8) (w : World) (e : Ending) (w' : World) : Prop := e = .returned (.string (bs l)) ∧ w = w'

theorem shorter_any (s : List UInt8) (hs : s.length ≤ 9223372036854775807) (w : World) : Calls Try.prog 27 #[.string (bs s), .int .i64 22] w (StrEnd (s.take 22) w) := by
  have hsz := bs_size s
  by_cases h : 22 < s.length
  · have f1 : decide (22 < ((bs s).size : Int)) = true := decide_eq_true (by rw [hsz]; omega)
    have h2 : 22 ≤ (bs s).size := by rw [hsz]; omega
    have HS := Lib.hid hsz
    clear hsz
    go_enter Try.func27, Try.ntmps27
    go_wp2
    go_ret
    exact ⟨by rw [← bs_take]; rfl, rfl⟩
  · have f1 : decide (22 < ((bs s).size : Int)) = false := decide_eq_false (by rw [hsz]; omega)
    have HS := Lib.hid hsz
    clear hsz
    go_enter Try.func27, Try.ntmps27
    go_wp2
    go_ret
    exact ⟨by rw [List.take_of_length_le (by omega)]; rfl, rfl⟩

/-- An entry with a name that is not too long. -/
def DEnt.cut (e : DEnt) : DEnt := { e with name := e.name.take 22 }

def cutL (l : List DEnt) : List DEnt := (l.take 34).map DEnt.cut

def CutEnd (l : List DEnt) (w : World) (e : Ending) (w' : World) : Prop := ∃ v, e = .returned v ∧ OwnEnts w' w.heap.size v (cutL l) ∧ Below w.heap.size w w'

def CutJ (l : List DEnt) (w w' : World) (v : Value) (k : Nat) : Prop := k ≤ l.length ∧ k ≤ 34 ∧ OwnEnts w' w.heap.size v ((l.take k).map DEnt.cut) ∧ Below w.heap.size w w'

set_option maxRecDepth 100000 in
set_option maxHeartbeats 2000000 in
theorem cut_any (v : Value) (l : List DEnt) (w : World) (hl : IsEnts w v l) : Calls Try.prog 26 #[v] w (CutEnd l w) := by
  have HI := Lib.hid hl
  obtain ⟨a, cap, rfl, h1, h2, _⟩ := hl
  unfold maxLen at h2
  go_enter Try.func26, Try.ntmps26
  go_wp2_with fail
  refine wp_loop_r (fun a' w' => ∃ (v : Value) (k : Nat), a' = { tmps := #[.slice a l.length cap, slot a' 1, slot a' 2, v, .int .i64 k, slot a' 5, slot a' 6, slot a' 7, slot a' 8, slot a' 9, slot a' 10, slot a' 11, slot a' 12, slot a' 13, slot a' 14, slot a' 15, slot a' 16, slot a' 17, slot a' 18, slot a' 19, slot a' 20, slot a' 21, slot a' 22, slot a' 23, slot a' 24, slot a' 25, slot a' 26, slot a' 27, slot a' 28], defers := [] } ∧ CutJ l w w' v k) (fun a' _ => (35 - (intOf (a'.tmps.getD 4 undef)).toNat)) ?_ ?_
  · exact ⟨_, 0, rfl, by omega, by omega, OwnEnts.nil _ _, Below.refl _ _⟩
  · skip
    rintro R a' w1 ⟨v, k, hfr, hJ⟩ HR
    obtain ⟨f, hf⟩ : ∃ f, f = slot a' := ⟨_, rfl⟩
    rw [← hf] at hfr
    clear hf
    subst hfr
    obtain ⟨hk, hk34, ho, hb⟩ := hJ
    by_cases hkl : k < l.length
    · by_cases hk3 : k < 34
      · obtain ⟨e, he⟩ : ∃ e, l[k]? = some e := ⟨_, List.getElem?_eq_getElem hkl⟩
        obtain ⟨a', cap', hv, _, _, hcells⟩ := HI.out.below (hb.mono (Nat.le_refl _))
        injection hv with e1 e2 e3
        subst e1 e3
        obtain ⟨hok, b, off, rfl, c0, c1, c2, c3⟩ := hcells k e he
        have HE := Lib.hid he
        clear hcells e2 he
        go_wp2_with fail
        refine (shorter_any e.name hok.1 _).mono ?_
        rintro x w2 ⟨rfl, rfl⟩
        go_wp2_with (first | (at_builtin; refine Stop.out ?_))
        change wpList _ _ _ _ _ _
        have hcl : ((l.take k).map DEnt.cut).length ≤ 34 := by rw [List.length_map, List.length_take]; omega
        refine wpList_ent _ rfl _ _ rfl rfl w.heap.size v ((l.take k).map DEnt.cut) rfl (ho.below ((Below.refl _ _).alloc (Nat.le_refl _) _)) e.cut (by rw [World.size_alloc]; rfl) (by omega) (by simp; have := hb.size; omega) ?_
        intro v2 w3 ho3 hk3 _
        have hb3 : Below w.heap.size w w3 := (hb.alloc hb.size _).trans (hk3.below (by simp; have := hb.size; omega) (fun j hj => (own_lt ho hj).1))
        clear ho hb hk3 c0 c1 c2 c3
        go_wp2_with fail
        refine HR.out _ _ ⟨v2, k + 1, rfl, by omega, by omega, ?_, hb3⟩ ?_
        · rw [List.take_add_one, HE.out]
          simpa using ho3
        · simp [intOf]
          omega
      · obtain rfl : k = 34 := by omega
        go_wp2_with fail
        go_ret
        exact ⟨v, rfl, ho, hb⟩
    · obtain rfl : k = l.length := by omega
      go_wp2_with fail
      go_ret
      refine ⟨v, rfl, ?_, hb⟩
      rw [cutL, List.take_of_length_le (by omega)]
      rw [List.take_of_length_le (by omega)] at ho
      exact ho
end Go.Proofs.Ytbgeijdfkdfdoaa
