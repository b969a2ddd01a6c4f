/-
  Walks: whether a list of values has one that may not be.
-/
import Derived.Test.YtpknafidbmnjpaaReadV
namespace Go.Proofs.Ytpknafidbmnjpaa
open Go.RowKit

theorem callsPred_any (v : VEnt) (w : World) : Calls Try.prog 45 #[.agg #[.int .i64 v.kind, .int .i64 v.n]] w (BoolEnd (!decide v.may) w) := by
  go_enter Try.func45, Try.ntmps45
  go_wp2_with fail
  refine (intsMay_any v _).mono ?_
  rintro e w2 ⟨rfl, hb⟩
  replace hb := ((Below.refl w.heap.size w).alloc (Nat.le_refl _) _).trans (hb.mono (by simp))
  go_wp2_with fail
  go_ret
  exact ⟨rfl, hb⟩

/-- The predicate. -/
def badV (v : VEnt) : Bool := !decide v.may

set_option maxRecDepth 100000 in
set_option maxHeartbeats 2000000 in
theorem ixVals_any (v : Value) (l : List VEnt) (w : World) (hl : IsRws 2 encV w v l) :
    Calls Try.prog 54 #[v, .func (.func 45) #[] #[]] w (IdxEnd badV l w) := by
  have HI := Lib.hid hl
  obtain ⟨a, cap, rfl, h1, h2, _⟩ := hl
  unfold maxLen at h2
  go_enter Try.func54, Try.ntmps54
  go_wp2_with fail
  refine wp_loop_r (fun a' w' => ∃ (k : Nat), a' = { tmps := #[.slice a l.length cap, .func (.func 45) #[] #[], slot a' 2, slot a' 3, slot a' 4, slot a' 5, slot a' 6, .int .i64 l.length, .int .i64 k, slot a' 9, slot a' 10, slot a' 11, slot a' 12, slot a' 13, slot a' 14, slot a' 15, slot a' 16, slot a' 17, slot a' 18], defers := [] } ∧ IdxJ badV l w w' k) (fun a' _ => (l.length - (intOf (a'.tmps.getD 8 undef)).toNat)) ?_ ?_
  · exact ⟨0, rfl, by omega, fun i hi => by omega, Below.refl _ _⟩
  · skip
    rintro R a' w1 ⟨k, hfr, hJ⟩ HR
    obtain ⟨f, hf⟩ : ∃ f, f = slot a' := ⟨_, rfl⟩
    rw [← hf] at hfr
    clear hf
    subst hfr
    obtain ⟨hk, hm, hb⟩ := hJ
    have HMM := Lib.hid hm
    clear hm
    by_cases hkl : k < l.length
    · obtain ⟨e, he⟩ : ∃ e, l[k]? = some e := ⟨_, List.getElem?_eq_getElem hkl⟩
      obtain ⟨a', cap', hv, _, _, hcells⟩ := HI.out.below (hb.mono (Nat.le_refl _))
      injection hv with e1 e2 e3
      subst e1 e3
      obtain ⟨b, off, rfl, hlt, hc⟩ := hcells k e he
      have c0 := hc 0 _ rfl
      have c1 := hc 1 _ rfl
      rw [Nat.add_zero] at c0
      have HE := Lib.hid he
      clear hcells e2 he hc
      have hcall := callsPred_any e w1
      cases hq : badV e
      all_goals
        rw [show (!decide e.may) = badV e from rfl, hq] at hcall
        have HQ := Lib.hid hq
        clear hq
        go_wp2_with fail
        refine hcall.mono ?_
        rintro x w2 ⟨rfl, hb2⟩
        replace hb := below_next hb hb2
        clear hcall c0 c1 hb2
        go_wp2_with fail
      · refine HR.out _ _ ⟨k + 1, rfl, by omega, ?_, hb⟩ ?_
        · intro i hi d hd
          rcases Nat.lt_or_ge i k with h | h
          · exact HMM.out i h d hd
          · obtain rfl : i = k := by omega
            rw [HE.out] at hd
            injection hd with hd
            rw [← hd]
            exact HQ.out
        · simp [intOf]
          omega
      · go_ret
        exact ⟨by rw [idxR_hit HE.out HQ.out HMM.out]; rfl, hb⟩
    · obtain rfl : k = l.length := by omega
      go_wp2_with fail
      go_ret
      exact ⟨by rw [idxR_miss HMM.out]; rfl, hb⟩

theorem hasBad_any (v : Value) (l : List VEnt) (w : World) (hl : IsRws 2 encV w v l) :
    Calls Try.prog 44 #[v, .func (.func 45) #[] #[]] w (BoolEnd (l.any badV) w) := by
  go_enter Try.func44, Try.ntmps44
  go_wp2_with fail
  refine (ixVals_any v l _ hl).mono ?_
  rintro x w2 ⟨rfl, hb⟩
  go_wp2_with fail
  go_ret
  exact ⟨by rw [← idxR_any]; rfl, hb⟩

end Go.Proofs.Ytpknafidbmnjpaa
