/-
  Walk of state.Reader's Vals: values are read.
-/
import Derived.Test.YtpknafidbmnjpaaRead
namespace Go.Proofs.Ytpknafidbmnjpaa
open Go.RowKit

/-- So many values, till the reader is bad. -/
def valsL : Nat → Option (List UInt8) → List VEnt × Option (List UInt8)
  | 0, st => ([], st)
  | _ + 1, none => ([], none)
  | n + 1, some l => (⟨(numR (some l)).1, (sgnR (numR (some l)).2).1⟩ :: (valsL n (sgnR (numR (some l)).2).2).1, (valsL n (sgnR (numR (some l)).2).2).2)
def valsR (st : Option (List UInt8)) : List VEnt × Option (List UInt8) := valsL (numR st).1 (numR st).2

theorem valsL_none (n : Nat) : valsL n none = ([], none) := by cases n <;> rfl

theorem valsL_put : ∀ (l : List VEnt) (r : List UInt8), (∀ v ∈ l, v.may ∧ v.ok) → valsL l.length (some ((l.map valB).flatten ++ r)) = (l, some r)
  | [], r, _ => rfl
  | v :: l, r, h => by
    obtain ⟨hm, hk⟩ := h v (by simp)
    have h0 : 0 ≤ v.kind ∧ v.kind ≤ 2 := by rcases hm with g | g <;> omega
    have e1 : ((v :: l).map valB).flatten ++ r = putU v.kind.toNat ++ (putS v.n ++ ((l.map valB).flatten ++ r)) := by simp [valB]
    have e2 : ((v.kind.toNat : Nat) : Int) = v.kind := by omega
    rw [e1, List.length_cons, valsL, numR_put _ _ (by omega)]
    simp only [sgnR_put v.n _ hk.2.1 hk.2.2, valsL_put l r (fun x hx => h x (by simp [hx])), e2]

theorem valsR_put (l : List VEnt) (r : List UInt8) (h : ∀ v ∈ l, v.may ∧ v.ok) (hl : l.length ≤ 1000000) : valsR (some (valsB l ++ r)) = (l, some r) := by
  rw [valsR, valsB, List.append_assoc, numR_put _ _ (by omega)]
  exact valsL_put l r h

def ValsEnd (B0 Rb : Nat) (st : Option (List UInt8)) (w : World) (e : Ending) (w' : World) : Prop :=
  ∃ v, e = .returned v ∧ OwnRws 39 2 encV w' w.heap.size v (valsR st).1 ∧ (∀ x ∈ (valsR st).1, x.ok) ∧ (valsR st).1.length + stl (valsR st).2 ≤ stl st ∧ Rd B0 w' Rb (valsR st).2 ∧ Keeps (fun k => k = Rb) w w'

def ValsJ (B0 Rb : Nat) (st0 : Option (List UInt8)) (w w' : World) (v : Value) (acc : List VEnt) (n : Nat) (st : Option (List UInt8)) : Prop :=
  valsR st0 = (acc ++ (valsL n st).1, (valsL n st).2) ∧ OwnRws 39 2 encV w' w.heap.size v acc ∧ (∀ x ∈ acc, x.ok) ∧ acc.length + stl st ≤ stl st0 ∧ Rd B0 w' Rb st ∧ Keeps (fun k => k = Rb) w w' ∧ n < 4611686018427387904

theorem info_val : (Try.prog.info? 39).map (fun i => (i.zero, i.size, i.bytes)) = some (some (.agg #[.int .i64 0, .int .i64 0]), 2, 16) := by kernel_rfl

set_option maxRecDepth 100000 in
set_option maxHeartbeats 2000000 in
theorem vals_read (B0 Rb : Nat) (st : Option (List UInt8)) (w : World) (hr : Rd B0 w Rb st) (hl : stl st ≤ 500000) (hB0 : B0 ≤ w.heap.size) : Calls Try.prog 36 #[.pointer (some ⟨Rb, 0, none⟩)] w (ValsEnd B0 Rb st w) := by
  have hR : Rb < w.heap.size := by obtain ⟨_, _, _, hb, _, _⟩ := hr; exact hb.lt
  go_enter Try.func36, Try.ntmps36
  go_wp2_with fail
  refine (num_read B0 Rb st w hr).mono ?_
  rintro x w1 ⟨rfl, hr1, hk1⟩
  go_wp2_with fail
  refine wp_loop_r (fun a' w' => ∃ (v : Value) (acc : List VEnt) (n : Nat) (s : Option (List UInt8)), a' = { tmps := #[.pointer (some ⟨Rb, 0, none⟩), slot a' 1, slot a' 2, v, .int .i64 n, slot a' 5, slot a' 6, slot a' 7, slot a' 8, slot a' 9, slot a' 10, slot a' 11, slot a' 12, slot a' 13, slot a' 14, slot a' 15, slot a' 16, slot a' 17, slot a' 18, slot a' 19, slot a' 20, slot a' 21, slot a' 22, slot a' 23, slot a' 24, slot a' 25, slot a' 26], defers := [] } ∧ ValsJ B0 Rb st w w' v acc n s) (fun a' _ => (intOf (a'.tmps.getD 4 undef)).toNat) ?_ ?_
  · exact ⟨_, [], (numR st).1, (numR st).2, rfl, by simp [valsR], OwnRws.nil _ _, by simp, by have := stl_num' st; simpa using this, hr1, hk1, numR_lt st⟩
  · clear hk1 hr1
    rintro R a' w1 ⟨v, acc, n, s, hfr, hJ⟩ HR
    obtain ⟨f, hf⟩ : ∃ f, f = slot a' := ⟨_, rfl⟩
    rw [← hf] at hfr
    clear hf
    subst hfr
    obtain ⟨hv, ho, hok, hlen, hrd, hk, hn⟩ := hJ
    have HRD := Lib.hid hrd
    obtain ⟨ar, nr, capr, hbk, _⟩ := hrd
    have c1 : w1.cell? ⟨Rb, 1, none⟩ = some (.bool s.isNone) := hbk.cell 1
    have HV := Lib.hid hv
    have HOK := Lib.hid hok
    have hsz := hk.size
    clear hv hok hbk
    rcases Nat.eq_zero_or_pos n with hn0 | hn0
    · subst hn0
      go_wp2_with fail
      go_ret
      have h1 := HV.out
      rw [valsL, List.append_nil] at h1
      refine ⟨v, rfl, ?_, ?_, ?_, ?_, hk⟩
      · rw [h1]; exact ho
      · rw [h1]; exact HOK.out
      · rw [h1]; exact hlen
      · rw [h1]; exact HRD.out
    have f0 : decide ((0 : Int) < (n : Int)) = true := decide_eq_true (by omega)
    cases s with
    | none =>
      have c1 : w1.cell? ⟨Rb, 1, none⟩ = some (.bool true) := c1
      go_wp2_with fail
      go_ret
      have h1 := HV.out
      rw [valsL_none, List.append_nil] at h1
      refine ⟨v, rfl, ?_, ?_, ?_, ?_, hk⟩
      · rw [h1]; exact ho
      · rw [h1]; exact HOK.out
      · rw [h1]; exact hlen
      · rw [h1]; exact HRD.out
    | some l =>
      have c1 : w1.cell? ⟨Rb, 1, none⟩ = some (.bool false) := c1
      have hnot : ∀ i, OwnB v i → ¬ i = Rb := fun i hi => by have := (own_lt ho hi).1; omega
      have hs1 := stl_num l
      have hs2 := stl_sgn (numR (some l)).2
      have hn1 := numR_lt (some l)
      obtain ⟨hg1, hg2⟩ := sgnR_in (numR (some l)).2
      have hal : acc.length ≤ 500000 := by omega
      have HS := Lib.hid (show acc.length + 1 + stl (sgnR (numR (some l)).2).2 ≤ stl st by omega)
      have HNT := Lib.hid hnot
      clear hs1 hs2 hlen hnot
      go_wp2_with fail
      refine (num_read B0 Rb (some l) w1 HRD.out).mono ?_
      rintro x w2 ⟨rfl, hr2, hk2⟩
      have HRD2 := Lib.hid hr2
      clear HRD hr2 c1
      go_wp2_with fail
      refine (sgn_read B0 Rb _ w2 HRD2.out).mono ?_
      rintro x w3 ⟨rfl, hr3, hk3⟩
      have hk13 : Keeps (fun k => k = Rb) w1 w3 := hk2.trans hk3 (fun i h => .inl h)
      have ho3 : OwnRws 39 2 encV w3 w.heap.size v acc := ho.keeps hk13 HNT.out
      have hsz3 := hk13.size
      obtain ⟨n', rfl⟩ : ∃ n', n = n' + 1 := ⟨n - 1, by omega⟩
      have HRD3 := Lib.hid hr3
      clear HRD2 hr3 hk2 hk3
      generalize hx0 : (numR (some l)).1 = x0 at hn1
      generalize hy0 : (sgnR (numR (some l)).2).1 = y0 at hg1 hg2
      have HX := Lib.hid hx0
      have HY := Lib.hid hy0
      clear hx0 hy0
      go_wp2_with (first | (at_builtin; refine Stop.out ?_))
      change wpList _ _ _ _ _ _
      refine wpList_row1 w3 rfl _ _ 22 rfl _ 16 (by kernel_rfl) info_val rfl (by decide) (by decide) w.heap.size v acc rfl ho3 ⟨x0, y0⟩ _ rfl rfl (encV_one _) rfl (by omega) (by omega) ?_
      intro v4 w4 ho4 hk4 hs4
      have hRd4 : Rd B0 w4 Rb (sgnR (numR (some l)).2).2 := HRD3.out.keeps hk4 (fun h => HNT.out _ h rfl) (fun i hi => by have := (own_lt ho3 hi).1; omega)
      have hk14 : Keeps (fun k => k = Rb) w w4 := (hk.trans hk13 (fun i h => .inl h)).trans hk4 (fun i h => .inr (own_lt ho3 h).1)
      clear hk4 hs4 hk13 hk ho ho3
      go_wp2_with fail
      refine HR.out _ _ ⟨v4, acc ++ [⟨x0, y0⟩], n', (sgnR (numR (some l)).2).2, rfl, ?_, ho4, ?_, ?_, hRd4, hk14, by omega⟩ ?_
      · rw [HV.out, valsL, HX.out, HY.out]
        simp
      · intro z hz
        rcases List.mem_append.1 hz with h | h
        · exact HOK.out z h
        · obtain rfl := List.mem_singleton.1 h
          exact ⟨⟨by show (-9223372036854775808 : Int) ≤ (x0 : Int); omega, by show (x0 : Int) ≤ 9223372036854775807; omega⟩, hg1, hg2⟩
      · rw [List.length_append]
        exact HS.out
      · simp [intOf]
end Go.Proofs.Ytpknafidbmnjpaa
