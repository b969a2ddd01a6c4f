/-
  Walk of the statements' own function begun (calls).
-/
import Derived.Test.YtbgeijdfkdfdoaaCallG
import Derived.Test.YtbgeijdfkdfdoaaGuard
import Derived.Test.YtbgeijdfkdfdoaaRefU
import Derived.Test.YtbgeijdfkdfdoaaRow
namespace Go.Proofs.Ytbgeijdfkdfdoaa
open Go.RowKit

theorem callsB_inj {a b : List CEnt} (ha : mayC a) (hao : ∀ c ∈ a, c.ok) (hb : mayC b) (hbo : ∀ c ∈ b, c.ok) (h : callsB a = callsB b) : a = b := by
  have h1 := callsR_put a (fun c hc => ⟨mayC_all ha c hc, hao c hc⟩) (by have := ha.2; omega)
  have h2 := callsR_put b (fun c hc => ⟨mayC_all hb c hc, hbo c hc⟩) (by have := hb.2; omega)
  rw [h, h2] at h1
  injection h1 with h1 _
  exact h1.symm

theorem callsB_ne (l : List CEnt) : callsB l ≠ [] := by
  intro h
  rw [callsB, List.append_eq_nil_iff] at h
  have := (putU_len l.length).1
  rw [h.1] at this
  simp at this

theorem mayC_nil : mayC [] := ⟨fun i hi => by simp at hi, by simp⟩

theorem lit2_isCalls (w : World) (c d : CEnt) (u x : Value) (hc : c.ok) (hd : d.ok) (hu : IsRws 2 encV w u c.args) (hx : IsRws 2 encV w x d.args) :
    IsCalls (w.alloc (.cells #[.int .i64 c.n, .int .i64 c.fn, .int .i64 c.pos, u, .bool c.has, .int .i64 c.ans, .int .i64 d.n, .int .i64 d.fn, .int .i64 d.pos, x, .bool d.has, .int .i64 d.ans] 82)) (.slice (some ⟨w.heap.size, 0, none⟩) 2 2) [c, d] := by
  have hb := (Below.refl w.heap.size w).alloc (Nat.le_refl _) (.cells #[.int .i64 c.n, .int .i64 c.fn, .int .i64 c.pos, u, .bool c.has, .int .i64 c.ans, .int .i64 d.n, .int .i64 d.fn, .int .i64 d.pos, x, .bool d.has, .int .i64 d.ans] 82)
  refine ⟨[u, x], rfl, ⟨_, 2, rfl, Nat.le_refl _, by simp [maxLen], fun i y hy => ⟨w.heap.size, 0, rfl, by simp, fun j v hv => ?_⟩⟩, fun i e v he hv => ?_, fun e he => ?_⟩
  · rw [World.cell?_alloc_new]
    match i, hy with
    | 0, hy =>
      simp at hy
      subst hy
      match j, hv with
      | 0, hv | 1, hv | 2, hv | 3, hv | 4, hv | 5, hv => simp [encC] at hv; subst hv; rfl
      | j + 6, hv => simp [encC] at hv
    | 1, hy =>
      simp at hy
      subst hy
      match j, hv with
      | 0, hv | 1, hv | 2, hv | 3, hv | 4, hv | 5, hv => simp [encC] at hv; subst hv; rfl
      | j + 6, hv => simp [encC] at hv
    | i + 2, hy => simp at hy
  · match i, he, hv with
    | 0, he, hv =>
      simp at he hv
      subst he hv
      exact hu.below hb
    | 1, he, hv =>
      simp at he hv
      subst he hv
      exact hx.below hb
    | i + 2, he, hv => simp at he
  · simp at he
    rcases he with rfl | rfl
    · exact hc
    · exact hd

theorem lit1_vals (w : World) (v : VEnt) : IsRws 2 encV (w.alloc (.cells #[.int .i64 v.kind, .int .i64 v.n] 79)) (.slice (some ⟨w.heap.size, 0, none⟩) 1 1) [v] := by
  refine ⟨_, 1, rfl, Nat.le_refl _, by simp [maxLen], fun i y hy => ⟨w.heap.size, 0, rfl, by simp, fun j x hx => ?_⟩⟩
  rw [World.cell?_alloc_new]
  match i, hy with
  | 0, hy =>
    simp at hy
    subst hy
    match j, hx with
    | 0, hx | 1, hx => simp [encV] at hx; subst hx; rfl
    | j + 2, hx => simp [encV] at hx
  | i + 1, hy => simp at hy

def ce0 : CEnt := ⟨3, 1, 7, [⟨1, 5⟩], true, -9⟩
def ce1 : CEnt := ⟨4, 0, 0, [], false, 0⟩
def ce2 : CEnt := ⟨1, 0, 0, [], false, 0⟩
def ce3 : CEnt := ⟨2, 0, 0, [], false, 0⟩

theorem ce0_ok : ce0.ok := by
  refine ⟨⟨by decide, by decide⟩, ⟨by decide, by decide⟩, ⟨by decide, by decide⟩, ⟨by decide, by decide⟩, fun v hv => ?_⟩
  obtain rfl := List.mem_singleton.1 hv
  exact ⟨⟨by decide, by decide⟩, by decide, by decide⟩
theorem zero_in : InI 0 := ⟨by decide, by decide⟩
theorem ce_ok (n : Int) (h : InI n) : CEnt.ok ⟨n, 0, 0, [], false, 0⟩ := ⟨h, zero_in, zero_in, zero_in, by simp⟩
theorem ce01_may : mayC [ce0, ce1] := by
  refine ⟨fun i hi c hc => ?_, by decide⟩
  match i, hc with
  | 0, hc =>
    simp at hc
    subst hc
    exact ⟨by decide, fun d h => by omega, fun _ => rfl⟩
  | 1, hc =>
    simp at hc
    subst hc
    refine ⟨by decide, fun d _ h => ?_, fun h => by simp at h⟩
    simp at h
    subst h
    decide
  | i + 2, hc => simp at hc
theorem ce23_not : ¬ mayC [ce2, ce3] := fun h => by
  have := (h.1 0 (by decide) ce2 rfl).2.2 (by decide)
  cases this


theorem callsB_len {l : List CEnt} (h : mayC l) (ho : ∀ c ∈ l, c.ok) : 1 ≤ (callsB l).length ∧ (callsB l).length ≤ 100000 := by
  have g1 := putU_len l.length
  have g2 := flatC_len l (fun x hx => ⟨mayC_all h x hx, ho x hx⟩)
  have g3 := h.2
  rw [callsB, List.length_append]
  omega

set_option maxRecDepth 100000 in
set_option maxHeartbeats 4000000 in
theorem callsBegun_any (w : World) : Calls Try.prog 36 #[] w (TrueEnd w) := by
  obtain ⟨L, hL⟩ : ∃ L, L = [ce0, ce1] := ⟨_, rfl⟩
  have HM := Lib.hid (show mayC L by rw [hL]; exact ce01_may)
  have hoks : ∀ c ∈ L, c.ok := by
    rw [hL]
    intro c hc
    simp at hc
    rcases hc with rfl | rfl
    · exact ce0_ok
    · exact ce_ok 4 ⟨by decide, by decide⟩
  have HOK := Lib.hid hoks
  have HLE := Lib.hid hL
  clear hoks hL
  go_enter Try.func36, Try.ntmps36
  go_wp2_with fail
  have hl := lit2_isCalls _ ce0 ce1 _ _ ce0_ok (ce_ok 4 ⟨by decide, by decide⟩) (lit1_vals w ⟨1, 5⟩) (IsRws.nil _)
  rw [← HLE.out, World.size_alloc] at hl
  dsimp only [ce0, ce1] at hl
  refine (encCalls_any _ L _ hl).mono ?_
  rintro x w1 ⟨c, rfl, hb1, hc⟩
  have hb : Below w.heap.size w w1 := (((Below.refl w.heap.size w).alloc (Nat.le_refl _) _).alloc (by simp) _).trans (hb1.mono (by simp; omega))
  replace hl := hl.below hb1
  have HL := Lib.hid hl
  rcases hc with ⟨-, hc⟩ | ⟨h, -⟩
  rotate_left
  · exact absurd HM.out h
  obtain ⟨hc1, hc2⟩ := callsB_len HM.out HOK.out
  obtain ⟨C, hC⟩ : ∃ C, C = callsB L := ⟨_, rfl⟩
  rw [← hC] at hc hc1 hc2
  have hci := hc.isBytes
  have HCI := Lib.hid hci
  have HC := Lib.hid hC
  clear hb1 hc hl hci hC
  have hcl : C.length ≤ 400000 := by omega
  go_wp2_with fail
  refine (decCalls_any _ _ _ HCI.out hcl).mono ?_
  rintro x w2 ⟨hb2, v2, err, rfl, hd⟩
  rcases hd with ⟨rfl, es, hes, heo, heq, hl2⟩ | ⟨-, -, h⟩
  rotate_left
  · exact absurd ⟨L, HM.out, HOK.out, HC.out.symm⟩ h
  obtain rfl := callsB_inj hes heo HM.out HOK.out (heq.trans HC.out)
  have HL2 := Lib.hid hl2
  clear hes heq heo hl2 HCI hcl hc1 hc2 HC
  have hl := HL.out.below hb2
  clear HL
  have HL := Lib.hid hl
  replace hb := below_next hb hb2
  clear hb2 hl
  go_wp2_with fail
  refine (decCalls_any _ _ _ (IsBytes.nil _) (by simp)).mono ?_
  rintro x w3 ⟨hb3, v3, err, rfl, hd⟩
  rcases hd with ⟨-, es, hes, heo, heq, -⟩ | ⟨rfl, rfl, -⟩
  · exact absurd heq (callsB_ne es)
  have hl := HL.out.below hb3
  have hl2 := HL2.out.below hb3
  clear HL HL2
  have HL := Lib.hid hl
  have HL2 := Lib.hid hl2
  replace hb := below_next hb hb3
  clear hb3 hl hl2
  go_wp2_with fail
  refine (mayCalls_any _ _ _ HL.out).mono ?_
  rintro x w4 ⟨r, rfl, hr, hb4⟩
  obtain rfl := hr.2 HM.out
  clear hr
  have hl := HL.out.below hb4
  have hl2 := HL2.out.below hb4
  clear HL HL2
  have HL := Lib.hid hl
  have HL2 := Lib.hid hl2
  replace hb := below_next hb hb4
  clear hb4 hl hl2
  go_wp2_with fail
  refine (mayCalls_any _ _ _ (IsCalls.nil _)).mono ?_
  rintro x w5 ⟨r, rfl, hr, hb5⟩
  obtain rfl := hr.2 mayC_nil
  clear hr
  have hl := HL.out.below hb5
  have hl2 := HL2.out.below hb5
  clear HL HL2
  have HL := Lib.hid hl
  have HL2 := Lib.hid hl2
  replace hb := below_next hb hb5
  clear hb5 hl hl2
  go_wp2_with fail
  have hl3 := lit2_isCalls w5 ce2 ce3 _ _ (ce_ok 1 ⟨by decide, by decide⟩) (ce_ok 2 ⟨by decide, by decide⟩) (IsRws.nil _) (IsRws.nil _)
  refine (mayCalls_any _ _ _ hl3).mono ?_
  rintro x w6 ⟨r, rfl, hr, hb6⟩
  obtain rfl : r = false := by
    cases r
    · rfl
    · exact absurd (hr.1 rfl) ce23_not
  clear hr hl3
  have hb6' := ((Below.refl w5.heap.size w5).alloc (Nat.le_refl _) _).trans (hb6.mono (by simp))
  clear hb6
  have hl := HL.out.below hb6'
  have hl2 := HL2.out.below hb6'
  clear HL HL2
  have HL := Lib.hid hl
  have HL2 := Lib.hid hl2
  replace hb := below_next hb hb6'
  clear hb6' hl hl2
  go_wp2_with fail
  refine (eqCalls_any _ _ _ _ _ HL.out HL2.out).mono ?_
  rintro x w7 ⟨r, rfl, hr, hb7⟩
  obtain rfl := hr.2 rfl
  clear hr
  have hl := HL.out.below hb7
  have hl2 := HL2.out.below hb7
  clear HL HL2
  have HL := Lib.hid hl
  have HL2 := Lib.hid hl2
  replace hb := below_next hb hb7
  clear hb7 hl hl2
  go_wp2_with fail
  refine (eqCalls_any _ _ _ _ _ HL.out (IsCalls.nil _)).mono ?_
  rintro x w8 ⟨r, rfl, hr, hb8⟩
  obtain rfl : r = false := by
    cases r
    · rfl
    · exact absurd (hr.1 rfl) (by rw [HLE.out]; simp)
  clear hr
  have hl := HL.out.below hb8
  have hl2 := HL2.out.below hb8
  clear HL HL2
  have HL := Lib.hid hl
  have HL2 := Lib.hid hl2
  replace hb := below_next hb hb8
  clear hb8 hl hl2
  go_wp2_with fail
  go_ret
  exact ⟨rfl, hb⟩

end Go.Proofs.Ytbgeijdfkdfdoaa
