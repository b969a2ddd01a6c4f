/-
  The law CallsAll: which lists may be; those go to bytes and back; two have one text just if they are the same. No condition.
-/
import Derived.Test.YtbgeijdfkdfdoaaCallH
import Derived.Test.YtbgeijdfkdfdoaaCallI
import Derived.Test.YtbgeijdfkdfdoaaCallQ
namespace Go.Proofs.Ytbgeijdfkdfdoaa
open Go.RowKit



set_option maxRecDepth 100000 in
set_option maxHeartbeats 4000000 in
theorem callsAll_any (va vb : Value) (l m : List CEnt) (w : World) (hva : IsCalls w va l) (hvb : IsCalls w vb m) :
    Calls Try.prog 13 #[va, vb] w (TrueEnd w) := by
  have HVA := Lib.hid hva
  have HVB := Lib.hid hvb
  clear hva hvb
  go_enter Try.func13, Try.ntmps13
  go_wp2_with fail
  refine (callsBegun_any _).mono ?_
  rintro y w1 ⟨rfl, hb⟩
  go_wp2_with fail
  refine (cutCalls_any _ l _ (HVA.out.below hb)).mono ?_
  rintro y w2 ⟨v0, rfl, hv0, hb2⟩
  have hb' := below_next hb hb2
  clear HVA
  have HV0 := Lib.hid hv0
  clear hv0
  go_wp2_with fail
  refine (cutCalls_any _ m _ (HVB.out.below hb')).mono ?_
  rintro y w3 ⟨v1, rfl, hv1, hb3⟩
  clear hb hb2 HVB
  have hb := below_next hb' hb3
  have hv0 := HV0.out.below hb3
  clear hb' hb3 HV0
  generalize cutC l = la at hv0
  generalize cutC m = lb at hv1
  have HVA := Lib.hid hv0
  have HVB := Lib.hid hv1
  have hoa : ∀ c ∈ la, c.ok := by obtain ⟨_, _, _, _, h⟩ := hv0; exact h
  have hob : ∀ c ∈ lb, c.ok := by obtain ⟨_, _, _, _, h⟩ := hv1; exact h
  have HOA := Lib.hid hoa
  have HOB := Lib.hid hob
  clear hv0 hv1 hoa hob
  go_wp2_with fail
  refine (encCalls_any _ la _ HVA.out).mono ?_
  rintro y w5 ⟨c, rfl, hb5, hc⟩
  by_cases hm : mayC la
  rotate_left
  · rcases hc with ⟨h, -⟩ | ⟨-, rfl⟩
    · exact absurd h hm
    have hva := HVA.out.below hb5
    have hvb := HVB.out.below hb5
    replace hb := below_next hb hb5
    clear HVA HVB hb5
    have HVA := Lib.hid hva
    have HVB := Lib.hid hvb
    clear hva hvb
    have HM := Lib.hid hm
    clear hm
    go_wp2_with fail
    refine (mayCalls_any _ la _ HVA.out).mono ?_
    rintro y w6 ⟨r, rfl, hr, hb6⟩
    obtain rfl : r = false := by
      cases r
      · rfl
      · exact absurd (hr.1 rfl) HM.out
    clear hr
    have hva := HVA.out.below hb6
    have hvb := HVB.out.below hb6
    replace hb := below_next hb hb6
    clear HVA HVB hb6
    have HVA := Lib.hid hva
    have HVB := Lib.hid hvb
    clear hva hvb
    go_wp2_with fail
    refine (lawMayC_any _ la _ HVA.out).mono ?_
    rintro y w7 ⟨r, rfl, hr, hb7⟩
    obtain rfl : r = false := by
      cases r
      · rfl
      · exact absurd (hr.1 rfl) HM.out
    clear hr
    have hva := HVA.out.below hb7
    have hvb := HVB.out.below hb7
    replace hb := below_next hb hb7
    clear HVA HVB hb7
    have HVA := Lib.hid hva
    have HVB := Lib.hid hvb
    clear hva hvb
    go_wp2_with fail
    refine (eqCalls_any _ _ _ _ _ HVA.out HVB.out).mono ?_
    rintro y w8 ⟨r, rfl, hr, hb8⟩
    have HQ1 := Lib.hid hr
    clear hr
    have hva := HVA.out.below hb8
    have hvb := HVB.out.below hb8
    replace hb := below_next hb hb8
    clear HVA HVB hb8
    have HVA := Lib.hid hva
    have HVB := Lib.hid hvb
    clear hva hvb
    go_wp2_with fail
    refine (lawEqC_any _ _ _ _ _ HVA.out HVB.out).mono ?_
    rintro y w9 ⟨r2, rfl, hr2, hb9⟩
    obtain rfl : r2 = r := by
      rcases Bool.eq_false_or_eq_true r with h | h <;> rcases Bool.eq_false_or_eq_true r2 with h2 | h2
      · rw [h, h2]
      · exact absurd (hr2.2 (HQ1.out.1 h)) (by rw [h2]; simp)
      · exact absurd (HQ1.out.2 (hr2.1 h2)) (by rw [h]; simp)
      · rw [h, h2]
    clear hr2 HQ1
    have hva := HVA.out.below hb9
    have hvb := HVB.out.below hb9
    replace hb := below_next hb hb9
    clear HVA HVB hb9
    have HVA := Lib.hid hva
    have HVB := Lib.hid hvb
    clear hva hvb
    cases r2
    all_goals
      go_wp2_with fail
      refine (lawMayC_any _ la _ HVA.out).mono ?_
      rintro y w10 ⟨r, rfl, hr, hb10⟩
      obtain rfl : r = false := by
        cases r
        · rfl
        · exact absurd (hr.1 rfl) HM.out
      clear hr
      replace hb := below_next hb hb10
      go_wp2_with fail
      go_ret
      exact ⟨rfl, hb⟩
  · rcases hc with ⟨-, hc⟩ | ⟨h, -⟩
    rotate_left
    · exact absurd hm h
    obtain ⟨n1, n2⟩ := callsB_len hm HOA.out
    have HM := Lib.hid hm
    clear hm
    have hci := hc.isBytes
    have HC := Lib.hid hci
    clear hc hci
    have hva := HVA.out.below hb5
    have hvb := HVB.out.below hb5
    replace hb := below_next hb hb5
    clear HVA HVB hb5
    have HVA := Lib.hid hva
    have HVB := Lib.hid hvb
    clear hva hvb
    go_wp2_with fail
    refine (mayCalls_any _ la _ HVA.out).mono ?_
    rintro y w6 ⟨r, rfl, hr, hb6⟩
    obtain rfl := hr.2 HM.out
    clear hr
    have hci := HC.out.below hb6
    clear HC
    have HC := Lib.hid hci
    clear hci
    have hva := HVA.out.below hb6
    have hvb := HVB.out.below hb6
    replace hb := below_next hb hb6
    clear HVA HVB hb6
    have HVA := Lib.hid hva
    have HVB := Lib.hid hvb
    clear hva hvb
    go_wp2_with fail
    refine (lawMayC_any _ la _ HVA.out).mono ?_
    rintro y w7 ⟨r, rfl, hr, hb7⟩
    obtain rfl := hr.2 HM.out
    clear hr
    have hci := HC.out.below hb7
    clear HC
    have HC := Lib.hid hci
    clear hci
    have hva := HVA.out.below hb7
    have hvb := HVB.out.below hb7
    replace hb := below_next hb hb7
    clear HVA HVB hb7
    have HVA := Lib.hid hva
    have HVB := Lib.hid hvb
    clear hva hvb
    go_wp2_with fail
    refine (eqCalls_any _ _ _ _ _ HVA.out HVB.out).mono ?_
    rintro y w8 ⟨r, rfl, hr, hb8⟩
    have HQ1 := Lib.hid hr
    clear hr
    have hci := HC.out.below hb8
    clear HC
    have HC := Lib.hid hci
    clear hci
    have hva := HVA.out.below hb8
    have hvb := HVB.out.below hb8
    replace hb := below_next hb hb8
    clear HVA HVB hb8
    have HVA := Lib.hid hva
    have HVB := Lib.hid hvb
    clear hva hvb
    go_wp2_with fail
    refine (lawEqC_any _ _ _ _ _ HVA.out HVB.out).mono ?_
    rintro y w9 ⟨r2, rfl, hr2, hb9⟩
    obtain rfl : r2 = r := by
      rcases Bool.eq_false_or_eq_true r with h | h <;> rcases Bool.eq_false_or_eq_true r2 with h2 | h2
      · rw [h, h2]
      · exact absurd (hr2.2 (HQ1.out.1 h)) (by rw [h2]; simp)
      · exact absurd (HQ1.out.2 (hr2.1 h2)) (by rw [h]; simp)
      · rw [h, h2]
    clear hr2 HQ1
    have hci := HC.out.below hb9
    clear HC
    have HC := Lib.hid hci
    clear hci
    have hva := HVA.out.below hb9
    have hvb := HVB.out.below hb9
    replace hb := below_next hb hb9
    clear HVA HVB hb9
    have HVA := Lib.hid hva
    have HVB := Lib.hid hvb
    clear hva hvb
    cases r2
    · skip
      go_wp2_with fail
      refine (lawMayC_any _ la _ HVA.out).mono ?_
      rintro y w10 ⟨r, rfl, hr, hb10⟩
      obtain rfl := hr.2 HM.out
      clear hr
      have hci := HC.out.below hb10
      clear HC
      have HC := Lib.hid hci
      clear hci
      have hva := HVA.out.below hb10
      have hvb := HVB.out.below hb10
      replace hb := below_next hb hb10
      clear HVA HVB hb10
      have HVA := Lib.hid hva
      have HVB := Lib.hid hvb
      clear hva hvb
      go_wp2_with fail
      refine (decCalls_any _ _ _ HC.out (by omega)).mono ?_
      rintro y w2 ⟨hb2, v2, err, rfl, hd⟩
      rcases hd with ⟨rfl, es, hes, heo, heq, hl2⟩ | ⟨-, -, h⟩
      rotate_left
      · exact absurd ⟨_, HM.out, HOA.out, rfl⟩ h
      obtain rfl := callsB_inj hes heo HM.out HOA.out heq
      have HL2 := Lib.hid hl2
      clear hes heo heq hl2
      have hci := HC.out.below hb2
      clear HC
      have HC := Lib.hid hci
      clear hci
      have hva := HVA.out.below hb2
      have hvb := HVB.out.below hb2
      replace hb := below_next hb hb2
      clear HVA HVB hb2
      have HVA := Lib.hid hva
      have HVB := Lib.hid hvb
      clear hva hvb
      go_wp2_with fail
      refine wp_region_ord (fun w' => (convert 22 9 c).run Try.prog w' = .ok (.string (bs (callsB es))) w') (ord [(0, true), (1, true), (2, true), (3, true), (4, true), (5, false), (6, true), (7, true), (8, true), (9, false),
            (10, true), (11, true), (12, true), (15, true), (16, true), (18, true), (19, true), (13, false)] (.fork 14 20 (ord [(17, true), (20, false), (21, true), (22, true), (23, true), (24, true)] .nil)
              (ord [(14, false), (17, true), (21, true), (22, true), (23, true), (24, true)] .nil))) (by kernel_rfl) (by kernel_rfl) (run_str (HC.out.below (Below.refl _ _).drew)) ?_
      dsimp only [ord]
      iterate 5 (first | (apply ord_skip rfl rfl; simp only [Act.put, List.setIfInBounds_toArray, List.set_cons_succ, List.set_cons_zero]) | (apply ord_pure rfl rfl rfl; · (rintro w' t0; go_wp2; exact ⟨rfl, rfl, rfl⟩)))
      refine ord_loud rfl rfl ?_
      go_wp2_with fail
      refine (lawEqC_any _ _ _ _ _ (HL2.out.below (Below.refl _ _).drew) (HVA.out.below (Below.refl _ _).drew)).mono ?_
      rintro y w3 ⟨r, rfl, hr, hb3'⟩
      obtain rfl := hr.2 rfl
      have hb3 := below_undrew hb3'
      clear hr HL2 hb3'
      have hci := HC.out.below hb3
      clear HC
      have HC := Lib.hid hci
      clear hci
      have hva := HVA.out.below hb3
      have hvb := HVB.out.below hb3
      replace hb := below_next hb hb3
      clear HVA HVB hb3
      have HVA := Lib.hid hva
      have HVB := Lib.hid hvb
      clear hva hvb
      go_wp2_with fail
      refine ⟨run_str HC.out, ?_⟩
      iterate 3 (first | (apply ord_skip rfl rfl; simp only [Act.put, List.setIfInBounds_toArray, List.set_cons_succ, List.set_cons_zero]) | (apply ord_pure rfl rfl rfl; · (rintro w' t0; go_wp2; exact ⟨rfl, rfl, rfl⟩)))
      refine ord_loud rfl rfl ?_
      go_wp2_with fail
      refine (lawMayC_any _ lb _ HVB.out).mono ?_
      rintro y w6 ⟨r, rfl, hr, hb6⟩
      have hci := HC.out.below hb6
      clear HC
      have HC := Lib.hid hci
      clear hci
      have hva := HVA.out.below hb6
      have hvb := HVB.out.below hb6
      replace hb := below_next hb hb6
      clear HVA HVB hb6
      have HVA := Lib.hid hva
      have HVB := Lib.hid hvb
      clear hva hvb
      cases r with
      | false =>
        clear hr
        go_wp2_with fail
        refine ⟨run_str HC.out, ?_⟩
        iterate 8 (first | (apply ord_skip rfl rfl; simp only [Act.put, List.setIfInBounds_toArray, List.set_cons_succ, List.set_cons_zero]) | (apply ord_pure rfl rfl rfl; · (rintro w' t0; go_wp2; exact ⟨rfl, rfl, rfl⟩)))
        refine ord_fork_skip rfl rfl rfl rfl ?_ ?_
        · skip
          iterate 6 (first | (apply ord_skip rfl rfl; simp only [Act.put, List.setIfInBounds_toArray, List.set_cons_succ, List.set_cons_zero]) | (apply ord_pure rfl rfl rfl; · (rintro w' t0; go_wp2; exact ⟨rfl, rfl, rfl⟩)))
          refine ord_nil ?_
          refine NoPanic.normal ?_
          go_wp2_with fail
          go_ret
          exact ⟨rfl, hb⟩
        · skip
          iterate 6 (first | (apply ord_skip rfl rfl; simp only [Act.put, List.setIfInBounds_toArray, List.set_cons_succ, List.set_cons_zero]) | (apply ord_pure rfl rfl rfl; · (rintro w' t0; go_wp2; exact ⟨rfl, rfl, rfl⟩)))
          refine ord_nil ?_
          refine NoPanic.normal ?_
          go_wp2_with fail
          go_ret
          exact ⟨rfl, hb⟩
      | true =>
        have hmb := hr.1 rfl
        have HMB := Lib.hid hmb
        clear hr hmb
        go_wp2_with fail
        refine ⟨run_str HC.out, ?_⟩
        iterate 7 (first | (apply ord_skip rfl rfl; simp only [Act.put, List.setIfInBounds_toArray, List.set_cons_succ, List.set_cons_zero]) | (apply ord_pure rfl rfl rfl; · (rintro w' t0; go_wp2; exact ⟨rfl, rfl, rfl⟩)))
        refine ord_loud rfl rfl ?_
        go_wp2_with fail
        refine (encCalls_any _ lb _ HVB.out).mono ?_
        rintro y w7 ⟨c2, rfl, hb7, hc2⟩
        rcases hc2 with ⟨-, hc2⟩ | ⟨h, -⟩
        rotate_left
        · exact absurd HMB.out h
        have hcv := run_str hc2.isBytes
        have hc2i := hc2.isBytes
        have HC2 := Lib.hid hc2i
        clear hc2 hc2i
        have hci := HC.out.below hb7
        clear HC
        have HC := Lib.hid hci
        clear hci
        have hva := HVA.out.below hb7
        have hvb := HVB.out.below hb7
        replace hb := below_next hb hb7
        clear HVA HVB hb7
        have HVA := Lib.hid hva
        have HVB := Lib.hid hvb
        clear hva hvb
        go_wp2_with fail
        refine ⟨run_str HC.out, ?_⟩
        refine ord_fork rfl rfl rfl rfl ?_ ?_
        · go_wp2_with fail
          refine ⟨run_str HC.out, ?_⟩
          clear hcv HC2
          iterate 1 (first | (apply ord_skip rfl rfl; simp only [Act.put, List.setIfInBounds_toArray, List.set_cons_succ, List.set_cons_zero]) | (apply ord_pure rfl rfl rfl; · (rintro w' t0; go_wp2; exact ⟨rfl, rfl, rfl⟩)))
          refine ord_loud rfl rfl ?_
          go_wp2_with fail
          refine (lawEqC_any _ _ _ _ _ HVA.out HVB.out).mono ?_
          rintro y w8 ⟨r, rfl, hr, hb8⟩
          have hci := HC.out.below hb8
          clear HC
          have HC := Lib.hid hci
          have hb8' := hb8
          clear hci
          have hva := HVA.out.below hb8'
          have hvb := HVB.out.below hb8'
          replace hb := below_next hb hb8'
          clear HVA HVB hb8'
          have HVA := Lib.hid hva
          have HVB := Lib.hid hvb
          clear hva hvb
          have hq : ((bs (callsB lb)).toList == (bs (callsB es)).toList) = r := by
            rw [bs_toList, bs_toList]
            cases r
            · exact beq_eq_false_iff_ne.2 (fun g => by have := hr.2 (callsB_inj HM.out HOA.out HMB.out HOB.out g.symm); cases this)
            · rw [hr.1 rfl]
              exact beq_self_eq_true _
          clear hr
          cases r
          · skip
            go_wp2_with fail
            refine ⟨run_str HC.out, ?_⟩
            iterate 4 (first | (apply ord_skip rfl rfl; simp only [Act.put, List.setIfInBounds_toArray, List.set_cons_succ, List.set_cons_zero]) | (apply ord_pure rfl rfl rfl; · (rintro w' t0; go_wp2; exact ⟨rfl, rfl, rfl⟩)))
            refine ord_nil ?_
            refine NoPanic.normal ?_
            go_wp2_with fail
            go_ret
            exact ⟨rfl, hb⟩
          · skip
            go_wp2_with fail
            refine ⟨run_str HC.out, ?_⟩
            iterate 4 (first | (apply ord_skip rfl rfl; simp only [Act.put, List.setIfInBounds_toArray, List.set_cons_succ, List.set_cons_zero]) | (apply ord_pure rfl rfl rfl; · (rintro w' t0; go_wp2; exact ⟨rfl, rfl, rfl⟩)))
            refine ord_nil ?_
            refine NoPanic.normal ?_
            go_wp2_with fail
            go_ret
            exact ⟨rfl, hb⟩
        · clear hcv
          go_wp2_with fail
          refine (lawEqC_any _ _ _ _ _ HVA.out HVB.out).mono ?_
          rintro y w8 ⟨r, rfl, hr, hb8⟩
          have hci := HC.out.below hb8
          clear HC
          have HC := Lib.hid hci
          have hb8' := hb8
          clear hci
          have hva := HVA.out.below hb8'
          have hvb := HVB.out.below hb8'
          replace hb := below_next hb hb8'
          clear HVA HVB hb8'
          have HVA := Lib.hid hva
          have HVB := Lib.hid hvb
          clear hva hvb
          have hq : ((bs (callsB lb)).toList == (bs (callsB es)).toList) = r := by
            rw [bs_toList, bs_toList]
            cases r
            · exact beq_eq_false_iff_ne.2 (fun g => by have := hr.2 (callsB_inj HM.out HOA.out HMB.out HOB.out g.symm); cases this)
            · rw [hr.1 rfl]
              exact beq_self_eq_true _
          clear hr
          have hc2 := HC2.out.below hb8
          have hcv := run_str hc2
          clear HC2 hc2
          cases r
          · go_wp2_with fail
            refine ⟨run_str HC.out, ?_⟩
            refine ord_loud rfl rfl ?_
            go_wp2_with fail
            refine ⟨run_str HC.out, ?_⟩
            iterate 5 (first | (apply ord_skip rfl rfl; simp only [Act.put, List.setIfInBounds_toArray, List.set_cons_succ, List.set_cons_zero]) | (apply ord_pure rfl rfl rfl; · (rintro w' t0; go_wp2; exact ⟨rfl, rfl, rfl⟩)))
            refine ord_nil ?_
            refine NoPanic.normal ?_
            go_wp2_with fail
            go_ret
            exact ⟨rfl, hb⟩
          · go_wp2_with fail
            refine ⟨run_str HC.out, ?_⟩
            refine ord_loud rfl rfl ?_
            go_wp2_with fail
            refine ⟨run_str HC.out, ?_⟩
            iterate 5 (first | (apply ord_skip rfl rfl; simp only [Act.put, List.setIfInBounds_toArray, List.set_cons_succ, List.set_cons_zero]) | (apply ord_pure rfl rfl rfl; · (rintro w' t0; go_wp2; exact ⟨rfl, rfl, rfl⟩)))
            refine ord_nil ?_
            refine NoPanic.normal ?_
            go_wp2_with fail
            go_ret
            exact ⟨rfl, hb⟩
    · skip
      go_wp2_with fail
      refine (lawMayC_any _ la _ HVA.out).mono ?_
      rintro y w10 ⟨r, rfl, hr, hb10⟩
      obtain rfl := hr.2 HM.out
      clear hr
      have hci := HC.out.below hb10
      clear HC
      have HC := Lib.hid hci
      clear hci
      have hva := HVA.out.below hb10
      have hvb := HVB.out.below hb10
      replace hb := below_next hb hb10
      clear HVA HVB hb10
      have HVA := Lib.hid hva
      have HVB := Lib.hid hvb
      clear hva hvb
      go_wp2_with fail
      refine (decCalls_any _ _ _ HC.out (by omega)).mono ?_
      rintro y w2 ⟨hb2, v2, err, rfl, hd⟩
      rcases hd with ⟨rfl, es, hes, heo, heq, hl2⟩ | ⟨-, -, h⟩
      rotate_left
      · exact absurd ⟨_, HM.out, HOA.out, rfl⟩ h
      obtain rfl := callsB_inj hes heo HM.out HOA.out heq
      have HL2 := Lib.hid hl2
      clear hes heo heq hl2
      have hci := HC.out.below hb2
      clear HC
      have HC := Lib.hid hci
      clear hci
      have hva := HVA.out.below hb2
      have hvb := HVB.out.below hb2
      replace hb := below_next hb hb2
      clear HVA HVB hb2
      have HVA := Lib.hid hva
      have HVB := Lib.hid hvb
      clear hva hvb
      go_wp2_with fail
      refine wp_region_ord (fun w' => (convert 22 9 c).run Try.prog w' = .ok (.string (bs (callsB es))) w') (ord [(0, true), (1, true), (2, true), (3, true), (4, true), (5, false), (6, true), (7, true), (8, true), (9, false),
            (10, true), (11, true), (12, true), (15, true), (16, true), (18, true), (19, true), (13, false)] (.fork 14 20 (ord [(17, true), (20, false), (21, true), (22, true), (23, true), (24, true)] .nil)
              (ord [(14, false), (17, true), (21, true), (22, true), (23, true), (24, true)] .nil))) (by kernel_rfl) (by kernel_rfl) (run_str (HC.out.below (Below.refl _ _).drew)) ?_
      dsimp only [ord]
      iterate 5 (first | (apply ord_skip rfl rfl; simp only [Act.put, List.setIfInBounds_toArray, List.set_cons_succ, List.set_cons_zero]) | (apply ord_pure rfl rfl rfl; · (rintro w' t0; go_wp2; exact ⟨rfl, rfl, rfl⟩)))
      refine ord_loud rfl rfl ?_
      go_wp2_with fail
      refine (lawEqC_any _ _ _ _ _ (HL2.out.below (Below.refl _ _).drew) (HVA.out.below (Below.refl _ _).drew)).mono ?_
      rintro y w3 ⟨r, rfl, hr, hb3'⟩
      obtain rfl := hr.2 rfl
      have hb3 := below_undrew hb3'
      clear hr HL2 hb3'
      have hci := HC.out.below hb3
      clear HC
      have HC := Lib.hid hci
      clear hci
      have hva := HVA.out.below hb3
      have hvb := HVB.out.below hb3
      replace hb := below_next hb hb3
      clear HVA HVB hb3
      have HVA := Lib.hid hva
      have HVB := Lib.hid hvb
      clear hva hvb
      go_wp2_with fail
      refine ⟨run_str HC.out, ?_⟩
      iterate 3 (first | (apply ord_skip rfl rfl; simp only [Act.put, List.setIfInBounds_toArray, List.set_cons_succ, List.set_cons_zero]) | (apply ord_pure rfl rfl rfl; · (rintro w' t0; go_wp2; exact ⟨rfl, rfl, rfl⟩)))
      refine ord_loud rfl rfl ?_
      go_wp2_with fail
      refine (lawMayC_any _ lb _ HVB.out).mono ?_
      rintro y w6 ⟨r, rfl, hr, hb6⟩
      have hci := HC.out.below hb6
      clear HC
      have HC := Lib.hid hci
      clear hci
      have hva := HVA.out.below hb6
      have hvb := HVB.out.below hb6
      replace hb := below_next hb hb6
      clear HVA HVB hb6
      have HVA := Lib.hid hva
      have HVB := Lib.hid hvb
      clear hva hvb
      cases r with
      | false =>
        clear hr
        go_wp2_with fail
        refine ⟨run_str HC.out, ?_⟩
        iterate 8 (first | (apply ord_skip rfl rfl; simp only [Act.put, List.setIfInBounds_toArray, List.set_cons_succ, List.set_cons_zero]) | (apply ord_pure rfl rfl rfl; · (rintro w' t0; go_wp2; exact ⟨rfl, rfl, rfl⟩)))
        refine ord_fork_skip rfl rfl rfl rfl ?_ ?_
        · skip
          iterate 6 (first | (apply ord_skip rfl rfl; simp only [Act.put, List.setIfInBounds_toArray, List.set_cons_succ, List.set_cons_zero]) | (apply ord_pure rfl rfl rfl; · (rintro w' t0; go_wp2; exact ⟨rfl, rfl, rfl⟩)))
          refine ord_nil ?_
          refine NoPanic.normal ?_
          go_wp2_with fail
          go_ret
          exact ⟨rfl, hb⟩
        · skip
          iterate 6 (first | (apply ord_skip rfl rfl; simp only [Act.put, List.setIfInBounds_toArray, List.set_cons_succ, List.set_cons_zero]) | (apply ord_pure rfl rfl rfl; · (rintro w' t0; go_wp2; exact ⟨rfl, rfl, rfl⟩)))
          refine ord_nil ?_
          refine NoPanic.normal ?_
          go_wp2_with fail
          go_ret
          exact ⟨rfl, hb⟩
      | true =>
        have hmb := hr.1 rfl
        have HMB := Lib.hid hmb
        clear hr hmb
        go_wp2_with fail
        refine ⟨run_str HC.out, ?_⟩
        iterate 7 (first | (apply ord_skip rfl rfl; simp only [Act.put, List.setIfInBounds_toArray, List.set_cons_succ, List.set_cons_zero]) | (apply ord_pure rfl rfl rfl; · (rintro w' t0; go_wp2; exact ⟨rfl, rfl, rfl⟩)))
        refine ord_loud rfl rfl ?_
        go_wp2_with fail
        refine (encCalls_any _ lb _ HVB.out).mono ?_
        rintro y w7 ⟨c2, rfl, hb7, hc2⟩
        rcases hc2 with ⟨-, hc2⟩ | ⟨h, -⟩
        rotate_left
        · exact absurd HMB.out h
        have hcv := run_str hc2.isBytes
        have hc2i := hc2.isBytes
        have HC2 := Lib.hid hc2i
        clear hc2 hc2i
        have hci := HC.out.below hb7
        clear HC
        have HC := Lib.hid hci
        clear hci
        have hva := HVA.out.below hb7
        have hvb := HVB.out.below hb7
        replace hb := below_next hb hb7
        clear HVA HVB hb7
        have HVA := Lib.hid hva
        have HVB := Lib.hid hvb
        clear hva hvb
        go_wp2_with fail
        refine ⟨run_str HC.out, ?_⟩
        refine ord_fork rfl rfl rfl rfl ?_ ?_
        · go_wp2_with fail
          refine ⟨run_str HC.out, ?_⟩
          clear hcv HC2
          iterate 1 (first | (apply ord_skip rfl rfl; simp only [Act.put, List.setIfInBounds_toArray, List.set_cons_succ, List.set_cons_zero]) | (apply ord_pure rfl rfl rfl; · (rintro w' t0; go_wp2; exact ⟨rfl, rfl, rfl⟩)))
          refine ord_loud rfl rfl ?_
          go_wp2_with fail
          refine (lawEqC_any _ _ _ _ _ HVA.out HVB.out).mono ?_
          rintro y w8 ⟨r, rfl, hr, hb8⟩
          have hci := HC.out.below hb8
          clear HC
          have HC := Lib.hid hci
          have hb8' := hb8
          clear hci
          have hva := HVA.out.below hb8'
          have hvb := HVB.out.below hb8'
          replace hb := below_next hb hb8'
          clear HVA HVB hb8'
          have HVA := Lib.hid hva
          have HVB := Lib.hid hvb
          clear hva hvb
          have hq : ((bs (callsB lb)).toList == (bs (callsB es)).toList) = r := by
            rw [bs_toList, bs_toList]
            cases r
            · exact beq_eq_false_iff_ne.2 (fun g => by have := hr.2 (callsB_inj HM.out HOA.out HMB.out HOB.out g.symm); cases this)
            · rw [hr.1 rfl]
              exact beq_self_eq_true _
          clear hr
          cases r
          · skip
            go_wp2_with fail
            refine ⟨run_str HC.out, ?_⟩
            iterate 4 (first | (apply ord_skip rfl rfl; simp only [Act.put, List.setIfInBounds_toArray, List.set_cons_succ, List.set_cons_zero]) | (apply ord_pure rfl rfl rfl; · (rintro w' t0; go_wp2; exact ⟨rfl, rfl, rfl⟩)))
            refine ord_nil ?_
            refine NoPanic.normal ?_
            go_wp2_with fail
            go_ret
            exact ⟨rfl, hb⟩
          · skip
            go_wp2_with fail
            refine ⟨run_str HC.out, ?_⟩
            iterate 4 (first | (apply ord_skip rfl rfl; simp only [Act.put, List.setIfInBounds_toArray, List.set_cons_succ, List.set_cons_zero]) | (apply ord_pure rfl rfl rfl; · (rintro w' t0; go_wp2; exact ⟨rfl, rfl, rfl⟩)))
            refine ord_nil ?_
            refine NoPanic.normal ?_
            go_wp2_with fail
            go_ret
            exact ⟨rfl, hb⟩
        · clear hcv
          go_wp2_with fail
          refine (lawEqC_any _ _ _ _ _ HVA.out HVB.out).mono ?_
          rintro y w8 ⟨r, rfl, hr, hb8⟩
          have hci := HC.out.below hb8
          clear HC
          have HC := Lib.hid hci
          have hb8' := hb8
          clear hci
          have hva := HVA.out.below hb8'
          have hvb := HVB.out.below hb8'
          replace hb := below_next hb hb8'
          clear HVA HVB hb8'
          have HVA := Lib.hid hva
          have HVB := Lib.hid hvb
          clear hva hvb
          have hq : ((bs (callsB lb)).toList == (bs (callsB es)).toList) = r := by
            rw [bs_toList, bs_toList]
            cases r
            · exact beq_eq_false_iff_ne.2 (fun g => by have := hr.2 (callsB_inj HM.out HOA.out HMB.out HOB.out g.symm); cases this)
            · rw [hr.1 rfl]
              exact beq_self_eq_true _
          clear hr
          have hc2 := HC2.out.below hb8
          have hcv := run_str hc2
          clear HC2 hc2
          cases r
          · go_wp2_with fail
            refine ⟨run_str HC.out, ?_⟩
            refine ord_loud rfl rfl ?_
            go_wp2_with fail
            refine ⟨run_str HC.out, ?_⟩
            iterate 5 (first | (apply ord_skip rfl rfl; simp only [Act.put, List.setIfInBounds_toArray, List.set_cons_succ, List.set_cons_zero]) | (apply ord_pure rfl rfl rfl; · (rintro w' t0; go_wp2; exact ⟨rfl, rfl, rfl⟩)))
            refine ord_nil ?_
            refine NoPanic.normal ?_
            go_wp2_with fail
            go_ret
            exact ⟨rfl, hb⟩
          · go_wp2_with fail
            refine ⟨run_str HC.out, ?_⟩
            refine ord_loud rfl rfl ?_
            go_wp2_with fail
            refine ⟨run_str HC.out, ?_⟩
            iterate 5 (first | (apply ord_skip rfl rfl; simp only [Act.put, List.setIfInBounds_toArray, List.set_cons_succ, List.set_cons_zero]) | (apply ord_pure rfl rfl rfl; · (rintro w' t0; go_wp2; exact ⟨rfl, rfl, rfl⟩)))
            refine ord_nil ?_
            refine NoPanic.normal ?_
            go_wp2_with fail
            go_ret
            exact ⟨rfl, hb⟩
end Go.Proofs.Ytbgeijdfkdfdoaa
