/-
  The law DirAll: which lists may be; those go to bytes and back; where a name stands; two lists have one text just if they are the same. No condition.
-/
import Derived.Test.YtbgeijdfkdfdoaaDirR
import Derived.Test.YtbgeijdfkdfdoaaSeqT
namespace Go.Proofs.Ytbgeijdfkdfdoaa
open Go.RowKit

theorem less_trans : ∀ (x y z : List UInt8), Op.bytesLess x y = true → Op.bytesLess y z = true → Op.bytesLess x z = true
  | _, _, [], _, h => by simp [Op.bytesLess] at h
  | [], _, _ :: _, _, _ => rfl
  | a :: x, [], c :: z, h, _ => by simp [Op.bytesLess] at h
  | a :: x, b :: y, c :: z, h1, h2 => by
    simp only [Op.bytesLess, Bool.or_eq_true, decide_eq_true_eq, Bool.and_eq_true, beq_iff_eq] at h1 h2 ⊢
    rcases h1 with h1 | ⟨rfl, h1⟩
    · rcases h2 with h2 | ⟨rfl, h2⟩
      · exact .inl (UInt8.lt_trans h1 h2)
      · exact .inl h1
    · rcases h2 with h2 | ⟨rfl, h2⟩
      · exact .inl h2
      · exact .inr ⟨rfl, less_trans x y z h1 h2⟩

theorem less_irrefl : ∀ x : List UInt8, Op.bytesLess x x = false
  | [] => rfl
  | a :: x => by
    rw [Op.bytesLess, less_irrefl x]
    simp

theorem mayL_less {l : List DEnt} (h : mayL l) : ∀ (n j : Nat) (d e : DEnt), l[j]? = some d → l[j + (n + 1)]? = some e → Op.bytesLess d.name e.name = true
  | 0, j, d, e, hd, he => (h.1 (j + 1) (List.getElem?_eq_some_iff.1 he).1 e he).2 d (by omega) hd
  | n + 1, j, d, e, hd, he => by
    have hlt := (List.getElem?_eq_some_iff.1 he).1
    obtain ⟨m, hm⟩ : ∃ m, l[j + (n + 1)]? = some m := ⟨_, List.getElem?_eq_getElem (by omega)⟩
    exact less_trans _ _ _ (mayL_less h n j d m hd hm) ((h.1 (j + (n + 1) + 1) hlt e he).2 m (by omega) hm)

theorem mayL_uniq {l : List DEnt} (h : mayL l) {i j : Nat} {d e : DEnt} (hd : l[j]? = some d) (he : l[i]? = some e) (hlt : j < i) : (d.name == e.name) = false := by
  have := mayL_less h (i - j - 1) j d e hd (by rw [show j + (i - j - 1 + 1) = i from by omega]; exact he)
  refine beq_eq_false_iff_ne.2 (fun g => ?_)
  rw [g, less_irrefl] at this
  cases this

/-- What the loop over the names knows. -/
def LastAt (l : List DEnt) (nm : List UInt8) (k : Nat) (z : Int) : Prop :=
  ((∀ i, i < k → ∀ d, l[i]? = some d → (d.name == nm) = false) ∧ z = -1) ∨ ∃ i e, i < k ∧ l[i]? = some e ∧ (e.name == nm) = true ∧ z = i

theorem LastAt.find {l : List DEnt} {nm : List UInt8} {z : Int} (hm : mayL l) (h : LastAt l nm l.length z) : findR l nm = z := by
  rcases h with ⟨h1, rfl⟩ | ⟨i, e, h1, h2, h3, rfl⟩
  · exact findR_miss h1
  · refine findR_hit h2 h3 (fun j hj d hd => ?_)
    have h4 := mayL_uniq hm hd h2 hj
    rw [eq_of_beq h3] at h4
    exact h4

def AllJ (la : List DEnt) (nm : List UInt8) (v0 v1 c : Value) (lb : List DEnt) (C : List UInt8) (w w' : World) (z : Int) (k : Nat) : Prop :=
  k ≤ la.length ∧ LastAt la nm k z ∧ IsEnts w' v0 la ∧ IsEnts w' v1 lb ∧ IsBytes w' c C ∧ Below w.heap.size w w'



set_option maxRecDepth 100000 in
set_option maxHeartbeats 4000000 in
theorem dirAll_any (va vb : Value) (l m : List DEnt) (nm : List UInt8) (w : World) (hva : IsEnts w va l) (hvb : IsEnts w vb m) (hn : nm.length ≤ 9223372036854775807) :
    Calls Try.prog 9 #[va, vb, .string (bs nm)] w (TrueEnd w) := by
  have HKA := Lib.hid (cutL_ok hva.oks)
  have HKB := Lib.hid (cutL_ok hvb.oks)
  have HVA := Lib.hid hva
  have HVB := Lib.hid hvb
  clear hva hvb
  go_enter Try.func9, Try.ntmps9
  go_wp2_with fail
  refine (dirBegun_any _).mono ?_
  rintro y w1 ⟨rfl, hb⟩
  go_wp2_with fail
  refine (cut_any _ l _ (HVA.out.below hb)).mono ?_
  rintro y w2 ⟨v0, rfl, ho0, hb2⟩
  have hb' := below_next hb hb2
  clear HVA
  have hv0 := ho0.isEnts HKA.out
  have HV0 := Lib.hid hv0
  clear ho0 hv0
  go_wp2_with fail
  refine (cut_any _ m _ (HVB.out.below hb')).mono ?_
  rintro y w3 ⟨v1, rfl, ho1, hb3⟩
  clear hb hb2 HVB
  have hb := below_next hb' hb3
  have hv0 := HV0.out.below hb3
  have hv1 := ho1.isEnts HKB.out
  clear ho1 hb' hb3 HV0
  have HVA := Lib.hid hv0
  have HVB := Lib.hid hv1
  clear hv0 hv1 HKA HKB
  go_wp2_with fail
  refine (shorter_any nm hn _).mono ?_
  rintro y w4 ⟨rfl, rfl⟩
  generalize cutL l = la at HVA
  generalize cutL m = lb at HVB
  generalize nm.take 22 = nm'
  clear hn
  go_wp2_with fail
  refine (encode_any _ la _ HVA.out).mono ?_
  rintro y w5 ⟨c, rfl, hb5, hc⟩
  have hva := HVA.out.below hb5
  have hvb := HVB.out.below hb5
  replace hb := below_next hb hb5
  clear HVA HVB hb5
  have HVA := Lib.hid hva
  have HVB := Lib.hid hvb
  clear hva hvb
  by_cases hm : mayL la
  rotate_left
  · rcases hc with ⟨h, -⟩ | ⟨-, rfl⟩
    · exact absurd h hm
    have HM := Lib.hid hm
    clear hm
    go_wp2_with fail
    refine (mayList_any _ la _ HVA.out).mono ?_
    rintro y w6 ⟨r, rfl, hr, hb6⟩
    obtain rfl : r = false := by
      cases r
      · rfl
      · exact absurd (hr.1 rfl) HM.out
    clear hr
    have hva := HVA.out.below hb6
    have hvb := HVB.out.below hb6
    replace hb := below_next hb hb6
    clear HVA HVB hb6
    have HVA := Lib.hid hva
    have HVB := Lib.hid hvb
    clear hva hvb
    go_wp2_with fail
    refine (lawMay_any _ la _ HVA.out).mono ?_
    rintro y w7 ⟨r, rfl, hr, hb7⟩
    obtain rfl : r = false := by
      cases r
      · rfl
      · exact absurd (hr.1 rfl) HM.out
    clear hr
    have hva := HVA.out.below hb7
    have hvb := HVB.out.below hb7
    replace hb := below_next hb hb7
    clear HVA HVB hb7
    have HVA := Lib.hid hva
    have HVB := Lib.hid hvb
    clear hva hvb
    go_wp2_with fail
    refine (lawMay_any _ la _ HVA.out).mono ?_
    rintro y w8 ⟨r, rfl, hr, hb8⟩
    obtain rfl : r = false := by
      cases r
      · rfl
      · exact absurd (hr.1 rfl) HM.out
    clear hr
    have hva := HVA.out.below hb8
    have hvb := HVB.out.below hb8
    replace hb := below_next hb hb8
    clear HVA HVB hb8
    have HVA := Lib.hid hva
    have HVB := Lib.hid hvb
    clear hva hvb
    go_wp2_with fail
    refine (lawMay_any _ la _ HVA.out).mono ?_
    rintro y w9 ⟨r, rfl, hr, hb9⟩
    obtain rfl : r = false := by
      cases r
      · rfl
      · exact absurd (hr.1 rfl) HM.out
    clear hr
    have hva := HVA.out.below hb9
    have hvb := HVB.out.below hb9
    replace hb := below_next hb hb9
    clear HVA HVB hb9
    have HVA := Lib.hid hva
    have HVB := Lib.hid hvb
    clear hva hvb
    go_wp2_with fail
    go_ret
    exact ⟨rfl, hb⟩
  · rcases hc with ⟨-, hc⟩ | ⟨h, -⟩
    rotate_left
    · exact absurd hm h
    have HM := Lib.hid hm
    clear hm
    have hci := hc.isBytes
    have HC := Lib.hid hci
    clear hc hci
    go_wp2_with fail
    refine (mayList_any _ la _ HVA.out).mono ?_
    rintro y w6 ⟨r, rfl, hr, hb6⟩
    obtain rfl := hr.2 HM.out
    clear hr
    have hci := HC.out.below hb6
    clear HC
    have HC := Lib.hid hci
    clear hci
    have hva := HVA.out.below hb6
    have hvb := HVB.out.below hb6
    replace hb := below_next hb hb6
    clear HVA HVB hb6
    have HVA := Lib.hid hva
    have HVB := Lib.hid hvb
    clear hva hvb
    go_wp2_with fail
    refine (lawMay_any _ la _ HVA.out).mono ?_
    rintro y w7 ⟨r, rfl, hr, hb7⟩
    obtain rfl := hr.2 HM.out
    clear hr
    have hci := HC.out.below hb7
    clear HC
    have HC := Lib.hid hci
    clear hci
    have hva := HVA.out.below hb7
    have hvb := HVB.out.below hb7
    replace hb := below_next hb hb7
    clear HVA HVB hb7
    have HVA := Lib.hid hva
    have HVB := Lib.hid hvb
    clear hva hvb
    go_wp2_with fail
    refine (lawMay_any _ la _ HVA.out).mono ?_
    rintro y w8 ⟨r, rfl, hr, hb8⟩
    obtain rfl := hr.2 HM.out
    clear hr
    have hci := HC.out.below hb8
    clear HC
    have HC := Lib.hid hci
    clear hci
    have hva := HVA.out.below hb8
    have hvb := HVB.out.below hb8
    replace hb := below_next hb hb8
    clear HVA HVB hb8
    have HVA := Lib.hid hva
    have HVB := Lib.hid hvb
    clear hva hvb
    go_wp2_with fail
    refine (lawMay_any _ la _ HVA.out).mono ?_
    rintro y w9 ⟨r, rfl, hr, hb9⟩
    obtain rfl := hr.2 HM.out
    clear hr
    have hci := HC.out.below hb9
    clear HC
    have HC := Lib.hid hci
    clear hci
    have hva := HVA.out.below hb9
    have hvb := HVB.out.below hb9
    replace hb := below_next hb hb9
    clear HVA HVB hb9
    have HVA := Lib.hid hva
    have HVB := Lib.hid hvb
    clear hva hvb
    go_wp2_with fail
    have hva0 := HVA.out
    obtain ⟨a, cap, rfl, h1, h2, _⟩ := hva0
    unfold maxLen at h2
    refine wp_loop_x (fun a' w' => ∃ (z : Int) (k : Nat), a' = { tmps := #[.slice a la.length cap, v1, .string (bs nm'), slot a' 3, slot a' 4, slot a' 5, .bool false, slot a' 7, c, .int .i64 z, .int .i64 k, slot a' 11, slot a' 12, slot a' 13, slot a' 14, slot a' 15, slot a' 16, slot a' 17, slot a' 18, slot a' 19, slot a' 20, slot a' 21, slot a' 22, slot a' 23, slot a' 24, slot a' 25, slot a' 26, slot a' 27, slot a' 28, slot a' 29, slot a' 30, slot a' 31, slot a' 32, slot a' 33, slot a' 34, slot a' 35, slot a' 36, slot a' 37, slot a' 38, slot a' 39, slot a' 40, slot a' 41, slot a' 42, slot a' 43, slot a' 44, slot a' 45, slot a' 46, slot a' 47, slot a' 48, slot a' 49, slot a' 50, slot a' 51, slot a' 52, slot a' 53, slot a' 54, slot a' 55, slot a' 56, slot a' 57, slot a' 58, slot a' 59, slot a' 60, slot a' 61, slot a' 62, slot a' 63, slot a' 64, slot a' 65, slot a' 66, slot a' 67, slot a' 68, slot a' 69, slot a' 70, slot a' 71, slot a' 72, slot a' 73, slot a' 74, slot a' 75, slot a' 76, slot a' 77, slot a' 78, slot a' 79, slot a' 80, slot a' 81, slot a' 82, slot a' 83, slot a' 84, slot a' 85, slot a' 86, slot a' 87, slot a' 88, slot a' 89, slot a' 90, slot a' 91, slot a' 92, slot a' 93, slot a' 94, slot a' 95, slot a' 96, slot a' 97, slot a' 98, slot a' 99], defers := [] } ∧ AllJ la nm' (.slice a la.length cap) v1 c lb (dirB la) w w' z k) (fun a' _ => (la.length - (intOf (a'.tmps.getD 10 undef)).toNat))
      (fun a' w' => ∃ (z : Int), a' = { tmps := #[.slice a la.length cap, v1, .string (bs nm'), slot a' 3, slot a' 4, slot a' 5, .bool false, slot a' 7, c, .int .i64 z, slot a' 10, slot a' 11, slot a' 12, slot a' 13, slot a' 14, slot a' 15, slot a' 16, slot a' 17, slot a' 18, slot a' 19, slot a' 20, slot a' 21, slot a' 22, slot a' 23, slot a' 24, slot a' 25, slot a' 26, slot a' 27, slot a' 28, slot a' 29, slot a' 30, slot a' 31, slot a' 32, slot a' 33, slot a' 34, slot a' 35, slot a' 36, slot a' 37, slot a' 38, slot a' 39, slot a' 40, slot a' 41, slot a' 42, slot a' 43, slot a' 44, slot a' 45, slot a' 46, slot a' 47, slot a' 48, slot a' 49, slot a' 50, slot a' 51, slot a' 52, slot a' 53, slot a' 54, slot a' 55, slot a' 56, slot a' 57, slot a' 58, slot a' 59, slot a' 60, slot a' 61, slot a' 62, slot a' 63, slot a' 64, slot a' 65, slot a' 66, slot a' 67, slot a' 68, slot a' 69, slot a' 70, slot a' 71, slot a' 72, slot a' 73, slot a' 74, slot a' 75, slot a' 76, slot a' 77, slot a' 78, slot a' 79, slot a' 80, slot a' 81, slot a' 82, slot a' 83, slot a' 84, slot a' 85, slot a' 86, slot a' 87, slot a' 88, slot a' 89, slot a' 90, slot a' 91, slot a' 92, slot a' 93, slot a' 94, slot a' 95, slot a' 96, slot a' 97, slot a' 98, slot a' 99], defers := [] } ∧ AllJ la nm' (.slice a la.length cap) v1 c lb (dirB la) w w' z la.length) ?_ ?_ ?_
    · exact ⟨-1, 0, rfl, by omega, .inl ⟨fun i hi => by omega, rfl⟩, HVA.out, HVB.out, HC.out, hb⟩
    · clear hb HVA HVB HC
      rintro R Y a' w1 ⟨z, k, hfr, hJ⟩ HR HY
      obtain ⟨f, hf⟩ : ∃ f, f = slot a' := ⟨_, rfl⟩
      rw [← hf] at hfr
      clear hf
      subst hfr
      obtain ⟨hk, hz, hva, hvb, hc, hb⟩ := hJ
      have HZ := Lib.hid hz
      have HVA := Lib.hid hva
      have HVB := Lib.hid hvb
      have HC := Lib.hid hc
      clear hz hva hvb hc
      by_cases hkl : k < la.length
      · obtain ⟨e, he⟩ : ∃ e, la[k]? = some e := ⟨_, List.getElem?_eq_getElem hkl⟩
        obtain ⟨a', cap', hv, _, _, hcells⟩ := HVA.out
        injection hv with e1 e2 e3
        subst e1 e3
        obtain ⟨-, b, off, rfl, c0, -⟩ := hcells k e he
        have HE := Lib.hid he
        clear hcells e2 he
        cases hq : e.name == nm'
        · have f1 : ((bs e.name).toList == (bs nm').toList) = false := by rw [bs_toList, bs_toList]; exact hq
          have HQ := Lib.hid hq
          clear hq
          go_wp2_with fail
          refine HR.out _ _ ⟨z, k + 1, rfl, by omega, ?_, HVA.out, HVB.out, HC.out, hb⟩ ?_
          · rcases HZ.out with ⟨h1, h2⟩ | ⟨i, d, h1, h2, h3, h4⟩
            · refine .inl ⟨fun i hi d hd => ?_, h2⟩
              rcases Nat.lt_or_ge i k with h | h
              · exact h1 i h d hd
              · obtain rfl : i = k := by omega
                rw [HE.out] at hd
                injection hd with hd
                rw [← hd]
                exact HQ.out
            · exact .inr ⟨i, d, by omega, h2, h3, h4⟩
          · simp [intOf]
            omega
        · have f1 : ((bs e.name).toList == (bs nm').toList) = true := by rw [bs_toList, bs_toList]; exact hq
          have HQ := Lib.hid hq
          clear hq
          go_wp2_with fail
          refine HR.out _ _ ⟨k, k + 1, rfl, by omega, .inr ⟨k, e, by omega, HE.out, HQ.out, rfl⟩, HVA.out, HVB.out, HC.out, hb⟩ ?_
          simp [intOf]
          omega
      · obtain rfl : k = la.length := by omega
        go_wp2_with fail
        exact HY.out _ _ ⟨z, rfl, by omega, HZ.out, HVA.out, HVB.out, HC.out, hb⟩
    · clear hb HVA HVB HC
      rintro a' w1 ⟨z, hfr, hJ⟩
      obtain ⟨f, hf⟩ : ∃ f, f = slot a' := ⟨_, rfl⟩
      rw [← hf] at hfr
      clear hf
      subst hfr
      obtain ⟨-, hz, hva, hvb, hc, hb⟩ := hJ
      have hfz := hz.find HM.out
      have HZ := Lib.hid hfz
      have HVA := Lib.hid hva
      have HVB := Lib.hid hvb
      have HC := Lib.hid hc
      clear hz hva hvb hc hfz
      go_wp2_with fail
      refine (decode_any _ _ _ HC.out).mono ?_
      rintro y w2 ⟨hb2, v2, err, rfl, hd⟩
      rcases hd with ⟨rfl, es, hes, heq, hoe⟩ | ⟨-, -, h⟩
      rotate_left
      · exact absurd ⟨_, HM.out, rfl⟩ h
      obtain rfl := dirB_inj hes HM.out heq
      have hl2 := hoe.isEnts (fun e he => (mayL_fits hes e he).ok)
      have HL2 := Lib.hid hl2
      have hci := HC.out.below hb2
      clear HC hes heq hoe hl2
      have HC := Lib.hid hci
      clear hci
      have hva := HVA.out.below hb2
      have hvb := HVB.out.below hb2
      replace hb := below_next hb hb2
      clear HVA HVB hb2
      have HVA := Lib.hid hva
      have HVB := Lib.hid hvb
      clear hva hvb
      go_wp2_with fail
      refine wp_region_ord (fun w' => (convert 22 9 c).run Try.prog w' = .ok (.string (bs (dirB es))) w') (ord [(0, true), (1, true), (2, true), (3, false), (4, false), (5, true), (6, true), (7, true), (8, true), (9, true),
      (10, true), (11, true), (12, true), (13, false), (14, true), (15, true), (16, true), (17, true), (19, true),
      (18, false), (20, true), (21, true), (22, true), (23, true), (24, false), (25, true), (26, true), (27, true),
      (30, true), (31, true), (33, true), (34, true), (28, false)] (.fork 29 35 (ord [(32, true), (35, false), (36, true), (37, true), (38, true), (39, true)] .nil)
        (ord [(29, false), (32, true), (36, true), (37, true), (38, true), (39, true)] .nil))) (by kernel_rfl) (by kernel_rfl) (run_str (HC.out.below (Below.refl _ _).drew)) ?_
      dsimp only [ord]
      iterate 3 (first | (apply ord_skip rfl rfl; simp only [Act.put, List.setIfInBounds_toArray, List.set_cons_succ, List.set_cons_zero]) | (apply ord_pure rfl rfl rfl; · (rintro w' t0; go_wp2; exact ⟨rfl, rfl, rfl⟩)))
      refine ord_loud rfl rfl ?_
      go_wp2_with fail
      refine (bytes_any _ es _ (HVA.out.below (Below.refl _ _).drew) HM.out).mono ?_
      rintro y w3 ⟨u, rfl, hou, hb3'⟩
      have hb3 := below_undrew hb3'
      have hcv := run_str hou.isBytes
      have hci := HC.out.below hb3
      have hl2 := HL2.out.below hb3
      clear HC HL2 hou hb3'
      have HC := Lib.hid hci
      have HL2 := Lib.hid hl2
      clear hci hl2
      have hva := HVA.out.below hb3
      have hvb := HVB.out.below hb3
      replace hb := below_next hb hb3
      clear HVA HVB hb3
      have HVA := Lib.hid hva
      have HVB := Lib.hid hvb
      clear hva hvb
      go_wp2_with fail
      refine ⟨run_str HC.out, ?_⟩
      refine ord_loud rfl rfl ?_
      go_wp2_with fail
      refine ⟨run_str HC.out, ?_⟩
      clear hcv
      iterate 8 (first | (apply ord_skip rfl rfl; simp only [Act.put, List.setIfInBounds_toArray, List.set_cons_succ, List.set_cons_zero]) | (apply ord_pure rfl rfl rfl; · (rintro w' t0; go_wp2; exact ⟨rfl, rfl, rfl⟩)))
      refine ord_loud rfl rfl ?_
      go_wp2_with fail
      refine (eq_any _ _ _ _ _ HL2.out HVA.out).mono ?_
      rintro y w4 ⟨r, rfl, hr, hb4⟩
      obtain rfl := hr.2 rfl
      have hci := HC.out.below hb4
      clear HC HL2 hr
      have HC := Lib.hid hci
      clear hci
      have hva := HVA.out.below hb4
      have hvb := HVB.out.below hb4
      replace hb := below_next hb hb4
      clear HVA HVB hb4
      have HVA := Lib.hid hva
      have HVB := Lib.hid hvb
      clear hva hvb
      go_wp2_with fail
      refine ⟨run_str HC.out, ?_⟩
      iterate 5 (first | (apply ord_skip rfl rfl; simp only [Act.put, List.setIfInBounds_toArray, List.set_cons_succ, List.set_cons_zero]) | (apply ord_pure rfl rfl rfl; · (rintro w' t0; go_wp2; exact ⟨rfl, rfl, rfl⟩)))
      refine ord_loud rfl rfl ?_
      go_wp2_with fail
      refine (find_any _ _ nm' _ HVA.out).mono ?_
      rintro y w5 ⟨rfl, hb5⟩
      rw [HZ.out]
      have hci := HC.out.below hb5
      clear HC
      have HC := Lib.hid hci
      clear hci
      have hva := HVA.out.below hb5
      have hvb := HVB.out.below hb5
      replace hb := below_next hb hb5
      clear HVA HVB hb5
      have HVA := Lib.hid hva
      have HVB := Lib.hid hvb
      clear hva hvb
      go_wp2_with fail
      refine ⟨run_str HC.out, ?_⟩
      iterate 4 (first | (apply ord_skip rfl rfl; simp only [Act.put, List.setIfInBounds_toArray, List.set_cons_succ, List.set_cons_zero]) | (apply ord_pure rfl rfl rfl; · (rintro w' t0; go_wp2; exact ⟨rfl, rfl, rfl⟩)))
      refine ord_loud rfl rfl ?_
      go_wp2_with fail
      refine (lawMay_any _ lb _ HVB.out).mono ?_
      rintro y w6 ⟨r, rfl, hr, hb6⟩
      have hci := HC.out.below hb6
      clear HC
      have HC := Lib.hid hci
      clear hci
      have hva := HVA.out.below hb6
      have hvb := HVB.out.below hb6
      replace hb := below_next hb hb6
      clear HVA HVB hb6
      have HVA := Lib.hid hva
      have HVB := Lib.hid hvb
      clear hva hvb
      cases r with
      | false =>
        clear hr
        go_wp2_with fail
        refine ⟨run_str HC.out, ?_⟩
        iterate 8 (first | (apply ord_skip rfl rfl; simp only [Act.put, List.setIfInBounds_toArray, List.set_cons_succ, List.set_cons_zero]) | (apply ord_pure rfl rfl rfl; · (rintro w' t0; go_wp2; exact ⟨rfl, rfl, rfl⟩)))
        refine ord_fork_skip rfl rfl rfl rfl ?_ ?_
        · skip
          iterate 6 (first | (apply ord_skip rfl rfl; simp only [Act.put, List.setIfInBounds_toArray, List.set_cons_succ, List.set_cons_zero]) | (apply ord_pure rfl rfl rfl; · (rintro w' t0; go_wp2; exact ⟨rfl, rfl, rfl⟩)))
          refine ord_nil ?_
          refine NoPanic.normal ?_
          go_wp2_with fail
          go_ret
          exact ⟨rfl, hb⟩
        · skip
          iterate 6 (first | (apply ord_skip rfl rfl; simp only [Act.put, List.setIfInBounds_toArray, List.set_cons_succ, List.set_cons_zero]) | (apply ord_pure rfl rfl rfl; · (rintro w' t0; go_wp2; exact ⟨rfl, rfl, rfl⟩)))
          refine ord_nil ?_
          refine NoPanic.normal ?_
          go_wp2_with fail
          go_ret
          exact ⟨rfl, hb⟩
      | true =>
        have hmb := hr.1 rfl
        have HMB := Lib.hid hmb
        clear hr hmb
        go_wp2_with fail
        refine ⟨run_str HC.out, ?_⟩
        iterate 7 (first | (apply ord_skip rfl rfl; simp only [Act.put, List.setIfInBounds_toArray, List.set_cons_succ, List.set_cons_zero]) | (apply ord_pure rfl rfl rfl; · (rintro w' t0; go_wp2; exact ⟨rfl, rfl, rfl⟩)))
        refine ord_loud rfl rfl ?_
        go_wp2_with fail
        refine (encode_any _ lb _ HVB.out).mono ?_
        rintro y w7 ⟨c2, rfl, hb7, hc2⟩
        rcases hc2 with ⟨-, hc2⟩ | ⟨h, -⟩
        rotate_left
        · exact absurd HMB.out h
        have hcv := run_str hc2.isBytes
        have hc2i := hc2.isBytes
        have HC2 := Lib.hid hc2i
        have hci := HC.out.below hb7
        clear HC hc2 hc2i
        have HC := Lib.hid hci
        clear hci
        have hva := HVA.out.below hb7
        have hvb := HVB.out.below hb7
        replace hb := below_next hb hb7
        clear HVA HVB hb7
        have HVA := Lib.hid hva
        have HVB := Lib.hid hvb
        clear hva hvb
        go_wp2_with fail
        refine ⟨run_str HC.out, ?_⟩
        refine ord_fork rfl rfl rfl rfl ?_ ?_
        · go_wp2_with fail
          refine ⟨run_str HC.out, ?_⟩
          clear hcv HC2
          iterate 1 (first | (apply ord_skip rfl rfl; simp only [Act.put, List.setIfInBounds_toArray, List.set_cons_succ, List.set_cons_zero]) | (apply ord_pure rfl rfl rfl; · (rintro w' t0; go_wp2; exact ⟨rfl, rfl, rfl⟩)))
          refine ord_loud rfl rfl ?_
          go_wp2_with fail
          refine (eq_any _ _ _ _ _ HVA.out HVB.out).mono ?_
          rintro y w8 ⟨r, rfl, hr, hb8⟩
          have hci := HC.out.below hb8
          clear HC
          have HC := Lib.hid hci
          have hb8' := hb8
          clear hci
          have hva := HVA.out.below hb8'
          have hvb := HVB.out.below hb8'
          replace hb := below_next hb hb8'
          clear HVA HVB hb8'
          have HVA := Lib.hid hva
          have HVB := Lib.hid hvb
          clear hva hvb
          have hq : ((bs (dirB lb)).toList == (bs (dirB es)).toList) = r := by
            rw [bs_toList, bs_toList]
            cases r
            · exact beq_eq_false_iff_ne.2 (fun g => by have := hr.2 (dirB_inj HM.out HMB.out g.symm); cases this)
            · rw [hr.1 rfl]
              exact beq_self_eq_true _
          clear hr
          cases r
          · skip
            go_wp2_with fail
            refine ⟨run_str HC.out, ?_⟩
            iterate 4 (first | (apply ord_skip rfl rfl; simp only [Act.put, List.setIfInBounds_toArray, List.set_cons_succ, List.set_cons_zero]) | (apply ord_pure rfl rfl rfl; · (rintro w' t0; go_wp2; exact ⟨rfl, rfl, rfl⟩)))
            refine ord_nil ?_
            refine NoPanic.normal ?_
            go_wp2_with fail
            go_ret
            exact ⟨rfl, hb⟩
          · skip
            go_wp2_with fail
            refine ⟨run_str HC.out, ?_⟩
            iterate 4 (first | (apply ord_skip rfl rfl; simp only [Act.put, List.setIfInBounds_toArray, List.set_cons_succ, List.set_cons_zero]) | (apply ord_pure rfl rfl rfl; · (rintro w' t0; go_wp2; exact ⟨rfl, rfl, rfl⟩)))
            refine ord_nil ?_
            refine NoPanic.normal ?_
            go_wp2_with fail
            go_ret
            exact ⟨rfl, hb⟩
        · clear hcv
          go_wp2_with fail
          refine (eq_any _ _ _ _ _ HVA.out HVB.out).mono ?_
          rintro y w8 ⟨r, rfl, hr, hb8⟩
          have hci := HC.out.below hb8
          clear HC
          have HC := Lib.hid hci
          have hb8' := hb8
          clear hci
          have hva := HVA.out.below hb8'
          have hvb := HVB.out.below hb8'
          replace hb := below_next hb hb8'
          clear HVA HVB hb8'
          have HVA := Lib.hid hva
          have HVB := Lib.hid hvb
          clear hva hvb
          have hq : ((bs (dirB lb)).toList == (bs (dirB es)).toList) = r := by
            rw [bs_toList, bs_toList]
            cases r
            · exact beq_eq_false_iff_ne.2 (fun g => by have := hr.2 (dirB_inj HM.out HMB.out g.symm); cases this)
            · rw [hr.1 rfl]
              exact beq_self_eq_true _
          clear hr
          have hc2 := HC2.out.below hb8
          have hcv := run_str hc2
          clear HC2 hc2
          cases r
          · go_wp2_with fail
            refine ⟨run_str HC.out, ?_⟩
            refine ord_loud rfl rfl ?_
            go_wp2_with fail
            refine ⟨run_str HC.out, ?_⟩
            iterate 5 (first | (apply ord_skip rfl rfl; simp only [Act.put, List.setIfInBounds_toArray, List.set_cons_succ, List.set_cons_zero]) | (apply ord_pure rfl rfl rfl; · (rintro w' t0; go_wp2; exact ⟨rfl, rfl, rfl⟩)))
            refine ord_nil ?_
            refine NoPanic.normal ?_
            go_wp2_with fail
            go_ret
            exact ⟨rfl, hb⟩
          · go_wp2_with fail
            refine ⟨run_str HC.out, ?_⟩
            refine ord_loud rfl rfl ?_
            go_wp2_with fail
            refine ⟨run_str HC.out, ?_⟩
            iterate 5 (first | (apply ord_skip rfl rfl; simp only [Act.put, List.setIfInBounds_toArray, List.set_cons_succ, List.set_cons_zero]) | (apply ord_pure rfl rfl rfl; · (rintro w' t0; go_wp2; exact ⟨rfl, rfl, rfl⟩)))
            refine ord_nil ?_
            refine NoPanic.normal ?_
            go_wp2_with fail
            go_ret
            exact ⟨rfl, hb⟩
end Go.Proofs.Ytbgeijdfkdfdoaa
