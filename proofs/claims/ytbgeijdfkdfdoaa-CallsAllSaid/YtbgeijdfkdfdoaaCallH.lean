/-
  Walk of the statements' own function tells (calls), and of the law CallsAny.
-/
import Derived.Test.YtbgeijdfkdfdoaaCallH0
namespace Go.Proofs.Ytbgeijdfkdfdoaa
open Go.RowKit

set_option maxRecDepth 100000 in
set_option maxHeartbeats 4000000 in
theorem tellsC_any (v : Value) (l : List UInt8) (w : World) (hv : IsBytes w v l) (hll : l.length ≤ 400000) : Calls Try.prog 44 #[v] w (TrueEnd w) := by
  have HV := Lib.hid hv
  clear hv
  go_enter Try.func44, Try.ntmps44
  go_wp2_with fail
  refine (decCalls_any _ _ _ HV.out hll).mono ?_
  rintro x w1 ⟨hb, v1, err, rfl, hd⟩
  rcases hd with ⟨rfl, es, hes, heo, heq, hl⟩ | ⟨rfl, rfl, -⟩
  · have HL := Lib.hid hl
    have HM := Lib.hid hes
    have HQ := Lib.hid heq
    clear hl hes heq heo
    go_wp2_with fail
    refine wp_region_seq (fun w' => (convert 22 9 v).run Try.prog w' = .ok (.string (bs l)) w') [(0, true), (1, false), (2, true), (3, true), (6, true), (7, true), (4, false), (5, false), (8, true), (9, true),
      (10, true)] (by kernel_rfl) (by kernel_rfl) (run_str (HV.out.below hb.drew)) ?_
    iterate 1 (first | (apply seg_skip rfl rfl; simp only [Act.put, List.setIfInBounds_toArray, List.set_cons_succ, List.set_cons_zero]) | (apply seg_pure rfl rfl rfl; · (rintro w' t0; go_wp2; exact ⟨rfl, rfl, rfl⟩)))
    refine seg_loud rfl rfl ?_
    go_wp2_with fail
    refine (lawMayC_any _ es _ (HL.out.below (Below.refl _ _).drew)).mono ?_
    rintro x w2 ⟨r, rfl, hr, hb2⟩
    obtain rfl := hr.2 HM.out
    have hl := HL.out.below (w := w1) (below_undrew hb2)
    replace hb := below_next hb (below_undrew hb2)
    clear HL hr
    have HL := Lib.hid hl
    clear hl hb2
    go_wp2_with fail
    refine ⟨run_str (HV.out.below hb), ?_⟩
    iterate 4 (first | (apply seg_skip rfl rfl; simp only [Act.put, List.setIfInBounds_toArray, List.set_cons_succ, List.set_cons_zero]) | (apply seg_pure rfl rfl rfl; · (rintro w' t0; go_wp2; exact ⟨rfl, rfl, rfl⟩)))
    refine seg_loud rfl rfl ?_
    go_wp2_with fail
    refine (encCalls_any _ es _ HL.out).mono ?_
    rintro x w3 ⟨u, rfl, hb3, hou⟩
    rcases hou with ⟨-, hou⟩ | ⟨h, -⟩
    rotate_left
    · exact absurd HM.out h
    replace hb := below_next hb hb3
    have hcv := run_str hou.isBytes
    rw [HQ.out] at hcv
    clear HL hb3 hou
    go_wp2_with fail
    refine ⟨run_str (HV.out.below hb), ?_⟩
    refine seg_loud rfl rfl ?_
    go_wp2_with fail
    refine ⟨run_str (HV.out.below hb), ?_⟩
    iterate 3 (first | (apply seg_skip rfl rfl; simp only [Act.put, List.setIfInBounds_toArray, List.set_cons_succ, List.set_cons_zero]) | (apply seg_pure rfl rfl rfl; · (rintro w' t0; go_wp2; exact ⟨rfl, rfl, rfl⟩)))
    refine seg_nil ?_
    refine NoPanic.normal ?_
    go_wp2_with fail
    go_ret
    exact ⟨rfl, hb⟩
  · go_wp2_with fail
    go_ret
    exact ⟨rfl, hb⟩

set_option maxRecDepth 100000 in
set_option maxHeartbeats 4000000 in
theorem callsAny_any (vb : Value) (lb : List UInt8) (vl : Value) (l : List CEnt) (at' x : Int) (w : World) (hvb : IsBytes w vb lb) (hvl : IsCalls w vl l) (h2 : (Lit.int .i64 at').wf = true) (h3 : (Lit.int .u8 x).wf = true) :
    Calls Try.prog 14 #[vb, vl, .int .i64 at', .int .u8 x] w (TrueEnd w) := by
  obtain ⟨a0, a1⟩ := bounds_i64 h2
  obtain ⟨b0, b1⟩ := bounds_u8 h3
  clear h2 h3
  obtain ⟨x, rfl⟩ := Int.eq_ofNat_of_zero_le b0
  have HVB := Lib.hid hvb
  have HVL := Lib.hid hvl
  clear hvb hvl
  go_enter Try.func14, Try.ntmps14
  go_wp2_with fail
  refine (callsBegun_any _).mono ?_
  rintro y w1 ⟨rfl, hb⟩
  go_wp2_with fail
  refine (short_any _ lb 60 (by omega) _ (HVB.out.below hb)).mono ?_
  rintro y w2 ⟨rfl, v0, rfl, hv0⟩
  have HV0 := Lib.hid hv0
  clear hv0
  go_wp2_with fail
  refine (cutCalls_any _ l _ (HVL.out.below hb)).mono ?_
  rintro y w2 ⟨v1, rfl, hv1, hb2⟩
  have hv0 := HV0.out.below hb2
  replace hb := below_next hb hb2
  clear HV0
  have HV0 := Lib.hid hv0
  have HV1 := Lib.hid hv1
  have hoks : ∀ c ∈ cutC l, c.ok := by obtain ⟨_, _, _, _, h⟩ := hv1; exact h
  have HOK := Lib.hid hoks
  clear hv0 hv1 hb2 hoks
  go_wp2_with fail
  refine (tellsC_any _ _ _ HV0.out (by rw [List.length_take]; omega)).mono ?_
  rintro y w3 ⟨rfl, hb3⟩
  have hv1 := HV1.out.below hb3
  replace hb := below_next hb hb3
  clear HV0 HV1
  have HV1 := Lib.hid hv1
  clear hv1 hb3
  go_wp2_with fail
  refine (encCalls_any _ _ _ HV1.out).mono ?_
  rintro y w4 ⟨c, rfl, hb4, hc⟩
  have hv1 := HV1.out.below hb4
  replace hb := below_next hb hb4
  clear HV1
  have HV1 := Lib.hid hv1
  clear hv1
  rcases hc with ⟨hm, ho⟩ | ⟨hm, rfl⟩
  rotate_left
  · clear hb4
    go_wp2_with fail
    refine (lawMayC_any _ _ _ HV1.out).mono ?_
    rintro y w5 ⟨r, rfl, hr, hb5⟩
    obtain rfl : r = false := by
      cases r
      · rfl
      · exact absurd (hr.1 rfl) hm
    replace hb := below_next hb hb5
    clear hr hb5 hm HV1
    go_wp2_with fail
    go_ret
    exact ⟨rfl, hb⟩
  have HM := Lib.hid hm
  obtain ⟨n1, n2⟩ := callsB_len hm HOK.out
  obtain ⟨g, cap, rfl, -, -, hcap, hmax, -, -⟩ := ho.open (callsB_ne _)
  have hci := ho.isBytes
  have HCI := Lib.hid hci
  clear hm ho hci hb4
  generalize callsB (cutC l) = C at HCI n1 n2 hcap
  unfold maxLen at hmax
  have hl0 : ((C.length : Int) == 0) = false := ieq_false (by omega)
  by_cases q : at' < 0
  · have f0 : decide (at' < 0) = true := decide_eq_true q
    go_wp2_with fail
    refine (lawMayC_any _ _ _ HV1.out).mono ?_
    rintro y w5 ⟨r, rfl, hr, hb5⟩
    obtain rfl := hr.2 HM.out
    replace hb := below_next hb hb5
    clear hr hb5 HV1 HCI
    go_wp2_with fail
    go_ret
    exact ⟨rfl, hb⟩
  have f0 : decide (at' < 0) = false := decide_eq_false q
  obtain ⟨at', rfl⟩ := Int.eq_ofNat_of_zero_le (show 0 ≤ at' by omega)
  go_wp2_with (first | (at_builtin; refine Stop.out ?_))
  change wpList _ _ _ _ _ _
  refine wpList_bytes w4 rfl _ _ rfl rfl w.heap.size (.slice none 0 0) [] rfl (OwnBytes.nil _ _) (.slice (some ⟨g, 0, none⟩) C.length cap) C rfl HCI.out (by simp; omega) hb.size ?_
  intro v5 w5 ho hk5 _
  rw [List.nil_append] at ho
  replace hb := below_next hb (keeps_nil hk5 rfl)
  clear hk5 HCI HV1 hcap hmax
  obtain ⟨g, cap, rfl, hg1, hg2, hcap, hmax, hcell, hfree⟩ := ho.open (by intro h; rw [h] at n1; simp at n1)
  obtain ⟨n, hn⟩ : ∃ n, n = C.length := ⟨_, rfl⟩
  obtain ⟨k, hk⟩ : ∃ k, k = at' % n := ⟨_, rfl⟩
  have hkn : k < C.length := by rw [← hn, hk]; exact Nat.mod_lt _ (by omega)
  obtain ⟨z, hz⟩ : ∃ z, C[k]? = some z := ⟨_, List.getElem?_eq_getElem hkn⟩
  have hkk : ((at' : Int) % (C.length : Int)) = (k : Int) := by rw [hk, hn]; rfl
  have hc := hcell k z hz
  have hf := hfree k
  have hz8 := z.toNat_lt
  unfold maxLen at hmax
  have HO := Lib.hid ho
  clear hcell hfree hn hk hz ho
  have hxx : bits .xor .u8 (z.toNat : Int) (x : Int) = ((b8 (z.toNat ^^^ x)).toNat : Int) := by
    rw [u8_xor_nat z.toNat x hz8 (by omega), b8_toNat (Nat.xor_lt_two_pow (n := 8) hz8 (by omega))]
  have HX := Lib.hid hxx
  clear hxx
  go_wp2_with fail
  rw [HX.out]
  have hset := HO.out.set k (b8 (z.toNat ^^^ x))
  have hb6 : Below w.heap.size w (w5.setCell ⟨g, k, none⟩ (bv (b8 (z.toNat ^^^ x)))) := hb.setCell hg1 _
  change Calls _ _ _ (w5.setCell ⟨g, k, none⟩ (bv (b8 (z.toNat ^^^ x)))) _
  have hlC : (C.set k (b8 (z.toNat ^^^ x))).length = C.length := List.length_set
  generalize w5.setCell ⟨g, k, none⟩ (bv (b8 (z.toNat ^^^ x))) = w6 at hset hb6 ⊢
  generalize C.set k (b8 (z.toNat ^^^ x)) = D at hset hlC
  rw [← hlC] at hset hkk hkn hl0 n1 n2 hcap ⊢
  clear hlC HX HO hc hf hb hz8
  have HS := Lib.hid hset
  clear hset
  refine (tellsC_any _ D _ HS.out.isBytes (by omega)).mono ?_
  rintro y w7 ⟨rfl, hb7⟩
  have ho := HS.out.below hb7
  have hb := below_next hb6 hb7
  clear HS hb6 hb7
  have hv := ho.isBytes.take k (by omega)
  have hlt : (D.take k).length ≤ 400000 := by rw [List.length_take]; omega
  have HO := Lib.hid ho
  have HV := Lib.hid hv
  have HLT := Lib.hid hlt
  clear ho hv hlt
  go_wp2_with fail
  refine (tellsC_any _ (D.take k) _ HV.out HLT.out).mono ?_
  rintro y w8 ⟨rfl, hb8⟩
  have ho := HO.out.below hb8
  replace hb := below_next hb hb8
  clear HV HO hb8
  go_wp2_with (first | (at_builtin; refine Stop.out ?_))
  change wpList _ _ _ _ _ _
  refine wpList_unguard rfl ?_
  refine wpList_byte w8 rfl _ _ rfl rfl w.heap.size (.slice (some ⟨g, 0, none⟩) D.length cap) D rfl ho (b8 x) _ ?_ rfl ?_ ?_ ?_
  · rw [b8_toNat (by omega)]
  · omega
  · exact hb.size
  · intro v' w9 ho9 hk9 _
    have hb9 := hb.trans (hk9.below hb.size (fun i hi => (own_lt ho hi).1))
    clear ho hk9 hb
    have HO := Lib.hid ho9
    clear ho9
    go_wp2_with fail
    refine (tellsC_any _ _ _ HO.out.isBytes (by simp; omega)).mono ?_
    rintro y w10 ⟨rfl, hb10⟩
    have hb := below_next hb9 hb10
    clear hb9 hb10 HO
    go_wp2_with fail
    go_ret
    exact ⟨rfl, hb⟩
end Go.Proofs.Ytbgeijdfkdfdoaa
