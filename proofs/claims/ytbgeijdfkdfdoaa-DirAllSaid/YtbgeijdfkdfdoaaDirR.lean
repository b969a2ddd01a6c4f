/-
  The law DirAny: any bytes are a list's, just its, or none's; those that were changed, too. No condition.
-/
import Derived.Test.YtbgeijdfkdfdoaaDirQ
import Derived.Test.YtbgeijdfkdfdoaaGuard
namespace Go.Proofs.Ytbgeijdfkdfdoaa
open Go.RowKit

theorem DEnt.ok.cut {e : DEnt} (h : e.ok) : e.cut.ok := by
  refine ⟨?_, h.2⟩
  show (e.name.take 22).length ≤ _
  rw [List.length_take]
  omega

theorem IsEnts.oks {w : World} {v : Value} {l : List DEnt} (h : IsEnts w v l) : ∀ e ∈ l, e.ok := by
  obtain ⟨_, _, _, _, _, hc⟩ := h
  intro e he
  obtain ⟨i, hi⟩ := List.mem_iff_getElem?.1 he
  exact (hc i e hi).1

theorem cutL_ok {l : List DEnt} (h : ∀ e ∈ l, e.ok) : ∀ e ∈ cutL l, e.ok := by
  intro e he
  rw [cutL, List.mem_map] at he
  obtain ⟨d, hd, rfl⟩ := he
  exact (h d (List.mem_of_mem_take hd)).cut

theorem dirB_len {l : List DEnt} (h : mayL l) : 1 ≤ (dirB l).length ∧ (dirB l).length ≤ 100000 := by
  have g1 := putU_len l.length
  have g2 := flat_len l (fun x hx => by
    obtain ⟨i, hi⟩ := List.mem_iff_getElem?.1 hx
    exact (h.1 i (List.getElem?_eq_some_iff.1 hi).1 x hi).1.2.1)
  have g3 := h.2
  rw [dirB, List.length_append]
  omega

set_option maxRecDepth 100000 in
set_option maxHeartbeats 4000000 in
theorem dirAny_any (vb : Value) (lb : List UInt8) (vl : Value) (l : List DEnt) (at' x : Int) (w : World) (hvb : IsBytes w vb lb) (hvl : IsEnts w vl l) (h2 : (Lit.int .i64 at').wf = true) (h3 : (Lit.int .u8 x).wf = true) :
    Calls Try.prog 10 #[vb, vl, .int .i64 at', .int .u8 x] w (TrueEnd w) := by
  obtain ⟨a0, a1⟩ := bounds_i64 h2
  obtain ⟨b0, b1⟩ := bounds_u8 h3
  clear h2 h3
  obtain ⟨x, rfl⟩ := Int.eq_ofNat_of_zero_le b0
  have hok := cutL_ok hvl.oks
  have HOK := Lib.hid hok
  have HVB := Lib.hid hvb
  have HVL := Lib.hid hvl
  clear hok hvb hvl
  go_enter Try.func10, Try.ntmps10
  go_wp2_with fail
  refine (dirBegun_any _).mono ?_
  rintro y w1 ⟨rfl, hb⟩
  go_wp2_with fail
  refine (short_any _ lb 60 (by omega) _ (HVB.out.below hb)).mono ?_
  rintro y w2 ⟨rfl, v0, rfl, hv0⟩
  have HV0 := Lib.hid hv0
  clear hv0
  go_wp2_with fail
  refine (cut_any _ l _ (HVL.out.below hb)).mono ?_
  rintro y w2 ⟨v1, rfl, ho1, hb2⟩
  have hv1 := ho1.isEnts HOK.out
  have hv0 := HV0.out.below hb2
  replace hb := below_next hb hb2
  clear HV0
  have HV0 := Lib.hid hv0
  have HV1 := Lib.hid hv1
  clear hv0 hv1 ho1 hb2
  go_wp2_with fail
  refine (tells_any _ _ _ HV0.out).mono ?_
  rintro y w3 ⟨rfl, hb3⟩
  have hv1 := HV1.out.below hb3
  replace hb := below_next hb hb3
  clear HV0 HV1
  have HV1 := Lib.hid hv1
  clear hv1 hb3
  go_wp2_with fail
  refine (lawMay_any _ _ _ HV1.out).mono ?_
  rintro y w4 ⟨r, rfl, hr, hb4⟩
  have hv1 := HV1.out.below hb4
  replace hb := below_next hb hb4
  clear HV1
  have HV1 := Lib.hid hv1
  clear hv1 hb4
  cases r with
  | false =>
    clear hr
    go_wp2_with fail
    go_ret
    exact ⟨rfl, hb⟩
  | true =>
    have hm := hr.1 rfl
    have HM := Lib.hid hm
    obtain ⟨n1, n2⟩ := dirB_len hm
    clear hr hm
    by_cases q : at' < 0
    · have f0 : decide (at' < 0) = true := decide_eq_true q
      go_wp2_with fail
      go_ret
      exact ⟨rfl, hb⟩
    have f0 : decide (at' < 0) = false := decide_eq_false q
    obtain ⟨at', rfl⟩ := Int.eq_ofNat_of_zero_le (show 0 ≤ at' by omega)
    go_wp2_with fail
    refine (bytes_any _ _ _ HV1.out HM.out).mono ?_
    rintro y w5 ⟨c, rfl, ho, hb5⟩
    have hsz := hb.size
    replace hb := below_next hb hb5
    clear hb5 HV1
    generalize dirB (cutL l) = C at ho n1 n2
    have ho := own_base (base' := w.heap.size) ho (fun k hk => by have := (own_lt ho hk).1; omega)
    clear hsz
    change OwnBytes w5 w.heap.size c C at ho
    obtain ⟨g, cap, rfl, hg1, hg2, hcap, hmax, hcell, hfree⟩ := ho.open (by intro h; rw [h] at n1; simp at n1)
    obtain ⟨n, hn⟩ : ∃ n, n = C.length := ⟨_, rfl⟩
    obtain ⟨k, hk⟩ : ∃ k, k = at' % n := ⟨_, rfl⟩
    have hkn : k < C.length := by rw [← hn, hk]; exact Nat.mod_lt _ (by omega)
    obtain ⟨z, hz⟩ : ∃ z, C[k]? = some z := ⟨_, List.getElem?_eq_getElem hkn⟩
    have hkk : ((at' : Int) % (C.length : Int)) = (k : Int) := by rw [hk, hn]; rfl
    have hl0 : ((C.length : Int) == 0) = false := ieq_false (by omega)
    have hc := hcell k z hz
    have hf := hfree k
    have hz8 := z.toNat_lt
    unfold maxLen at hmax
    have HO := Lib.hid ho
    clear hcell hfree hn hk hz ho
    have hxx : bits .xor .u8 (z.toNat : Int) (x : Int) = ((b8 (z.toNat ^^^ x)).toNat : Int) := by
      rw [u8_xor_nat z.toNat x hz8 (by omega), b8_toNat (Nat.xor_lt_two_pow (n := 8) hz8 (by omega))]
    have HX := Lib.hid hxx
    clear hxx
    go_wp2_with fail
    rw [HX.out]
    have hset := HO.out.set k (b8 (z.toNat ^^^ x))
    have hb6 : Below w.heap.size w (w5.setCell ⟨g, k, none⟩ (bv (b8 (z.toNat ^^^ x)))) := hb.setCell hg1 _
    change Calls _ _ _ (w5.setCell ⟨g, k, none⟩ (bv (b8 (z.toNat ^^^ x)))) _
    have hlC : (C.set k (b8 (z.toNat ^^^ x))).length = C.length := List.length_set
    generalize w5.setCell ⟨g, k, none⟩ (bv (b8 (z.toNat ^^^ x))) = w6 at hset hb6 ⊢
    generalize C.set k (b8 (z.toNat ^^^ x)) = D at hset hlC
    rw [← hlC] at hset hkk hkn hl0 n1 n2 hcap ⊢
    clear hlC HX HO hc hf hb hz8
    have HS := Lib.hid hset
    clear hset
    refine (tells_any _ D _ HS.out.isBytes).mono ?_
    rintro y w7 ⟨rfl, hb7⟩
    have ho := HS.out.below hb7
    have hb := below_next hb6 hb7
    clear HS hb6 hb7
    have hv := ho.isBytes.take k (by omega)
    have hlt : (D.take k).length = k := by rw [List.length_take]; omega
    have HO := Lib.hid ho
    have HV := Lib.hid hv
    clear ho hv hlt
    go_wp2_with fail
    refine (tells_any _ (D.take k) _ HV.out).mono ?_
    rintro y w8 ⟨rfl, hb8⟩
    have ho := HO.out.below hb8
    replace hb := below_next hb hb8
    clear HV HO hb8
    go_wp2_with (first | (at_builtin; refine Stop.out ?_))
    change wpList _ _ _ _ _ _
    refine wpList_unguard rfl ?_
    refine wpList_byte w8 rfl _ _ rfl rfl w.heap.size (.slice (some ⟨g, 0, none⟩) D.length cap) D rfl ho (b8 x) _ ?_ rfl ?_ ?_ ?_
    · rw [b8_toNat (by omega)]
    · omega
    · exact hb.size
    · intro v' w9 ho9 hk9 _
      have hb9 := hb.trans (hk9.below hb.size (fun i hi => (own_lt ho hi).1))
      clear ho hk9 hb
      have HO := Lib.hid ho9
      clear ho9
      go_wp2_with fail
      refine (tells_any _ _ _ HO.out.isBytes).mono ?_
      rintro y w10 ⟨rfl, hb10⟩
      have hb := below_next hb9 hb10
      clear hb9 hb10 HO
      go_wp2_with fail
      go_ret
      exact ⟨rfl, hb⟩
end Go.Proofs.Ytbgeijdfkdfdoaa
