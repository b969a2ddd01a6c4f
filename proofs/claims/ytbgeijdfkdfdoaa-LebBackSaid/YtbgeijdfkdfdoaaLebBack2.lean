/-
  The walk of the law LebBack.
-/
import Derived.Test.YtbgeijdfkdfdoaaLebBack
import Derived.Test.YtbgeijdfkdfdoaaLebR3
namespace Go.Proofs.Ytbgeijdfkdfdoaa
open Go.RowKit

theorem bs_app (l m : List UInt8) : bs l ++ bs m = bs (l ++ m) := by
  apply ByteArray.ext
  simp [bs]

theorem bs_size (l : List UInt8) : (bs l).size = l.length := by simp [bs, ByteArray.size]

/-- What holds when the two numbers have been written. -/
def BackS (a b v0 v1 : Value) (A R P Q : List UInt8) (w0 w : World) : Prop :=
  Below w0.heap.size w0 w ∧ IsBytes w a (A ++ P) ∧ IsBytes w b (A ++ Q) ∧ IsBytes w v0 A ∧ IsBytes w v1 R

theorem BackS.below {a b v0 v1 : Value} {A R P Q : List UInt8} {w0 w w' : World} (h : BackS a b v0 v1 A R P Q w0 w) (hb : Below w.heap.size w w') : BackS a b v0 v1 A R P Q w0 w' :=
  ⟨h.1.trans (hb.mono h.1.size), h.2.1.below hb, h.2.2.1.below hb, h.2.2.2.1.below hb, h.2.2.2.2.below hb⟩


set_option maxRecDepth 1000000 in
set_option maxHeartbeats 4000000 in
theorem back_any (b0 : Value) (l0 : List UInt8) (b1 : Value) (l1 : List UInt8) (u : Nat) (n : Int) (bits : Int) (w : World) (h0 : IsBytes w b0 l0) (h1 : IsBytes w b1 l1) (hu : u < 18446744073709551616)
    (hn1 : -9223372036854775808 ≤ n) (hn2 : n ≤ 9223372036854775807) (hb1 : -9223372036854775808 ≤ bits) (hb2 : bits ≤ 9223372036854775807) :
    Calls Try.prog 3 #[b0, b1, .int .u64 u, .int .i64 n, .int .i64 bits] w (TrueEnd w) := by
  go_enter Try.func3, Try.ntmps3
  go_wp2_with fail
  refine (begun_any _).mono ?_
  rintro e w1 ⟨rfl, hb⟩
  replace h0 := h0.below hb
  replace h1 := h1.below hb
  go_wp2_with fail
  refine (short_any b0 l0 10 (by omega) w1 h0).mono ?_
  rintro e w2 ⟨rfl, v0, rfl, hv0⟩
  go_wp2_with fail
  refine (short_any b1 l1 10 (by omega) w1 h1).mono ?_
  rintro e w2 ⟨rfl, v1, rfl, hv1⟩
  have hA : (l0.take 10).length ≤ 10 := List.length_take_le _ _
  have hR : (l1.take 10).length ≤ 10 := List.length_take_le _ _
  generalize l0.take 10 = A at hv0 hA
  generalize l1.take 10 = R at hv1 hR
  clear h0 h1
  go_wp2_with (first | (at_builtin; refine Stop.out ?_))
  change wpList _ _ _ _ _ _
  refine wpList_bytes w1 rfl _ _ rfl rfl w1.heap.size _ [] rfl (OwnBytes.nil _ _) v0 A rfl hv0 (by simp; omega) (Nat.le_refl _) ?_
  intro c0 w2 hc0 hk2 _
  have h12 := keeps_nil hk2 rfl
  rw [List.nil_append] at hc0
  go_wp2_with fail
  refine (putU_any c0 A u hu w1.heap.size w2 hc0 (by omega) h12.size).mono ?_
  rintro e w3 ⟨a, rfl, ha, hk3, _⟩
  have h13 : Below w1.heap.size w1 w3 := h12.trans (hk3.below h12.size (fun i hi => (own_lt hc0 hi).1))
  have ia := ha.isBytes
  replace hb := below_next hb h13
  replace hv0 := hv0.below h13
  replace hv1 := hv1.below h13
  clear hc0 hk2 hk3 h12 h13 ha
  go_wp2_with (first | (at_builtin; refine Stop.out ?_))
  change wpList _ _ _ _ _ _
  refine wpList_bytes w3 rfl _ _ rfl rfl w3.heap.size _ [] rfl (OwnBytes.nil _ _) v0 A rfl hv0 (by simp; omega) (Nat.le_refl _) ?_
  intro c1 w4 hc1 hk4 _
  have h34 := keeps_nil hk4 rfl
  rw [List.nil_append] at hc1
  go_wp2_with fail
  refine (putS_any c1 A n hn1 hn2 w3.heap.size w4 hc1 (by omega) h34.size).mono ?_
  rintro e w5 ⟨b, rfl, hbb, hk5, _⟩
  have h35 : Below w3.heap.size w3 w5 := h34.trans (hk5.below h34.size (fun i hi => (own_lt hc1 hi).1))
  have hST : BackS a b v0 v1 A R (putU u) (putS n) w w5 := ⟨below_next hb h35, ia.below h35, hbb.isBytes, hv0.below h35, hv1.below h35⟩
  clear hc1 hk4 hk5 h34 h35 hbb ia hb hv0 hv1
  generalize hP : putU u = P at hST
  generalize hQ : putS n = Q at hST
  have HP := Lib.hid hP
  have HQ := Lib.hid hQ
  have hPl : P.length ≤ 10 := by rw [← hP]; exact (putU_len u).2
  have hQl : Q.length ≤ 10 := by
    obtain ⟨p, z, e1, _, _, e4⟩ := putSF_shape 9 n (by omega) (by omega)
    change putS n = p ++ [z] at e1
    rw [← hQ, e1]
    simp
    omega
  clear hP hQ
  have q1 := bs_toList (A ++ P)
  have q2 := bs_toList (A ++ Q)
  have r1 := run_str (w := w5.drew) hST.2.1
  have r2 := run_str (w := w5.drew) hST.2.2.2.1
  have r3 := run_str (w := w5.drew) hST.2.2.1
  have R123 := Lib.hid (And.intro r1 (And.intro r2 r3))
  clear r1 r2 r3
  have s1 : (bs A).size + (bs P).size ≤ 9223372036854775807 := by rw [bs_size, bs_size]; omega
  have s2 : (bs A).size + (bs Q).size ≤ 9223372036854775807 := by rw [bs_size, bs_size]; omega
  have e1 : ((bs (A ++ P)).toList == (bs A ++ bs P).toList) = true := by rw [bs_app]; exact beq_self_eq_true _
  have e2 : ((bs (A ++ Q)).toList == (bs A ++ bs Q).toList) = true := by rw [bs_app]; exact beq_self_eq_true _
  clear q1 q2
  have HST := Lib.hid hST
  clear hST
  go_wp2_with fail
  refine wp_region_seq (fun w' => (convert 22 9 a).run Try.prog w' = .ok (.string (bs (A ++ P))) w' ∧ (convert 22 9 v0).run Try.prog w' = .ok (.string (bs A)) w' ∧ (convert 22 9 b).run Try.prog w' = .ok (.string (bs (A ++ Q))) w')
    [(0, true), (1, true), (2, true), (3, true), (4, true), (5, false), (6, false), (7, true), (8, true), (9, true), (10, true), (11, true), (12, true), (13, true), (14, true), (15, false), (16, false), (17, true), (18, true), (19, true)] (by kernel_rfl) (by kernel_rfl) R123.out ?_
  clear R123
  iterate 5 (first | (apply seg_skip rfl rfl; simp only [Act.put, List.setIfInBounds_toArray, List.set_cons_succ, List.set_cons_zero]) | (apply seg_pure rfl rfl rfl; · (rintro w' ⟨t1, t2, t3⟩; go_wp2; exact ⟨rfl, rfl, rfl⟩)))
  refine seg_loud rfl rfl ?_
  go_wp2_with fail
  refine (refU_any u hu w5.drew).mono ?_
  rintro e w6 ⟨x1, rfl, hx1, hb6⟩
  have hST := HST.out.below (below_undrew hb6)
  have R6 := Lib.hid (And.intro (run_str hST.2.1) (And.intro (run_str hST.2.2.2.1) (run_str hST.2.2.1)))
  have HST6 := Lib.hid hST
  clear hST HST hb6
  rw [HP.out] at hx1
  go_wp2_with fail
  refine ⟨R6.out, ?_⟩
  refine seg_loud rfl rfl ?_
  have rx := run_str hx1.isBytes
  go_wp2_with fail
  refine ⟨R6.out, ?_⟩
  clear rx hx1
  iterate 8 (first | (apply seg_skip rfl rfl; simp only [Act.put, List.setIfInBounds_toArray, List.set_cons_succ, List.set_cons_zero]) | (apply seg_pure rfl rfl rfl; · (rintro w' ⟨t1, t2, t3⟩; go_wp2; exact ⟨rfl, rfl, rfl⟩)))
  refine seg_loud rfl rfl ?_
  go_wp2_with fail
  refine (refS_any n hn1 hn2 w6).mono ?_
  rintro e w7 ⟨x2, rfl, hx2, hb7⟩
  have hST := HST6.out.below hb7
  have R7 := Lib.hid (And.intro (run_str hST.2.1) (And.intro (run_str hST.2.2.2.1) (run_str hST.2.2.1)))
  clear HST6 R6 hb7
  rw [HQ.out] at hx2
  go_wp2_with fail
  refine ⟨R7.out, ?_⟩
  refine seg_loud rfl rfl ?_
  have rx := run_str hx2.isBytes
  have HST := Lib.hid hST
  clear hST
  go_wp2_with fail
  refine ⟨R7.out, ?_⟩
  clear rx hx2 R7
  iterate 3 (first | (apply seg_skip rfl rfl; simp only [Act.put, List.setIfInBounds_toArray, List.set_cons_succ, List.set_cons_zero]) | (apply seg_pure rfl rfl rfl; · (rintro w' ⟨t1, t2, t3⟩; go_wp2; exact ⟨rfl, rfl, rfl⟩)))
  refine seg_nil ?_
  refine NoPanic.normal ?_
  clear s1 s2 e1 e2
  have hST := HST.out
  clear HST
  have hpq1 : (A ++ P).length ≤ 20 := by simp; omega
  have hpq2 : (A ++ Q).length ≤ 20 := by simp; omega
  have hle1 : (A ++ P).length = A.length + P.length := by simp
  have hle2 : (A ++ Q).length = A.length + Q.length := by simp
  obtain ⟨hb, ia, ib, i0, i1⟩ := hST
  generalize hLA : A ++ P = LA at ia hpq1 hle1
  generalize hLB : A ++ Q = LB at ib hpq2 hle2
  obtain ⟨aa, ca, rfl, -, -, -⟩ := id ia
  obtain ⟨ba, cb, rfl, -, -, -⟩ := id ib
  obtain ⟨xa, cx, rfl, -, -, -⟩ := id i0
  obtain ⟨a2, ca2, hra, hia⟩ := slice_app hLA.symm aa ca
  obtain ⟨b2, cb2, hrb, hib⟩ := slice_app hLB.symm ba cb
  have HIA := Lib.hid hia
  have HIB := Lib.hid hib
  have l1 : ((P.length : Int) != (LA.length : Int) - (A.length : Int)) = false := ine_false (by omega)
  have l2 : ((Q.length : Int) != (LB.length : Int) - (A.length : Int)) = false := ine_false (by omega)
  have HL1 := Lib.hid hle1
  have HL2 := Lib.hid hle2
  clear hia hib hLA hLB hle1 hle2
  have hu64 : uRes 64 (P ++ R) = (u, P.length, 0) := by rw [← HP.out]; exact uRes_put u R hu
  have hs64 : sRes 64 (Q ++ R) = (n, Q.length, 0) := by rw [← HQ.out]; exact sRes_put n R hn1 hn2
  have HU := Lib.hid hu64
  have HS := Lib.hid hs64
  clear hu64 hs64
  go_wp2_with (first | (at_builtin; refine Stop.out ?_))
  change wpList _ _ _ _ _ _
  refine wpList_bytes w7 rfl _ _ rfl rfl w7.heap.size _ [] rfl (OwnBytes.nil _ _) _ P rfl (HIA.out w7 ia) (by simp; omega) (Nat.le_refl _) ?_
  intro d1 w8 hd1 hk8 _
  have h78 := keeps_nil hk8 rfl
  rw [List.nil_append] at hd1
  go_wp2_with (first | (at_builtin; refine Stop.out ?_))
  change wpList _ _ _ _ _ _
  refine wpList_bytes w8 rfl _ _ rfl rfl w7.heap.size d1 P rfl hd1 _ R rfl (i1.below h78) (by omega) h78.size ?_
  intro d2 w9 hd2 hk9 _
  have h79 : Below w7.heap.size w7 w9 := h78.trans (hk9.below h78.size (fun i hi => (own_lt hd1 hi).1))
  go_wp2_with fail
  refine (U_any d2 _ 64 w9 hd2.isBytes (by omega) (by omega)).mono ?_
  rintro e w10 ⟨rfl, hb10⟩
  rw [HU.out]
  have h710 := below_next h79 hb10
  replace hb := below_next hb h710
  replace ia := ia.below h710
  replace ib := ib.below h710
  replace i1 := i1.below h710
  clear hd1 hk8 hd2 hk9 h78 h79 hb10 h710 HU i0
  go_wp2_with (first | (at_builtin; refine Stop.out ?_))
  change wpList _ _ _ _ _ _
  refine wpList_bytes w10 rfl _ _ rfl rfl w10.heap.size _ [] rfl (OwnBytes.nil _ _) _ Q rfl (HIB.out w10 ib) (by simp; omega) (Nat.le_refl _) ?_
  intro d1 w8 hd1 hk8 _
  have h78 := keeps_nil hk8 rfl
  rw [List.nil_append] at hd1
  go_wp2_with (first | (at_builtin; refine Stop.out ?_))
  change wpList _ _ _ _ _ _
  refine wpList_bytes w8 rfl _ _ rfl rfl w10.heap.size d1 Q rfl hd1 _ R rfl (i1.below h78) (by omega) h78.size ?_
  intro d2 w9 hd2 hk9 _
  have h79 : Below w10.heap.size w10 w9 := h78.trans (hk9.below h78.size (fun i hi => (own_lt hd1 hi).1))
  go_wp2_with fail
  refine (S_any d2 _ 64 w9 hd2.isBytes (by omega) (by omega)).mono ?_
  rintro e w11 ⟨rfl, hb11⟩
  rw [HS.out]
  have h710 := below_next h79 hb11
  replace hb := below_next hb h710
  replace ia := ia.below h710
  replace ib := ib.below h710
  clear hd1 hk8 hd2 hk9 h78 h79 hb11 h710 HS i1
  have ip := HIA.out w11 ia
  have iq := HIB.out w11 ib
  clear ia ib
  by_cases c1 : bits < 1
  · go_wp2_with fail
    go_ret
    exact ⟨rfl, hb⟩
  by_cases c2 : 63 < bits
  · go_wp2_with fail
    go_ret
    exact ⟨rfl, hb⟩
  have fu := uRes_fits u bits hu (by omega) (by omega)
  have fs := sRes_fits n bits hn1 hn2 (by omega) (by omega)
  rw [HP.out] at fu
  rw [HQ.out] at fs
  have hp : IntKind.u64.wrap (2 ^ bits.toNat) = ((2 ^ bits.toNat : Nat) : Int) := by
    have g1 : (2 : Nat) ^ bits.toNat ≤ 2 ^ 63 := Nat.pow_le_pow_right (by omega) (by omega)
    have g2 : ((2 : Int) ^ bits.toNat) = ((2 ^ bits.toNat : Nat) : Int) := by simp
    rw [g2]
    exact wrap_small _ g1
  obtain ⟨p1, p2⟩ := wrap_pow (bits.toNat - 1) (by omega)
  have HPW := Lib.hid hp
  have P1 := Lib.hid p1
  have P2 := Lib.hid p2
  have FU := Lib.hid fu
  have FSs := Lib.hid fs
  clear hp p1 p2 fu fs
  by_cases cu : u < 2 ^ bits.toNat
  · have cu' : decide ((u : Int) < IntKind.u64.wrap (2 ^ bits.toNat)) = true := by rw [HPW.out]; simp only [decide_eq_true_eq]; exact_mod_cast cu
    have eu : (uRes bits P).2.2 = 0 := by rw [FU.out, if_pos cu]
    have EU := Lib.hid eu
    clear eu cu
    by_cases s1 : -(2 ^ (bits.toNat - 1)) ≤ n
    · have s1' : decide (wrap64 (-2 ^ (bits.toNat - 1)) ≤ n) = true := by rw [P2.out]; simpa using s1
      by_cases s2 : n < 2 ^ (bits.toNat - 1)
      · have s2' : decide (n < wrap64 (2 ^ (bits.toNat - 1))) = true := by rw [P1.out]; simpa using s2
        have es : (sRes bits Q).2.2 = 0 := by rw [FSs.out, if_pos ⟨s1, s2⟩]
        have ES := Lib.hid es
        clear es s1 s2
        go_wp2_with fail
        refine (U_any _ P bits w11 ip (by omega) (by omega)).mono ?_
        rintro e w12 ⟨rfl, hb12⟩
        rw [EU.out]
        replace hb := below_next hb hb12
        replace iq := iq.below hb12
        go_wp2_with fail
        refine (S_any _ Q bits w12 iq (by omega) (by omega)).mono ?_
        rintro e w13 ⟨rfl, hb13⟩
        rw [ES.out]
        replace hb := below_next hb hb13
        go_wp2_with fail
        go_ret
        exact ⟨rfl, hb⟩
      · have s2' : decide (n < wrap64 (2 ^ (bits.toNat - 1))) = false := by rw [P1.out]; simpa using s2
        have es : (sRes bits Q).2.2 = 1 := by rw [FSs.out, if_neg (fun g => s2 g.2)]
        have ES := Lib.hid es
        clear es s1 s2
        go_wp2_with fail
        refine (U_any _ P bits w11 ip (by omega) (by omega)).mono ?_
        rintro e w12 ⟨rfl, hb12⟩
        rw [EU.out]
        replace hb := below_next hb hb12
        replace iq := iq.below hb12
        go_wp2_with fail
        refine (S_any _ Q bits w12 iq (by omega) (by omega)).mono ?_
        rintro e w13 ⟨rfl, hb13⟩
        rw [ES.out]
        replace hb := below_next hb hb13
        go_wp2_with fail
        go_ret
        exact ⟨rfl, hb⟩
    · have s1' : decide (wrap64 (-2 ^ (bits.toNat - 1)) ≤ n) = false := by rw [P2.out]; simpa using s1
      have es : (sRes bits Q).2.2 = 1 := by rw [FSs.out, if_neg (fun g => s1 g.1)]
      have ES := Lib.hid es
      clear es s1
      go_wp2_with fail
      refine (U_any _ P bits w11 ip (by omega) (by omega)).mono ?_
      rintro e w12 ⟨rfl, hb12⟩
      rw [EU.out]
      replace hb := below_next hb hb12
      replace iq := iq.below hb12
      go_wp2_with fail
      refine (S_any _ Q bits w12 iq (by omega) (by omega)).mono ?_
      rintro e w13 ⟨rfl, hb13⟩
      rw [ES.out]
      replace hb := below_next hb hb13
      go_wp2_with fail
      go_ret
      exact ⟨rfl, hb⟩
  · have cu' : decide ((u : Int) < IntKind.u64.wrap (2 ^ bits.toNat)) = false := by rw [HPW.out]; simp only [decide_eq_false_iff_not]; exact_mod_cast cu
    have eu : (uRes bits P).2.2 = 1 := by rw [FU.out, if_neg cu]
    have EU := Lib.hid eu
    clear eu cu
    by_cases s1 : -(2 ^ (bits.toNat - 1)) ≤ n
    · have s1' : decide (wrap64 (-2 ^ (bits.toNat - 1)) ≤ n) = true := by rw [P2.out]; simpa using s1
      by_cases s2 : n < 2 ^ (bits.toNat - 1)
      · have s2' : decide (n < wrap64 (2 ^ (bits.toNat - 1))) = true := by rw [P1.out]; simpa using s2
        have es : (sRes bits Q).2.2 = 0 := by rw [FSs.out, if_pos ⟨s1, s2⟩]
        have ES := Lib.hid es
        clear es s1 s2
        go_wp2_with fail
        refine (U_any _ P bits w11 ip (by omega) (by omega)).mono ?_
        rintro e w12 ⟨rfl, hb12⟩
        rw [EU.out]
        replace hb := below_next hb hb12
        replace iq := iq.below hb12
        go_wp2_with fail
        refine (S_any _ Q bits w12 iq (by omega) (by omega)).mono ?_
        rintro e w13 ⟨rfl, hb13⟩
        rw [ES.out]
        replace hb := below_next hb hb13
        go_wp2_with fail
        go_ret
        exact ⟨rfl, hb⟩
      · have s2' : decide (n < wrap64 (2 ^ (bits.toNat - 1))) = false := by rw [P1.out]; simpa using s2
        have es : (sRes bits Q).2.2 = 1 := by rw [FSs.out, if_neg (fun g => s2 g.2)]
        have ES := Lib.hid es
        clear es s1 s2
        go_wp2_with fail
        refine (U_any _ P bits w11 ip (by omega) (by omega)).mono ?_
        rintro e w12 ⟨rfl, hb12⟩
        rw [EU.out]
        replace hb := below_next hb hb12
        replace iq := iq.below hb12
        go_wp2_with fail
        refine (S_any _ Q bits w12 iq (by omega) (by omega)).mono ?_
        rintro e w13 ⟨rfl, hb13⟩
        rw [ES.out]
        replace hb := below_next hb hb13
        go_wp2_with fail
        go_ret
        exact ⟨rfl, hb⟩
    · have s1' : decide (wrap64 (-2 ^ (bits.toNat - 1)) ≤ n) = false := by rw [P2.out]; simpa using s1
      have es : (sRes bits Q).2.2 = 1 := by rw [FSs.out, if_neg (fun g => s1 g.1)]
      have ES := Lib.hid es
      clear es s1
      go_wp2_with fail
      refine (U_any _ P bits w11 ip (by omega) (by omega)).mono ?_
      rintro e w12 ⟨rfl, hb12⟩
      rw [EU.out]
      replace hb := below_next hb hb12
      replace iq := iq.below hb12
      go_wp2_with fail
      refine (S_any _ Q bits w12 iq (by omega) (by omega)).mono ?_
      rintro e w13 ⟨rfl, hb13⟩
      rw [ES.out]
      replace hb := below_next hb hb13
      go_wp2_with fail
      go_ret
      exact ⟨rfl, hb⟩

theorem back_row (a0 : Option Addr) (len0 cap0 : Nat) (z0 : List Int) (a1 : Option Addr) (len1 cap1 : Nat) (z1 : List Int) (u n bits : Int) (w : World)
    (w0 : RowIs .u8 w a0 len0 cap0 z0) (w1 : RowIs .u8 w a1 len1 cap1 z1) (w2 : (Lit.int .u64 u).wf = true) (w3 : (Lit.int .i64 n).wf = true) (w4 : (Lit.int .i64 bits).wf = true) :
    Calls Try.prog 3 #[.slice a0 len0 cap0, .slice a1 len1 cap1, .int .u64 u, .int .i64 n, .int .i64 bits] w (TrueEnd w) := by
  obtain ⟨l0, _, h0⟩ := row_bytes w0
  obtain ⟨l1, _, h1⟩ := row_bytes w1
  obtain ⟨g1, g2⟩ := bounds_u64 w2
  obtain ⟨g3, g4⟩ := bounds_i64 w3
  obtain ⟨g5, g6⟩ := bounds_i64 w4
  obtain ⟨u, rfl⟩ := Int.eq_ofNat_of_zero_le g1
  exact back_any _ l0 _ l1 u n bits w h0 h1 (by omega) g3 g4 g5 g6
end Go.Proofs.Ytbgeijdfkdfdoaa
