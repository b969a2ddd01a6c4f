/-
  Walk of the law StateAny.
-/
import Derived.Test.YtpknafidbmnjpaaStN
import Derived.Test.YtpknafidbmnjpaaRow
import Derived.Test.YtpknafidbmnjpaaStQ
namespace Go.Proofs.Ytpknafidbmnjpaa
open Go.RowKit

def Short2End (a : Option Addr) (k cap : Nat) (w : World) (e : Ending) (w' : World) : Prop := w = w' ∧ e = .returned (.slice a k cap)

theorem short2_any (a : Option Addr) (m cap : Nat) (n : Nat) (hn : n ≤ 1000000) (w : World) (hm : m ≤ cap) :
    Calls Try.prog 16 #[.slice a m cap, .int .i64 n] w (Short2End a (min n m) cap w) := by
  by_cases h : n < m
  · have e : min n m = n := by omega
    rw [e]
    clear e
    go_enter Try.func16, Try.ntmps16
    go_wp2
    go_ret
    exact ⟨rfl, rfl⟩
  · have e : min n m = m := by omega
    rw [e]
    clear e
    go_enter Try.func16, Try.ntmps16
    go_wp2
    go_ret
    exact ⟨rfl, rfl⟩

set_option maxRecDepth 100000 in
set_option maxHeartbeats 4000000 in
theorem stateAny_any (vb : Value) (lb : List UInt8) (uv uf : Value) (s : SEnt) (at' x : Int) (w : World) (hvb : IsBytes w vb lb) (hst : IsState w uv uf s) (h2 : (Lit.int .i64 at').wf = true) (h3 : (Lit.int .u8 x).wf = true) :
    Calls Try.prog 4 #[vb, .agg #[uv, uf, .int .i64 s.asks], .int .i64 at', .int .u8 x] w (TrueEnd w) := by
  obtain ⟨a0, a1⟩ := bounds_i64 h2
  obtain ⟨b0, b1⟩ := bounds_u8 h3
  clear h2 h3
  obtain ⟨x, rfl⟩ := Int.eq_ofNat_of_zero_le b0
  have HVB := Lib.hid hvb
  obtain ⟨ab, capb, rfl, hcb1, hcb2, _⟩ := hvb
  obtain ⟨hv, hf, -⟩ := id hst
  obtain ⟨av, capv, rfl, _, _, _⟩ := hv
  obtain ⟨af, capf, rfl, _, _⟩ := hf.slice
  have hbx := Blk.new w #[.slice av s.vals.length capv, .slice af s.frames.length capf, .int .i64 s.asks] 25
  have hb := (Below.refl w.heap.size w).alloc (Nat.le_refl _) (.cells #[.slice av s.vals.length capv, .slice af s.frames.length capf, .int .i64 s.asks] 25)
  have HST := Lib.hid (hst.below hb)
  clear hst hf
  go_enter Try.func4, Try.ntmps4
  go_wp2_with fail
  generalize w.alloc (.cells #[.slice av s.vals.length capv, .slice af s.frames.length capf, .int .i64 s.asks] 25) = w0 at hbx hb HST ⊢
  refine (stateBegun_any _).mono ?_
  rintro y w1 ⟨rfl, hb1⟩
  have hbx := hbx.below hb1 hbx.lt
  have HST := Lib.hid (HST.out.below hb1)
  replace hb := below_next hb hb1
  clear hb1
  go_wp2_with fail
  refine wp_region_last (fun w' => w'.cell? ⟨w.heap.size, 0, none⟩ = some (.slice av s.vals.length capv) ∧ w'.cell? ⟨w.heap.size, 1, none⟩ = some (.slice af s.frames.length capf) ∧ w'.cell? ⟨w.heap.size, 2, none⟩ = some (.int .i64 s.asks)) 5
    [(0, true), (2, true), (1, false), (3, false), (4, true)] (by kernel_rfl) (by kernel_rfl) ⟨hbx.cell 0, hbx.cell 1, hbx.cell 2⟩ ?_
  iterate 2 (first | (apply seg_skip rfl rfl; simp only [Act.put, List.setIfInBounds_toArray, List.set_cons_succ, List.set_cons_zero]) | (apply seg_pure rfl rfl rfl; · (rintro w' ⟨t0, t1, t2⟩; go_wp2; exact ⟨rfl, rfl, rfl⟩)))
  refine seg_loud rfl rfl ?_
  go_wp2_with fail
  refine (short2_any ab lb.length capb 60 (by omega) w1.drew hcb1).mono ?_
  rintro y w2 ⟨rfl, rfl⟩
  go_wp2_with fail
  refine ⟨⟨hbx.cell 0, hbx.cell 1, hbx.cell 2⟩, ?_⟩
  refine seg_loud rfl rfl ?_
  go_wp2_with fail
  refine (cutState_any _ _ s w1.drew (HST.out.below (Below.refl _ _).drew)).mono ?_
  rintro y w2 ⟨uv1, uf1, rfl, hst1, hb2'⟩
  have hb2 : Below w1.heap.size w1 w2 := below_undrew hb2'
  replace hst1 : StateIn w2 w1.heap.size uv1 uf1 s.cut := hst1
  obtain ⟨t, ht⟩ : ∃ t, s.cut = t := ⟨_, rfl⟩
  have hasks : s.asks = t.asks := by rw [← ht]; rfl
  rw [ht] at hst1
  have hbx2 := hbx.below hb2 hbx.lt
  replace hb := below_next hb hb2
  obtain ⟨hv, hf, hok⟩ := hst1.isState
  obtain ⟨av1, capv1, rfl, _, _, _⟩ := hv
  obtain ⟨af1, capf1, rfl, _, _⟩ := hf.slice
  rw [hasks]
  have HOK := Lib.hid hok
  obtain ⟨x0, x1, x2⟩ := hbx2.three
  have z0 := hbx2.free 0
  have z1 := hbx2.free 1
  have z2 := hbx2.free 2
  clear hb2 hb2' hf HST hok ht
  rw [hasks] at x2 hbx2
  go_wp2_with fail
  refine ⟨⟨hbx2.cell 0, hbx2.cell 1, by rw [hasks]; exact hbx2.cell 2⟩, ?_⟩
  iterate 1 (first | (apply seg_skip rfl rfl; simp only [Act.put, List.setIfInBounds_toArray, List.set_cons_succ, List.set_cons_zero]) | (apply seg_pure rfl rfl rfl; · (rintro w' ⟨t0, t1, t2⟩; go_wp2; exact ⟨rfl, rfl, rfl⟩)))
  refine seg_last rfl rfl ?_
  have hx3 := hbx2.set3 (.slice av1 t.vals.length capv1) (.slice af1 t.frames.length capf1) (.int .i64 t.asks)
  have hkx := set3Keeps w2 w.heap.size (.slice av1 t.vals.length capv1) (.slice af1 t.frames.length capf1) (.int .i64 t.asks)
  go_wp2_with fail
  refine ⟨trivial, ?_⟩
  refine NoPanic.normal ?_
  have hst3 := hst1.keeps hkx (fun i h => by have := hbx.lt; omega)
  have hb3 := hb.trans (hkx.below hb.size (fun i h => by omega))
  have hL : IsBytes (((w2.setCell ⟨w.heap.size, 0, none⟩ (.slice av1 t.vals.length capv1)).setCell ⟨w.heap.size, 1, none⟩ (.slice af1 t.frames.length capf1)).setCell ⟨w.heap.size, 2, none⟩ (.int .i64 t.asks)) (.slice ab (min 60 lb.length) capb) (lb.take (min 60 lb.length)) := (HVB.out.take (min 60 lb.length) (by omega)).below hb3
  have hll : (lb.take (min 60 lb.length)).length ≤ 60 := by rw [List.length_take]; omega
  generalize lb.take (min 60 lb.length) = L at hL hll
  generalize min 60 lb.length = m at hL ⊢
  generalize ((w2.setCell ⟨w.heap.size, 0, none⟩ (.slice av1 t.vals.length capv1)).setCell ⟨w.heap.size, 1, none⟩ (.slice af1 t.frames.length capf1)).setCell ⟨w.heap.size, 2, none⟩ (.int .i64 t.asks) = w3 at hx3 hst3 hb3 hL ⊢
  have HL := Lib.hid hL
  have HST := Lib.hid hst3.isState
  replace hb := hb3
  replace hbx := hx3
  clear hx3 hst3 hb3 hL hkx hst1 hbx2 x0 x1 x2 z0 z1 z2 hcb1 hcb2 hasks
  go_wp2_with fail
  refine (tellsS_any _ L _ HL.out (by omega)).mono ?_
  rintro y w4 ⟨rfl, hb'⟩
  have hbx := hbx.below hb' hbx.lt
  have HST := Lib.hid (HST.out.below hb')
  replace hb := below_next hb hb'
  clear hb' HL
  obtain ⟨x0, x1, x2⟩ := hbx.three
  go_wp2_with fail
  refine (encState_any _ _ t w4 HST.out).mono ?_
  rintro y w4' ⟨c, rfl, hb', hc⟩
  have hbx := hbx.below hb' hbx.lt
  have HST := Lib.hid (HST.out.below hb')
  replace hb := below_next hb hb'
  clear x0 x1 x2
  obtain ⟨x0, x1, x2⟩ := hbx.three
  rcases hc with ⟨hm, ho⟩ | ⟨hm, rfl⟩
  rotate_left
  · clear hb'
    go_wp2_with fail
    refine (lawMayS_any _ _ t _ HST.out).mono ?_
    rintro y w5 ⟨rfl, hb5⟩
    rw [decide_eq_false hm]
    replace hb := below_next hb hb5
    clear hb5 hm HST x0 x1 x2 hbx
    go_wp2_with fail
    go_ret
    exact ⟨rfl, hb⟩
  have HM := Lib.hid hm
  obtain ⟨n1, n2⟩ := stateB_len hm HOK.out
  obtain ⟨g, cap, rfl, -, -, hcap, hmax, -, -⟩ := ho.open (stateB_ne _)
  have hci := ho.isBytes
  have HCI := Lib.hid hci
  clear hm ho hci hb'
  generalize stateB t = C at HCI n1 n2 hcap
  unfold maxLen at hmax
  have hl0 : ((C.length : Int) == 0) = false := ieq_false (by omega)
  by_cases q : at' < 0
  · have f0 : decide (at' < 0) = true := decide_eq_true q
    go_wp2_with fail
    refine (lawMayS_any _ _ t _ HST.out).mono ?_
    rintro y w5 ⟨rfl, hb5⟩
    rw [decide_eq_true HM.out]
    replace hb := below_next hb hb5
    clear hb5 HST HCI x0 x1 x2
    go_wp2_with fail
    go_ret
    exact ⟨rfl, hb⟩
  have f0 : decide (at' < 0) = false := decide_eq_false q
  obtain ⟨at', rfl⟩ := Int.eq_ofNat_of_zero_le (show 0 ≤ at' by omega)
  go_wp2_with (first | (at_builtin; refine Stop.out ?_))
  change wpList _ _ _ _ _ _
  refine wpList_bytes w4' rfl _ _ rfl rfl w.heap.size (.slice none 0 0) [] rfl (OwnBytes.nil _ _) (.slice (some ⟨g, 0, none⟩) C.length cap) C rfl HCI.out (by simp; omega) hb.size ?_
  intro v5 w5 ho hk5 _
  rw [List.nil_append] at ho
  replace hb := below_next hb (keeps_nil hk5 rfl)
  clear hk5 HCI HST hcap hmax x0 x1 x2 hbx
  obtain ⟨g, cap, rfl, hg1, hg2, hcap, hmax, hcell, hfree⟩ := ho.open (by intro h; rw [h] at n1; simp at n1)
  obtain ⟨n, hn⟩ : ∃ n, n = C.length := ⟨_, rfl⟩
  obtain ⟨k, hk⟩ : ∃ k, k = at' % n := ⟨_, rfl⟩
  have hkn : k < C.length := by rw [← hn, hk]; exact Nat.mod_lt _ (by omega)
  obtain ⟨z, hz⟩ : ∃ z, C[k]? = some z := ⟨_, List.getElem?_eq_getElem hkn⟩
  have hkk : ((at' : Int) % (C.length : Int)) = (k : Int) := by rw [hk, hn]; rfl
  have hc := hcell k z hz
  have hf := hfree k
  have hz8 := z.toNat_lt
  unfold maxLen at hmax
  have HO := Lib.hid ho
  clear hcell hfree hn hk hz ho
  have hxx : bits .xor .u8 (z.toNat : Int) (x : Int) = ((b8 (z.toNat ^^^ x)).toNat : Int) := by
    rw [u8_xor_nat z.toNat x hz8 (by omega), b8_toNat (Nat.xor_lt_two_pow (n := 8) hz8 (by omega))]
  have HX := Lib.hid hxx
  clear hxx
  go_wp2_with fail
  rw [HX.out]
  have hset := HO.out.set k (b8 (z.toNat ^^^ x))
  have hb6 : Below w.heap.size w (w5.setCell ⟨g, k, none⟩ (bv (b8 (z.toNat ^^^ x)))) := hb.setCell hg1 _
  change Calls _ _ _ (w5.setCell ⟨g, k, none⟩ (bv (b8 (z.toNat ^^^ x)))) _
  have hlC : (C.set k (b8 (z.toNat ^^^ x))).length = C.length := List.length_set
  generalize w5.setCell ⟨g, k, none⟩ (bv (b8 (z.toNat ^^^ x))) = w6 at hset hb6 ⊢
  generalize C.set k (b8 (z.toNat ^^^ x)) = D at hset hlC
  rw [← hlC] at hset hkk hkn hl0 n1 n2 hcap ⊢
  clear hlC HX HO hc hf hb hz8
  have HS := Lib.hid hset
  clear hset
  refine (tellsS_any _ D _ HS.out.isBytes (by omega)).mono ?_
  rintro y w7 ⟨rfl, hb7⟩
  have ho := HS.out.below hb7
  have hb := below_next hb6 hb7
  clear HS hb6 hb7
  have hv := ho.isBytes.take k (by omega)
  have hlt : (D.take k).length ≤ 400000 := by rw [List.length_take]; omega
  have HO := Lib.hid ho
  have HV := Lib.hid hv
  have HLT := Lib.hid hlt
  clear ho hv hlt
  go_wp2_with fail
  refine (tellsS_any _ (D.take k) _ HV.out HLT.out).mono ?_
  rintro y w8 ⟨rfl, hb8⟩
  have ho := HO.out.below hb8
  replace hb := below_next hb hb8
  clear HV HO hb8
  go_wp2_with (first | (at_builtin; refine Stop.out ?_))
  change wpList _ _ _ _ _ _
  refine wpList_unguard rfl ?_
  refine wpList_byte w8 rfl _ _ rfl rfl w.heap.size (.slice (some ⟨g, 0, none⟩) D.length cap) D rfl ho (b8 x) _ ?_ rfl ?_ ?_ ?_
  · rw [b8_toNat (by omega)]
  · omega
  · exact hb.size
  · intro v' w9 ho9 hk9 _
    have hb9 := hb.trans (hk9.below hb.size (fun i hi => (own_lt ho hi).1))
    clear ho hk9 hb
    have HO := Lib.hid ho9
    clear ho9
    go_wp2_with fail
    refine (tellsS_any _ _ _ HO.out.isBytes (by simp; omega)).mono ?_
    rintro y w10 ⟨rfl, hb10⟩
    have hb := below_next hb9 hb10
    clear hb9 hb10 HO
    go_wp2_with fail
    go_ret
    exact ⟨rfl, hb⟩
end Go.Proofs.Ytpknafidbmnjpaa
