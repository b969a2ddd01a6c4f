/-
  The law StateAll: which states may be; those go to bytes and back; two have one text just if they are the same. No condition.
-/
import Derived.Test.YtpknafidbmnjpaaStO
namespace Go.Proofs.Ytpknafidbmnjpaa
open Go.RowKit

def Cells3 (X : Nat) (x0 x1 x2 : Value) (w : World) : Prop := w.cell? ⟨X, 0, none⟩ = some x0 ∧ w.cell? ⟨X, 1, none⟩ = some x1 ∧ w.cell? ⟨X, 2, none⟩ = some x2
theorem Blk.cells3 {w : World} {X : Nat} {t : TypeId} {x0 x1 x2 : Value} (h : Blk w X #[x0, x1, x2] t) : Cells3 X x0 x1 x2 w := h.three
def All6 (Xa Xb : Nat) (a0 a1 a2 b0 b1 b2 : Value) (w : World) : Prop := Cells3 Xa a0 a1 a2 w ∧ Cells3 Xb b0 b1 b2 w
def All9 (c : Value) (l : List UInt8) (Xa Xb Xx : Nat) (a0 a1 a2 b0 b1 b2 x0 x1 x2 : Value) (w : World) : Prop :=
  (convert 28 9 c).run Try.prog w = .ok (.string (bs l)) w ∧ Cells3 Xa a0 a1 a2 w ∧ Cells3 Xb b0 b1 b2 w ∧ Cells3 Xx x0 x1 x2 w


set_option maxRecDepth 100000 in
set_option maxHeartbeats 4000000 in
theorem stateAll_any (uva ufa uvb ufb : Value) (sa sb : SEnt) (w : World) (ha : IsState w uva ufa sa) (hb' : IsState w uvb ufb sb) :
    Calls Try.prog 3 #[.agg #[uva, ufa, .int .i64 sa.asks], .agg #[uvb, ufb, .int .i64 sb.asks]] w (TrueEnd w) := by
  obtain ⟨hva, hfa, -⟩ := id ha
  obtain ⟨hvb, hfb, -⟩ := id hb'
  obtain ⟨ava, capva, rfl, _, _, _⟩ := hva
  obtain ⟨afa, capfa, rfl, _, _⟩ := hfa.slice
  obtain ⟨avb, capvb, rfl, _, _, _⟩ := hvb
  obtain ⟨afb, capfb, rfl, _, _⟩ := hfb.slice
  have hb : Below w.heap.size w ((w.alloc (.cells #[.slice ava sa.vals.length capva, .slice afa sa.frames.length capfa, .int .i64 sa.asks] 25)).alloc (.cells #[.slice avb sb.vals.length capvb, .slice afb sb.frames.length capfb, .int .i64 sb.asks] 25)) :=
    ((Below.refl w.heap.size w).alloc (Nat.le_refl _) _).alloc (by simp) _
  have hbx := (Blk.new w #[.slice ava sa.vals.length capva, .slice afa sa.frames.length capfa, .int .i64 sa.asks] 25).alloc (.cells #[.slice avb sb.vals.length capvb, .slice afb sb.frames.length capfb, .int .i64 sb.asks] 25)
  have hby : Blk ((w.alloc (.cells #[.slice ava sa.vals.length capva, .slice afa sa.frames.length capfa, .int .i64 sa.asks] 25)).alloc (.cells #[.slice avb sb.vals.length capvb, .slice afb sb.frames.length capfb, .int .i64 sb.asks] 25)) (w.heap.size + 1) #[.slice avb sb.vals.length capvb, .slice afb sb.frames.length capfb, .int .i64 sb.asks] 25 := by
    have := Blk.new (w.alloc (.cells #[.slice ava sa.vals.length capva, .slice afa sa.frames.length capfa, .int .i64 sa.asks] 25)) #[.slice avb sb.vals.length capvb, .slice afb sb.frames.length capfb, .int .i64 sb.asks] 25
    rw [World.size_alloc] at this
    exact this
  have HSA := Lib.hid (ha.below hb)
  have HSB := Lib.hid (hb'.below hb)
  clear ha hb' hfa hfb
  go_enter Try.func3, Try.ntmps3
  go_wp2_with fail
  generalize ((w.alloc (.cells #[.slice ava sa.vals.length capva, .slice afa sa.frames.length capfa, .int .i64 sa.asks] 25)).alloc (.cells #[.slice avb sb.vals.length capvb, .slice afb sb.frames.length capfb, .int .i64 sb.asks] 25)) = w0 at hb hbx hby HSA HSB ⊢
  obtain ⟨Xb, hXb⟩ : ∃ X, X = w.heap.size + 1 := ⟨_, rfl⟩
  rw [← hXb] at hby ⊢
  have hab : w.heap.size < Xb := by omega
  clear hXb
  have HBA := Lib.hid hbx
  have HBB := Lib.hid hby
  clear hbx hby
  refine (stateBegun_any _).mono ?_
  rintro y w1 ⟨rfl, hb1⟩
  have HSA := Lib.hid (HSA.out.below hb1)
  have HSB := Lib.hid (HSB.out.below hb1)
  have HBA := Lib.hid (HBA.out.below hb1 HBA.out.lt)
  have HBB := Lib.hid (HBB.out.below hb1 HBB.out.lt)
  replace hb := below_next hb hb1
  clear hb1
  obtain ⟨b0, b1, b2⟩ := HBB.out.three
  go_wp2_with fail
  refine wp_region_last (Cells3 Xb (.slice avb sb.vals.length capvb) (.slice afb sb.frames.length capfb) (.int .i64 sb.asks)) 5
    [(2, true), (0, false), (1, false), (3, false), (4, false)] (by kernel_rfl) (by kernel_rfl) HBB.out.cells3 ?_
  clear b0 b1 b2
  iterate 1 (first | (apply seg_skip rfl rfl; simp only [Act.put, List.setIfInBounds_toArray, List.set_cons_succ, List.set_cons_zero]) | (apply seg_pure rfl rfl rfl; · (rintro w' ⟨t0, t1, t2⟩; go_wp2; exact ⟨rfl, rfl, rfl⟩)))
  refine seg_loud rfl rfl ?_
  obtain ⟨a0, a1, a2⟩ := HBA.out.three
  go_wp2_with fail
  refine ⟨HBB.out.cells3, ?_⟩
  refine seg_loud rfl rfl ?_
  clear a0 a1 a2
  go_wp2_with fail
  refine (cutState_any _ _ sa _ (HSA.out.below (Below.refl _ _).drew)).mono ?_
  rintro y w2 ⟨uv1, uf1, rfl, hsa1, hb2'⟩
  have hb2 : Below w1.heap.size w1 w2 := below_undrew hb2'
  replace hsa1 : StateIn w2 w1.heap.size uv1 uf1 sa.cut := hsa1
  obtain ⟨ta, hta⟩ : ∃ t, sa.cut = t := ⟨_, rfl⟩
  have haska : sa.asks = ta.asks := by rw [← hta]; rfl
  rw [hta] at hsa1
  have hsz1 := HBA.out.lt
  have hsz1' := HBB.out.lt
  have HSA := Lib.hid (HSA.out.below hb2)
  have HSB := Lib.hid (HSB.out.below hb2)
  have HBA := Lib.hid (HBA.out.below hb2 HBA.out.lt)
  have HBB := Lib.hid (HBB.out.below hb2 HBB.out.lt)
  replace hb := below_next hb hb2
  rw [haska] at HBA ⊢
  clear hb2' HSA hta haska
  obtain ⟨hv, hf, -⟩ := hsa1.isState
  obtain ⟨av1, capv1, rfl, _, _, _⟩ := hv
  obtain ⟨af1, capf1, rfl, _, _⟩ := hf.slice
  have HSA1 := Lib.hid hsa1
  clear hf hsa1
  go_wp2_with fail
  refine ⟨HBB.out.cells3, ?_⟩
  refine seg_loud rfl rfl ?_
  go_wp2_with fail
  refine (cutState_any _ _ sb _ HSB.out).mono ?_
  rintro y w3 ⟨uv2, uf2, rfl, hsb1, hb3⟩
  obtain ⟨tb, htb⟩ : ∃ t, sb.cut = t := ⟨_, rfl⟩
  have haskb : sb.asks = tb.asks := by rw [← htb]; rfl
  rw [htb] at hsb1
  have hsz2 := hb2.size
  have HBA := Lib.hid (HBA.out.below hb3 HBA.out.lt)
  have HBB := Lib.hid (HBB.out.below hb3 HBB.out.lt)
  replace hb := below_next hb hb3
  have hsa2 := HSA1.out.keeps (Keeps.ofBelow (S := fun _ => False) hb3) (fun i h => h.elim)
  rw [haskb] at HBB ⊢
  have HKB := Lib.hid haskb
  clear HSB htb hb3 HSA1 haskb
  obtain ⟨hv, hf, -⟩ := hsb1.isState
  obtain ⟨av2, capv2, rfl, _, _, _⟩ := hv
  obtain ⟨af2, capf2, rfl, _, _⟩ := hf.slice
  have HSB1 := Lib.hid hsb1
  have HSA1 := Lib.hid hsa2
  clear hf hsb1 hsa2 hb2
  obtain ⟨a0, a1, a2⟩ := HBA.out.three
  have z0 := HBA.out.free 0
  have z1 := HBA.out.free 1
  have z2 := HBA.out.free 2
  have hk1 := set3Keeps w3 w.heap.size (.slice av1 ta.vals.length capv1) (.slice af1 ta.frames.length capf1) (.int .i64 ta.asks)
  have hba4 := HBA.out.set3 (.slice av1 ta.vals.length capv1) (.slice af1 ta.frames.length capf1) (.int .i64 ta.asks)
  have hbb4 := HBB.out.keeps hk1 (by omega)
  have hsa4 := HSA1.out.keeps hk1 (fun i h => by omega)
  have hsb4 := HSB1.out.keeps hk1 (fun i h => by omega)
  have hb4 := hb.trans (hk1.below hb.size (fun i h => by omega))
  go_wp2_with fail
  refine ⟨by rw [HKB.out]; exact HBB.out.cells3, ?_⟩
  refine seg_loud rfl rfl ?_
  go_wp2_with fail
  clear a0 a1 a2 z0 z1 z2 hb
  generalize ((w3.setCell ⟨w.heap.size, 0, none⟩ (.slice av1 ta.vals.length capv1)).setCell ⟨w.heap.size, 1, none⟩ (.slice af1 ta.frames.length capf1)).setCell ⟨w.heap.size, 2, none⟩ (.int .i64 ta.asks) = w4 at hk1 hba4 hbb4 hsa4 hsb4 hb4 ⊢
  refine ⟨by rw [HKB.out]; exact hbb4.cells3, ?_⟩
  refine seg_last rfl rfl ?_
  obtain ⟨b0, b1, b2⟩ := hbb4.three
  have z0 := hbb4.free 0
  have z1 := hbb4.free 1
  have z2 := hbb4.free 2
  have hk2 := set3Keeps w4 Xb (.slice av2 tb.vals.length capv2) (.slice af2 tb.frames.length capf2) (.int .i64 tb.asks)
  have hba5 := hba4.keeps hk2 (by omega)
  have hbb5 := hbb4.set3 (.slice av2 tb.vals.length capv2) (.slice af2 tb.frames.length capf2) (.int .i64 tb.asks)
  have hsa5 := hsa4.keeps hk2 (fun i h => by omega)
  have hsb5 := hsb4.keeps hk2 (fun i h => by omega)
  have hb5 := hb4.trans (hk2.below hb4.size (fun i h => by omega))
  go_wp2_with fail
  refine ⟨trivial, ?_⟩
  refine NoPanic.normal ?_
  clear b0 b1 b2 z0 z1 z2
  generalize ((w4.setCell ⟨Xb, 0, none⟩ (.slice av2 tb.vals.length capv2)).setCell ⟨Xb, 1, none⟩ (.slice af2 tb.frames.length capf2)).setCell ⟨Xb, 2, none⟩ (.int .i64 tb.asks) = w5 at hk2 hba5 hbb5 hsa5 hsb5 hb5 ⊢
  have HSA := Lib.hid hsa5.isState
  have HSB := Lib.hid hsb5.isState
  clear HBA HBB
  have HBA := Lib.hid hba5
  have HBB := Lib.hid hbb5
  have hb := hb5
  clear hsa5 hsb5 hba5 hbb5 hb5 hb4 hsa4 hsb4 hba4 hbb4 hk1 hk2 HSA1 HSB1 HKB
  obtain ⟨a0, a1, a2⟩ := HBA.out.three
  go_wp2_with fail
  refine (encState_any _ _ ta w5 HSA.out).mono ?_
  rintro y w6 ⟨c, rfl, hb6, hc⟩
  have HC : Hid (ta.may → IsBytes w6 c (stateB ta)) := Lib.hid (fun h => by
    rcases hc with ⟨_, h1⟩ | ⟨h1, _⟩
    · exact h1.isBytes
    · exact absurd h h1)
  have HCN : Hid (¬ ta.may → c = .slice none 0 0) := Lib.hid (fun h => by
    rcases hc with ⟨h1, _⟩ | ⟨_, h1⟩
    · exact absurd h1 h
    · exact h1)
  clear hc a0 a1 a2
  have HSA := Lib.hid (HSA.out.below hb6)
  have HSB := Lib.hid (HSB.out.below hb6)
  have HBA := Lib.hid (HBA.out.below hb6 HBA.out.lt)
  have HBB := Lib.hid (HBB.out.below hb6 HBB.out.lt)
  replace hb := below_next hb hb6
  clear hb6
  obtain ⟨a0, a1, a2⟩ := HBA.out.three
  obtain ⟨b0, b1, b2⟩ := HBB.out.three
  obtain ⟨r0, hr0⟩ : ∃ r, decide ta.may = r := ⟨_, rfl⟩
  have HR0 := Lib.hid hr0
  clear hr0
  have f0 : (r0 != r0) = false := bne_self_eq_false _
  go_wp2_with fail
  refine wp_region_seq (All6 w.heap.size Xb (.slice av1 ta.vals.length capv1) (.slice af1 ta.frames.length capf1) (.int .i64 ta.asks) (.slice av2 tb.vals.length capv2) (.slice af2 tb.frames.length capf2) (.int .i64 tb.asks))
    [(0, true), (2, true), (1, false), (3, false), (4, true), (5, true), (6, true), (7, true), (9, true), (10, true), (8, false), (11, false), (12, true), (13, true)] (by kernel_rfl) (by kernel_rfl) ⟨HBA.out.cells3, HBB.out.cells3⟩ ?_
  clear a0 a1 a2 b0 b1 b2
  iterate 2 (first | (apply seg_skip rfl rfl; simp only [Act.put, List.setIfInBounds_toArray, List.set_cons_succ, List.set_cons_zero]) | (apply seg_pure rfl rfl rfl; · (rintro w' ⟨⟨t0, t1, t2⟩, t3, t4, t5⟩; go_wp2; exact ⟨rfl, rfl, rfl⟩)))
  refine seg_loud rfl rfl ?_
  go_wp2_with fail
  refine (mayState_any _ _ ta _ (HSA.out.below (Below.refl _ _).drew)).mono ?_
  rintro y w7 ⟨rfl, hb7'⟩
  have hb7 := below_undrew hb7'
  rw [HR0.out]
  clear hb7'
  have HC := Lib.hid (fun h => (HC.out h).below hb7)
  have HSA := Lib.hid (HSA.out.below hb7)
  have HSB := Lib.hid (HSB.out.below hb7)
  have HBA := Lib.hid (HBA.out.below hb7 HBA.out.lt)
  have HBB := Lib.hid (HBB.out.below hb7 HBB.out.lt)
  replace hb := below_next hb hb7
  clear hb7
  go_wp2_with fail
  refine ⟨⟨HBA.out.cells3, HBB.out.cells3⟩, ?_⟩
  refine seg_loud rfl rfl ?_
  go_wp2_with fail
  refine (lawMayS_any _ _ ta _ HSA.out).mono ?_
  rintro y w8 ⟨rfl, hb8⟩
  rw [HR0.out]
  have HC := Lib.hid (fun h => (HC.out h).below hb8)
  have HSA := Lib.hid (HSA.out.below hb8)
  have HSB := Lib.hid (HSB.out.below hb8)
  have HBA := Lib.hid (HBA.out.below hb8 HBA.out.lt)
  have HBB := Lib.hid (HBB.out.below hb8 HBB.out.lt)
  replace hb := below_next hb hb8
  clear hb8
  go_wp2_with fail
  refine ⟨⟨HBA.out.cells3, HBB.out.cells3⟩, ?_⟩
  iterate 6 (first | (apply seg_skip rfl rfl; simp only [Act.put, List.setIfInBounds_toArray, List.set_cons_succ, List.set_cons_zero]) | (apply seg_pure rfl rfl rfl; · (rintro w' ⟨⟨t0, t1, t2⟩, t3, t4, t5⟩; go_wp2; exact ⟨rfl, rfl, rfl⟩)))
  refine seg_loud rfl rfl ?_
  go_wp2_with fail
  refine (eqState_any _ _ _ _ ta tb _ HSA.out HSB.out).mono ?_
  rintro y w9 ⟨r, rfl, hr, hb9⟩
  have HQ1 := Lib.hid hr
  clear hr
  have HC := Lib.hid (fun h => (HC.out h).below hb9)
  have HSA := Lib.hid (HSA.out.below hb9)
  have HSB := Lib.hid (HSB.out.below hb9)
  have HBA := Lib.hid (HBA.out.below hb9 HBA.out.lt)
  have HBB := Lib.hid (HBB.out.below hb9 HBB.out.lt)
  replace hb := below_next hb hb9
  clear hb9
  go_wp2_with fail
  refine ⟨⟨HBA.out.cells3, HBB.out.cells3⟩, ?_⟩
  refine seg_loud rfl rfl ?_
  go_wp2_with fail
  refine (lawEqS_any _ _ _ _ ta tb _ HSA.out HSB.out).mono ?_
  rintro y w10 ⟨r2, rfl, hr2, hb10⟩
  obtain rfl : r2 = r := by
    rcases Bool.eq_false_or_eq_true r with h | h <;> rcases Bool.eq_false_or_eq_true r2 with h2 | h2
    · rw [h, h2]
    · exact absurd (hr2.2 (HQ1.out.1 h)) (by rw [h2]; simp)
    · exact absurd (HQ1.out.2 (hr2.1 h2)) (by rw [h]; simp)
    · rw [h, h2]
  clear hr2 HQ1
  have HC := Lib.hid (fun h => (HC.out h).below hb10)
  have HSA := Lib.hid (HSA.out.below hb10)
  have HSB := Lib.hid (HSB.out.below hb10)
  have HBA := Lib.hid (HBA.out.below hb10 HBA.out.lt)
  have HBB := Lib.hid (HBB.out.below hb10 HBB.out.lt)
  replace hb := below_next hb hb10
  clear hb10
  have f1 : (r2 != r2) = false := bne_self_eq_false _
  go_wp2_with fail
  refine ⟨⟨HBA.out.cells3, HBB.out.cells3⟩, ?_⟩
  iterate 2 (first | (apply seg_skip rfl rfl; simp only [Act.put, List.setIfInBounds_toArray, List.set_cons_succ, List.set_cons_zero]) | (apply seg_pure rfl rfl rfl; · (rintro w' ⟨⟨t0, t1, t2⟩, t3, t4, t5⟩; go_wp2; exact ⟨rfl, rfl, rfl⟩)))
  refine seg_nil ?_
  refine NoPanic.normal ?_
  obtain ⟨a0, a1, a2⟩ := HBA.out.three
  go_wp2_with fail
  refine (lawMayS_any _ _ ta _ HSA.out).mono ?_
  rintro y w11 ⟨rfl, hb11⟩
  clear a0 a1 a2 f0 f1
  have HC := Lib.hid (fun h => (HC.out h).below hb11)
  have HSA := Lib.hid (HSA.out.below hb11)
  have HSB := Lib.hid (HSB.out.below hb11)
  have HBA := Lib.hid (HBA.out.below hb11 HBA.out.lt)
  have HBB := Lib.hid (HBB.out.below hb11 HBB.out.lt)
  replace hb := below_next hb hb11
  clear hb11
  by_cases hm : ta.may
  rotate_left
  · rw [decide_eq_false hm]
    obtain rfl := HCN.out hm
    clear hm
    go_wp2_with fail
    go_ret
    exact ⟨rfl, hb⟩
  rw [decide_eq_true hm]
  have HM := Lib.hid hm
  have HC := Lib.hid (HC.out hm)
  obtain ⟨n1, n2⟩ := stateB_len hm HSA.out.2.2
  clear hm HR0 HCN
  go_wp2_with fail
  refine (decState_any _ _ _ HC.out (by omega)).mono ?_
  rintro y w2' ⟨hb2, uvx, ufx, sx, err, rfl, hstx, hd⟩
  rcases hd with ⟨rfl, hm2, heq⟩ | ⟨-, -, h⟩
  rotate_left
  · exact absurd ⟨_, HM.out, HSA.out.2.2, rfl⟩ h
  obtain rfl := stateB_inj hm2 hstx.2.2 HM.out HSA.out.2.2 heq
  obtain ⟨hv, hf, -⟩ := id hstx
  obtain ⟨avx, capvx, rfl, _, _, _⟩ := hv
  obtain ⟨afx, capfx, rfl, _, _⟩ := hf.slice
  have hbx := Blk.new w2' #[.slice avx sx.vals.length capvx, .slice afx sx.frames.length capfx, .int .i64 sx.asks] 25
  have hal := (Below.refl w2'.heap.size w2').alloc (Nat.le_refl _) (.cells #[.slice avx sx.vals.length capvx, .slice afx sx.frames.length capfx, .int .i64 sx.asks] 25)
  have hb2x := below_next hb2 hal
  have HC := Lib.hid (HC.out.below hb2x)
  have HSA := Lib.hid (HSA.out.below hb2x)
  have HSB := Lib.hid (HSB.out.below hb2x)
  have HBA := Lib.hid (HBA.out.below hb2x HBA.out.lt)
  have HBB := Lib.hid (HBB.out.below hb2x HBB.out.lt)
  replace hb := below_next hb hb2x
  have HSX := Lib.hid (hstx.below hal)
  clear hb2 hb2x hal hf hstx hm2 heq n1 n2
  go_wp2_with fail
  obtain ⟨Xx, hXx⟩ : ∃ X, X = w2'.heap.size := ⟨_, rfl⟩
  rw [← hXx] at hbx ⊢
  clear hXx
  generalize w2'.alloc (.cells #[.slice avx sx.vals.length capvx, .slice afx sx.frames.length capfx, .int .i64 sx.asks] 25) = w12 at hbx HC HSA HSB HBA HBB hb HSX ⊢
  have HBX := Lib.hid hbx
  clear hbx
  refine wp_region_ord (All9 c (stateB sx) w.heap.size Xb Xx (.slice av1 sx.vals.length capv1) (.slice af1 sx.frames.length capf1) (.int .i64 sx.asks) (.slice av2 tb.vals.length capv2) (.slice af2 tb.frames.length capf2) (.int .i64 tb.asks)
      (.slice avx sx.vals.length capvx) (.slice afx sx.frames.length capfx) (.int .i64 sx.asks)) (ord [(0, true), (1, true), (2, true), (3, true), (4, true), (5, false), (6, true), (7, true), (8, true), (9, false),
      (10, true), (11, true), (12, true), (15, true), (16, true), (18, true), (19, true), (13, false)] (.fork 14 20 (ord [(17, true), (20, false), (21, true), (22, true), (23, true), (24, true)] .nil)
        (ord [(14, false), (17, true), (21, true), (22, true), (23, true), (24, true)] .nil))) (by kernel_rfl) (by kernel_rfl) ⟨run_str (HC.out.below (Below.refl _ _).drew), HBA.out.cells3, HBB.out.cells3, HBX.out.cells3⟩ ?_
  dsimp only [ord]
  iterate 5 (first | (apply ord_skip rfl rfl; simp only [Act.put, List.setIfInBounds_toArray, List.set_cons_succ, List.set_cons_zero]) | (apply ord_pure rfl rfl rfl; · (rintro w' ⟨t0, ⟨t1, t2, t3⟩, ⟨t4, t5, t6⟩, t7, t8, t9⟩; go_wp2; exact ⟨rfl, rfl, rfl⟩)))
  refine ord_loud rfl rfl ?_
  go_wp2_with fail
  refine (lawEqS_any _ _ _ _ sx sx _ (HSX.out.below (Below.refl _ _).drew) (HSA.out.below (Below.refl _ _).drew)).mono ?_
  rintro y w3' ⟨r, rfl, hr, hb3'⟩
  obtain rfl := hr.2 rfl
  have hb3 := below_undrew hb3'
  clear hr HSX hb3'
  have HC := Lib.hid (HC.out.below hb3)
  have HBX := Lib.hid (HBX.out.below hb3 HBX.out.lt)
  have HSA := Lib.hid (HSA.out.below hb3)
  have HSB := Lib.hid (HSB.out.below hb3)
  have HBA := Lib.hid (HBA.out.below hb3 HBA.out.lt)
  have HBB := Lib.hid (HBB.out.below hb3 HBB.out.lt)
  replace hb := below_next hb hb3
  clear hb3
  go_wp2_with fail
  refine ⟨⟨run_str HC.out, HBA.out.cells3, HBB.out.cells3, HBX.out.cells3⟩, ?_⟩
  iterate 3 (first | (apply ord_skip rfl rfl; simp only [Act.put, List.setIfInBounds_toArray, List.set_cons_succ, List.set_cons_zero]) | (apply ord_pure rfl rfl rfl; · (rintro w' ⟨t0, ⟨t1, t2, t3⟩, ⟨t4, t5, t6⟩, t7, t8, t9⟩; go_wp2; exact ⟨rfl, rfl, rfl⟩)))
  refine ord_loud rfl rfl ?_
  go_wp2_with fail
  refine (lawMayS_any _ _ tb _ HSB.out).mono ?_
  rintro y w6' ⟨rfl, hb6⟩
  have HC := Lib.hid (HC.out.below hb6)
  have HBX := Lib.hid (HBX.out.below hb6 HBX.out.lt)
  have HSA := Lib.hid (HSA.out.below hb6)
  have HSB := Lib.hid (HSB.out.below hb6)
  have HBA := Lib.hid (HBA.out.below hb6 HBA.out.lt)
  have HBB := Lib.hid (HBB.out.below hb6 HBB.out.lt)
  replace hb := below_next hb hb6
  clear hb6
  by_cases hmb : tb.may
  rotate_left
  · rw [decide_eq_false hmb]
    clear hmb
    go_wp2_with fail
    refine ⟨⟨run_str HC.out, HBA.out.cells3, HBB.out.cells3, HBX.out.cells3⟩, ?_⟩
    iterate 8 (first | (apply ord_skip rfl rfl; simp only [Act.put, List.setIfInBounds_toArray, List.set_cons_succ, List.set_cons_zero]) | (apply ord_pure rfl rfl rfl; · (rintro w' ⟨t0, ⟨t1, t2, t3⟩, ⟨t4, t5, t6⟩, t7, t8, t9⟩; go_wp2; exact ⟨rfl, rfl, rfl⟩)))
    refine ord_fork_skip rfl rfl rfl rfl ?_ ?_
    · skip
      iterate 6 (first | (apply ord_skip rfl rfl; simp only [Act.put, List.setIfInBounds_toArray, List.set_cons_succ, List.set_cons_zero]) | (apply ord_pure rfl rfl rfl; · (rintro w' ⟨t0, ⟨t1, t2, t3⟩, ⟨t4, t5, t6⟩, t7, t8, t9⟩; go_wp2; exact ⟨rfl, rfl, rfl⟩)))
      refine ord_nil ?_
      refine NoPanic.normal ?_
      go_wp2_with fail
      go_ret
      exact ⟨rfl, hb⟩
    · skip
      iterate 6 (first | (apply ord_skip rfl rfl; simp only [Act.put, List.setIfInBounds_toArray, List.set_cons_succ, List.set_cons_zero]) | (apply ord_pure rfl rfl rfl; · (rintro w' ⟨t0, ⟨t1, t2, t3⟩, ⟨t4, t5, t6⟩, t7, t8, t9⟩; go_wp2; exact ⟨rfl, rfl, rfl⟩)))
      refine ord_nil ?_
      refine NoPanic.normal ?_
      go_wp2_with fail
      go_ret
      exact ⟨rfl, hb⟩
  rw [decide_eq_true hmb]
  have HMB := Lib.hid hmb
  clear hmb
  go_wp2_with fail
  refine ⟨⟨run_str HC.out, HBA.out.cells3, HBB.out.cells3, HBX.out.cells3⟩, ?_⟩
  iterate 7 (first | (apply ord_skip rfl rfl; simp only [Act.put, List.setIfInBounds_toArray, List.set_cons_succ, List.set_cons_zero]) | (apply ord_pure rfl rfl rfl; · (rintro w' ⟨t0, ⟨t1, t2, t3⟩, ⟨t4, t5, t6⟩, t7, t8, t9⟩; go_wp2; exact ⟨rfl, rfl, rfl⟩)))
  refine ord_loud rfl rfl ?_
  go_wp2_with fail
  refine (encState_any _ _ tb _ HSB.out).mono ?_
  rintro y w7' ⟨c2, rfl, hb7, hc2⟩
  rcases hc2 with ⟨-, hc2⟩ | ⟨h, -⟩
  rotate_left
  · exact absurd HMB.out h
  have hcv := run_str hc2.isBytes
  have hc2i := hc2.isBytes
  have HC2 := Lib.hid hc2i
  clear hc2 hc2i
  have HC := Lib.hid (HC.out.below hb7)
  have HBX := Lib.hid (HBX.out.below hb7 HBX.out.lt)
  have HSA := Lib.hid (HSA.out.below hb7)
  have HSB := Lib.hid (HSB.out.below hb7)
  have HBA := Lib.hid (HBA.out.below hb7 HBA.out.lt)
  have HBB := Lib.hid (HBB.out.below hb7 HBB.out.lt)
  replace hb := below_next hb hb7
  clear hb7
  go_wp2_with fail
  refine ⟨⟨run_str HC.out, HBA.out.cells3, HBB.out.cells3, HBX.out.cells3⟩, ?_⟩
  refine ord_fork rfl rfl rfl rfl ?_ ?_
  · go_wp2_with fail
    refine ⟨⟨run_str HC.out, HBA.out.cells3, HBB.out.cells3, HBX.out.cells3⟩, ?_⟩
    clear hcv HC2
    iterate 1 (first | (apply ord_skip rfl rfl; simp only [Act.put, List.setIfInBounds_toArray, List.set_cons_succ, List.set_cons_zero]) | (apply ord_pure rfl rfl rfl; · (rintro w' ⟨t0, ⟨t1, t2, t3⟩, ⟨t4, t5, t6⟩, t7, t8, t9⟩; go_wp2; exact ⟨rfl, rfl, rfl⟩)))
    refine ord_loud rfl rfl ?_
    go_wp2_with fail
    refine (lawEqS_any _ _ _ _ sx tb _ HSA.out HSB.out).mono ?_
    rintro y w8 ⟨r, rfl, hr, hb8⟩
    have hb8' := hb8
    have HC := Lib.hid (HC.out.below hb8')
    have HBX := Lib.hid (HBX.out.below hb8' HBX.out.lt)
    have HSA := Lib.hid (HSA.out.below hb8')
    have HSB := Lib.hid (HSB.out.below hb8')
    have HBA := Lib.hid (HBA.out.below hb8' HBA.out.lt)
    have HBB := Lib.hid (HBB.out.below hb8' HBB.out.lt)
    replace hb := below_next hb hb8'
    clear hb8'
    have hq : ((bs (stateB tb)).toList == (bs (stateB sx)).toList) = r := by
      rw [bs_toList, bs_toList]
      cases r
      · exact beq_eq_false_iff_ne.2 (fun g => by have := hr.2 (stateB_inj HM.out HSA.out.2.2 HMB.out HSB.out.2.2 g.symm); cases this)
      · rw [hr.1 rfl]
        exact beq_self_eq_true _
    clear hr
    cases r
    · skip
      go_wp2_with fail
      refine ⟨⟨run_str HC.out, HBA.out.cells3, HBB.out.cells3, HBX.out.cells3⟩, ?_⟩
      iterate 4 (first | (apply ord_skip rfl rfl; simp only [Act.put, List.setIfInBounds_toArray, List.set_cons_succ, List.set_cons_zero]) | (apply ord_pure rfl rfl rfl; · (rintro w' ⟨t0, ⟨t1, t2, t3⟩, ⟨t4, t5, t6⟩, t7, t8, t9⟩; go_wp2; exact ⟨rfl, rfl, rfl⟩)))
      refine ord_nil ?_
      refine NoPanic.normal ?_
      go_wp2_with fail
      go_ret
      exact ⟨rfl, hb⟩
    · skip
      go_wp2_with fail
      refine ⟨⟨run_str HC.out, HBA.out.cells3, HBB.out.cells3, HBX.out.cells3⟩, ?_⟩
      iterate 4 (first | (apply ord_skip rfl rfl; simp only [Act.put, List.setIfInBounds_toArray, List.set_cons_succ, List.set_cons_zero]) | (apply ord_pure rfl rfl rfl; · (rintro w' ⟨t0, ⟨t1, t2, t3⟩, ⟨t4, t5, t6⟩, t7, t8, t9⟩; go_wp2; exact ⟨rfl, rfl, rfl⟩)))
      refine ord_nil ?_
      refine NoPanic.normal ?_
      go_wp2_with fail
      go_ret
      exact ⟨rfl, hb⟩
  · clear hcv
    go_wp2_with fail
    refine (lawEqS_any _ _ _ _ sx tb _ HSA.out HSB.out).mono ?_
    rintro y w8 ⟨r, rfl, hr, hb8⟩
    have hb8' := hb8
    have HC := Lib.hid (HC.out.below hb8')
    have HBX := Lib.hid (HBX.out.below hb8' HBX.out.lt)
    have HSA := Lib.hid (HSA.out.below hb8')
    have HSB := Lib.hid (HSB.out.below hb8')
    have HBA := Lib.hid (HBA.out.below hb8' HBA.out.lt)
    have HBB := Lib.hid (HBB.out.below hb8' HBB.out.lt)
    replace hb := below_next hb hb8'
    clear hb8'
    have hq : ((bs (stateB tb)).toList == (bs (stateB sx)).toList) = r := by
      rw [bs_toList, bs_toList]
      cases r
      · exact beq_eq_false_iff_ne.2 (fun g => by have := hr.2 (stateB_inj HM.out HSA.out.2.2 HMB.out HSB.out.2.2 g.symm); cases this)
      · rw [hr.1 rfl]
        exact beq_self_eq_true _
    clear hr
    have hc2 := HC2.out.below hb8
    have hcv := run_str hc2
    clear HC2 hc2
    cases r
    · go_wp2_with fail
      refine ⟨⟨run_str HC.out, HBA.out.cells3, HBB.out.cells3, HBX.out.cells3⟩, ?_⟩
      refine ord_loud rfl rfl ?_
      go_wp2_with fail
      refine ⟨⟨run_str HC.out, HBA.out.cells3, HBB.out.cells3, HBX.out.cells3⟩, ?_⟩
      iterate 5 (first | (apply ord_skip rfl rfl; simp only [Act.put, List.setIfInBounds_toArray, List.set_cons_succ, List.set_cons_zero]) | (apply ord_pure rfl rfl rfl; · (rintro w' ⟨t0, ⟨t1, t2, t3⟩, ⟨t4, t5, t6⟩, t7, t8, t9⟩; go_wp2; exact ⟨rfl, rfl, rfl⟩)))
      refine ord_nil ?_
      refine NoPanic.normal ?_
      go_wp2_with fail
      go_ret
      exact ⟨rfl, hb⟩
    · go_wp2_with fail
      refine ⟨⟨run_str HC.out, HBA.out.cells3, HBB.out.cells3, HBX.out.cells3⟩, ?_⟩
      refine ord_loud rfl rfl ?_
      go_wp2_with fail
      refine ⟨⟨run_str HC.out, HBA.out.cells3, HBB.out.cells3, HBX.out.cells3⟩, ?_⟩
      iterate 5 (first | (apply ord_skip rfl rfl; simp only [Act.put, List.setIfInBounds_toArray, List.set_cons_succ, List.set_cons_zero]) | (apply ord_pure rfl rfl rfl; · (rintro w' ⟨t0, ⟨t1, t2, t3⟩, ⟨t4, t5, t6⟩, t7, t8, t9⟩; go_wp2; exact ⟨rfl, rfl, rfl⟩)))
      refine ord_nil ?_
      refine NoPanic.normal ?_
      go_wp2_with fail
      go_ret
      exact ⟨rfl, hb⟩
end Go.Proofs.Ytpknafidbmnjpaa
