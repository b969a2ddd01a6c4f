/-
  Walk of state.Encode: a state's bytes.
-/
import Derived.Test.YtpknafidbmnjpaaStC
namespace Go.Proofs.Ytpknafidbmnjpaa
open Go.RowKit

def EncSEnd (s : SEnt) (w : World) (e : Ending) (w' : World) : Prop :=
  ∃ v, e = .returned v ∧ Below w.heap.size w w' ∧ ((s.may ∧ OwnBytes w' w.heap.size v (stateB s)) ∨ (¬ s.may ∧ v = .slice none 0 0))

def headB (s : SEnt) : List UInt8 := valsB s.vals ++ putU (s.asks + 1).toNat ++ putU s.frames.length
def EncSJ (s : SEnt) (w w' : World) (v : Value) (k : Nat) : Prop :=
  k ≤ s.frames.length ∧ OwnBytes w' (w.heap.size + 1) v (headB s ++ framesB (s.frames.take k)) ∧ Below w.heap.size w w'
def EncSI (L : List UInt8) (labs : List LEnt) (w w' : World) (v : Value) (m : Nat) : Prop :=
  m ≤ labs.length ∧ OwnBytes w' (w.heap.size + 1) v (L ++ ((labs.take m).map labB).flatten) ∧ Below w.heap.size w w'

theorem cells_lt {α : Type} {k : Nat} {enc : α → List Value} {w : World} {a : Option Addr} {n cap : Nat} {l : List α} (h : IsRws k enc w (.slice a n cap) l) : l ≠ [] → ∀ ad, a = some ad → ad.block < w.heap.size := by
  obtain ⟨a', cap', hv, _, _, hc⟩ := h
  injection hv with e1 e2 e3
  subst e1
  intro hne ad ha
  obtain ⟨x, xs, hxs⟩ := List.exists_cons_of_ne_nil hne
  obtain ⟨b1, off1, g1, g2, _⟩ := hc 0 x (by rw [hxs]; rfl)
  rw [ha] at g1
  injection g1 with g1
  rw [g1]
  exact g2


set_option maxRecDepth 100000 in
set_option maxHeartbeats 4000000 in
theorem encState_any (uv uf : Value) (s : SEnt) (w : World) (hst : IsState w uv uf s) :
    Calls Try.prog 10 #[.agg #[uv, uf, .int .i64 s.asks]] w (EncSEnd s w) := by
  have HS := Lib.hid hst
  obtain ⟨hv, hf, ⟨o1, o2⟩, hov, hof⟩ := id hst
  obtain ⟨av, capv, rfl, _, hcv, _⟩ := id hv
  obtain ⟨af, capf, rfl, _, hcf⟩ := hf.slice
  unfold maxLen at hcv
  have HV := Lib.hid hv
  have HF := Lib.hid hf
  have HOV := Lib.hid hov
  have HOF := Lib.hid hof
  clear hv hf hov hof
  have hb0 : Below w.heap.size w (w.alloc (.cells #[.slice av s.vals.length capv, .slice af s.frames.length capf, .int .i64 s.asks] 25)) := (Below.refl _ _).alloc (Nat.le_refl _) _
  have hbx0 := Blk.new w #[.slice av s.vals.length capv, .slice af s.frames.length capf, .int .i64 s.asks] 25
  go_enter Try.func10, Try.ntmps10
  go_wp2_with fail
  refine (mayState_any _ _ s _ (hst.below (hb0.mono (Nat.le_refl _)))).mono ?_
  rintro x w1 ⟨rfl, hbm⟩
  have hbx1 := hbx0.below hbm (by simp)
  have hb1 := hb0.trans (hbm.mono hb0.size)
  have hsz1 := hbm.size
  simp only [World.size_alloc] at hsz1
  clear hbm hbx0 hb0 hst
  by_cases hm : s.may
  rotate_left
  · have hr : decide s.may = false := decide_eq_false hm
    rw [hr]
    have HM := Lib.hid hm
    clear hm hr
    go_wp2_with fail
    go_ret
    exact ⟨_, rfl, hb1, .inr ⟨HM.out, rfl⟩⟩
  have hr : decide s.may = true := decide_eq_true hm
  rw [hr]
  have HM := Lib.hid hm
  obtain ⟨m1, m2, m3, m4, -, -⟩ := hm
  clear hr
  obtain ⟨n0, hn0⟩ : ∃ n : Nat, s.asks + 1 = n := ⟨(s.asks + 1).toNat, by omega⟩
  have hn1 : n0 ≤ 10001 := by omega
  have HN := Lib.hid hn0
  obtain ⟨x0, x1, x2⟩ := hbx1.three
  clear hn0
  have hq : ∀ i, (⟨i, 0, none⟩ : Addr) = ⟨i, 0, none⟩ := fun _ => rfl
  clear hq
  have f0 : s.asks + 1 = (n0 : Int) := HN.out
  go_wp2_with fail
  refine wp_region_seq (fun w' => w'.cell? ⟨w.heap.size, 0, none⟩ = some (.slice av s.vals.length capv) ∧ w'.cell? ⟨w.heap.size, 1, none⟩ = some (.slice af s.frames.length capf) ∧ w'.cell? ⟨w.heap.size, 2, none⟩ = some (.int .i64 s.asks))
    [(0, true), (1, true), (3, true), (4, true), (5, true), (7, true), (8, true), (9, true), (2, false), (6, false), (10, false), (11, true)] (by kernel_rfl) (by kernel_rfl) ⟨x0, x1, x2⟩ ?_
  clear x0 x1 x2
  iterate 8 (first | (apply seg_skip rfl rfl; simp only [Act.put, List.setIfInBounds_toArray, List.set_cons_succ, List.set_cons_zero]) | (apply seg_pure rfl rfl rfl; · (rintro w' ⟨t0, t1, t2⟩; go_wp2; exact ⟨rfl, rfl, rfl⟩)))
  refine seg_loud rfl rfl ?_
  go_wp2_with fail
  have hnx1 : ¬ OwnB (.slice none 0 0) w.heap.size := by simp [OwnB, Value.ownBlock]
  refine (putVals_any (.slice none 0 0) [] _ s.vals (w.heap.size + 1) w1.drew (OwnBytes.nil _ _) (by simp) (by simp; omega) (HV.out.below (hb1.drew.mono (Nat.le_refl _))) HM.out.2.2.2.2.1 HOV.out (by omega) (fun _ i hi => by simp [OwnB, Value.ownBlock] at hi)).mono ?_
  rintro x w2 ⟨v2, rfl, ho2, hk2, hs2⟩
  have hbx2 := hbx1.drew.keeps hk2 hnx1
  have hnx2 : ¬ OwnB v2 w.heap.size := fun h => by have := (own_lt ho2 h).1; omega
  have hb2 : Below w.heap.size w w2 := hb1.drew.trans (hk2.below hb1.size (fun i hi => by simp [OwnB, Value.ownBlock] at hi))
  rw [List.nil_append] at ho2
  clear hk2 hs2 hbx1
  have hl2 : (valsB s.vals).length ≤ 21000 := by
    have g1 := vals_len s.vals HOV.out
    have g2 := (putU_len s.vals.length).2
    simp only [valsB, List.length_append]
    omega
  have hsz2 := hbx2.lt
  go_wp2_with fail
  refine ⟨hbx2.three, ?_⟩
  refine seg_loud rfl rfl ?_
  go_wp2_with fail
  refine (num_any v2 _ n0 (by omega) (w.heap.size + 1) w2 ho2 (by omega) (by omega)).mono ?_
  rintro x w3 ⟨v3, rfl, ho3, hk3, hs3⟩
  have hbx3 := hbx2.keeps hk3 hnx2
  have hnx3 : ¬ OwnB v3 w.heap.size := fun h => (hs3 _ h).elim hnx2 (fun g => by have := hbx2.lt; (try simp at g this); omega)
  have hb3 : Below w.heap.size w w3 := hb2.trans (hk3.below hb2.size (fun i hi => by have := (own_lt ho2 hi).1; omega))
  clear hk3 hs3
  have hl3 := (putU_len n0).2
  have hsz3 := hbx3.lt
  go_wp2_with fail
  refine ⟨hbx3.three, ?_⟩
  refine seg_loud rfl rfl ?_
  go_wp2_with fail
  refine (num_any v3 _ s.frames.length (by omega) (w.heap.size + 1) w3 ho3 (by simp only [List.length_append]; omega) (by omega)).mono ?_
  rintro x w4 ⟨v4, rfl, ho4, hk4, hs4⟩
  have hbx4 := hbx3.keeps hk4 hnx3
  have hnx4 : ¬ OwnB v4 w.heap.size := fun h => (hs4 _ h).elim hnx3 (fun g => by have := hbx3.lt; (try simp at g this); omega)
  have hb4 : Below w.heap.size w w4 := hb3.trans (hk4.below hb3.size (fun i hi => by have := (own_lt ho3 hi).1; omega))
  clear hk4 hs4
  have hl4 := (putU_len s.frames.length).2
  go_wp2_with fail
  refine ⟨hbx4.three, ?_⟩
  iterate 1 (first | (apply seg_skip rfl rfl; simp only [Act.put, List.setIfInBounds_toArray, List.set_cons_succ, List.set_cons_zero]) | (apply seg_pure rfl rfl rfl; · (rintro w' ⟨t0, t1, t2⟩; go_wp2; exact ⟨rfl, rfl, rfl⟩)))
  refine seg_nil ?_
  refine NoPanic.normal ?_
  obtain ⟨x0, x1, x2⟩ := hbx4.three
  have hhead : valsB s.vals ++ putU n0 ++ putU s.frames.length = headB s := by rw [headB, f0]; rfl
  have hlh : (headB s).length ≤ 21020 := by rw [← hhead]; simp only [List.length_append]; omega
  rw [hhead] at ho4
  clear hhead hbx2 hbx3 hbx4 hnx1 hnx2 hnx3 hnx4 ho2 ho3 hb2 hb3 hl2 hl3 hl4 f0
  go_wp2_with fail
  clear x0 x1 x2
  refine wp_loop_r (fun a' w' => ∃ (v : Value) (k : Nat), a' = { tmps := #[slot a' 0, slot a' 1, slot a' 2, v, slot a' 4, slot a' 5, slot a' 6, slot a' 7, slot a' 8, slot a' 9, slot a' 10, slot a' 11, slot a' 12, slot a' 13, slot a' 14, slot a' 15, slot a' 16, slot a' 17, slot a' 18, slot a' 19, slot a' 20, slot a' 21, slot a' 22, .slice af s.frames.length capf, .int .i64 s.frames.length, .int .i64 k, slot a' 26, slot a' 27, slot a' 28, slot a' 29, slot a' 30, slot a' 31, slot a' 32, slot a' 33, slot a' 34, slot a' 35, slot a' 36, slot a' 37, slot a' 38, slot a' 39, slot a' 40, slot a' 41, slot a' 42, slot a' 43, slot a' 44, slot a' 45, slot a' 46, slot a' 47, slot a' 48, slot a' 49, slot a' 50, slot a' 51, slot a' 52, slot a' 53, slot a' 54, slot a' 55, slot a' 56, slot a' 57, slot a' 58, slot a' 59, slot a' 60, slot a' 61, slot a' 62, slot a' 63], defers := [] } ∧ EncSJ s w w' v k) (fun a' _ => (s.frames.length - (intOf (a'.tmps.getD 25 undef)).toNat)) ?_ ?_
  · exact ⟨v4, 0, rfl, by omega, by simpa [framesB] using ho4, hb4⟩
  clear ho4 hb4 hb1 hsz1 hsz2 hsz3
  rintro R a' w5 ⟨v, k, hfr, hJ⟩ HR
  obtain ⟨f, hf⟩ : ∃ f, f = slot a' := ⟨_, rfl⟩
  rw [← hf] at hfr
  clear hf
  subst hfr
  obtain ⟨hk, ho, hb⟩ := hJ
  by_cases hkl : k < s.frames.length
  rotate_left
  · obtain rfl : k = s.frames.length := by omega
    go_wp2_with fail
    go_ret
    refine ⟨v, rfl, hb, .inl ⟨HM.out, ?_⟩⟩
    rw [List.take_length] at ho
    have := own_base (base' := w.heap.size) ho (fun i hi => by have := (own_lt ho hi).1; omega)
    rw [stateB]
    exact this
  obtain ⟨g, he⟩ : ∃ e, s.frames[k]? = some e := ⟨_, List.getElem?_eq_getElem hkl⟩
  obtain ⟨b, off, u, x, rfl, hlt, ⟨d0, d1, d2, d3, d4⟩, hu, hx, hok⟩ := HF.out.get he
  have c0 : w5.cell? ⟨b, off + k * 5, none⟩ = some (.int .i64 g.fn) := by rw [hb.cell hlt]; exact d0
  have c1 : w5.cell? ⟨b, off + k * 5 + 1, none⟩ = some (.int .i64 g.pc) := by rw [hb.cell hlt]; exact d1
  have c2 : w5.cell? ⟨b, off + k * 5 + 2, none⟩ = some u := by rw [hb.cell hlt]; exact d2
  have c3 : w5.cell? ⟨b, off + k * 5 + 3, none⟩ = some (.int .i64 g.base) := by rw [hb.cell hlt]; exact d3
  have c4 : w5.cell? ⟨b, off + k * 5 + 4, none⟩ = some x := by rw [hb.cell hlt]; exact d4
  have HU := Lib.hid hu
  have HX := Lib.hid hx
  obtain ⟨au, capu, rfl, _, hcu, _⟩ := id hu
  obtain ⟨ax, capx, rfl, hcx1, hcx, _⟩ := id hx
  unfold maxLen at hcu hcx
  have HUB := Lib.hid (cells_lt hu)
  obtain ⟨p1, p2, p3, p4, ⟨p5, p6⟩, ⟨p7, p8⟩, p9, p10⟩ := HM.out.2.2.2.2.2 g (List.mem_of_getElem? he)
  have HP1 := Lib.hid p1
  have HP4 := Lib.hid p4
  have HOL := Lib.hid hok.2.2.2.1
  obtain ⟨nf, hnf⟩ : ∃ n : Nat, g.fn = n := ⟨g.fn.toNat, by omega⟩
  obtain ⟨np, hnp⟩ : ∃ n : Nat, g.pc = n := ⟨g.pc.toNat, by omega⟩
  obtain ⟨nb, hnb⟩ : ∃ n : Nat, g.base = n := ⟨g.base.toNat, by omega⟩
  have HFB := Lib.hid (show frameB g = valsB g.locals ++ putU nf ++ putU np ++ putU nb ++ (putU g.labels.length ++ (g.labels.map labB).flatten) by rw [frameB, labsB, hnf, hnp, hnb]; rfl)
  have hlen : (headB s ++ framesB (s.frames.take k)).length ≤ 75000 := by
    have g2 := framesB_len (s.frames.take k) (fun y hy => ⟨HM.out.2.2.2.2.2 y (List.mem_of_mem_take hy), HOF.out y (List.mem_of_mem_take hy)⟩)
    have g3 : (s.frames.take k).length ≤ 32 := by rw [List.length_take]; omega
    rw [List.length_append]
    omega
  have HE := Lib.hid he
  rw [hnf] at c0 p5 p6
  rw [hnp] at c1 p7 p8
  rw [hnb] at c3 p9 p10
  generalize hL : headB s ++ framesB (s.frames.take k) = L at ho hlen
  have HL := Lib.hid hL
  have hbxa := (Blk.new w5 #[.int .i64 nf, .int .i64 np, .slice au g.locals.length capu, .int .i64 nb, .slice ax g.labels.length capx] 42).drew
  have hnxa : ¬ OwnB v w5.heap.size := fun h => by have := (own_lt ho h).2; omega
  have hoa := ho.keeps (((Keeps.refl (fun _ => False) w5).alloc (.cells #[.int .i64 nf, .int .i64 np, .slice au g.locals.length capu, .int .i64 nb, .slice ax g.labels.length capx] 42)).drew) (fun _ _ h => h)
  have hba := (hb.alloc hb.size (.cells #[.int .i64 nf, .int .i64 np, .slice au g.locals.length capu, .int .i64 nb, .slice ax g.labels.length capx] 42)).drew
  have hba1 : w.heap.size + 1 ≤ w5.heap.size + 1 := by have := hb.size; omega
  clear hL d0 d1 d2 d3 d4 he hok p1 p4 hnf hnp hnb hu hx ho hb
  have HRO := HR
  clear HR
  go_wp2_with fail
  refine wp_region_seq (fun w' => w'.cell? ⟨w5.heap.size, 0, none⟩ = some (.int .i64 nf) ∧ w'.cell? ⟨w5.heap.size, 1, none⟩ = some (.int .i64 np) ∧ w'.cell? ⟨w5.heap.size, 2, none⟩ = some (.slice au g.locals.length capu) ∧ w'.cell? ⟨w5.heap.size, 3, none⟩ = some (.int .i64 nb) ∧ w'.cell? ⟨w5.heap.size, 4, none⟩ = some (.slice ax g.labels.length capx))
    [(0, true), (1, true), (2, true), (4, true), (5, true), (7, true), (8, true), (10, true), (11, true), (3, false), (6, false), (9, false), (12, false), (13, true)] (by kernel_rfl) (by kernel_rfl) hbxa.five ?_
  clear c0 c1 c2 c3 c4
  obtain ⟨Y, hY⟩ : ∃ Y, Y = w5.heap.size := ⟨_, rfl⟩
  rw [← hY] at hbxa hnxa hba1 ⊢
  clear hY
  generalize (w5.alloc (.cells #[.int .i64 nf, .int .i64 np, .slice au g.locals.length capu, .int .i64 nb, .slice ax g.labels.length capx] 42)).drew = wa at hbxa hoa hba ⊢
  obtain ⟨va, hva⟩ : ∃ va, va = v := ⟨_, rfl⟩
  have hszY := hbxa.lt
  iterate 9 (first | (apply seg_skip rfl rfl; simp only [Act.put, List.setIfInBounds_toArray, List.set_cons_succ, List.set_cons_zero]) | (apply seg_pure rfl rfl rfl; · (rintro w' ⟨t0, t1, t2, t3, t4⟩; go_wp2; exact ⟨rfl, rfl, rfl⟩)))
  refine seg_loud rfl rfl ?_
  go_wp2_with fail
  subst hva
  refine (putVals_any va L _ g.locals (w.heap.size + 1) wa hoa (by omega) (by omega) (HU.out.below (hba.mono (Nat.le_refl _))) HP4.out HOL.out (by omega) (fun hne i hi a n cp he => by
    injection he with e1 e2 e3
    have := HUB.out hne a e1
    have := (own_lt hoa hi).1
    omega)).mono ?_
  rintro x wb ⟨vb, rfl, hob, hkb, hsb⟩
  have hbxb := hbxa.keeps hkb hnxa
  have hnxb : ¬ OwnB vb Y := fun h => (hsb _ h).elim hnxa (fun q => by omega)
  have hbb : Below w.heap.size w wb := hba.trans (hkb.below hba.size (fun i hi => by have := (own_lt hoa hi).1; omega))
  clear hkb hsb
  have hlb : (L ++ valsB g.locals).length ≤ 76000 := by
    have g1 := vals_len g.locals HOL.out
    have g2 := (putU_len g.locals.length).2
    simp only [valsB, List.length_append]
    omega
  have hszb := hbxb.lt
  go_wp2_with fail
  refine ⟨hbxb.five, ?_⟩
  refine seg_loud rfl rfl ?_
  go_wp2_with fail
  refine (num_any vb _ nf (by omega) (w.heap.size + 1) wb hob (by omega) (by omega)).mono ?_
  rintro x wc ⟨vc, rfl, hoc, hkc, hsc⟩
  have hbxc := hbxb.keeps hkc hnxb
  have hnxc : ¬ OwnB vc Y := fun h => (hsc _ h).elim hnxb (fun g => by have := hbxb.lt; (try simp at g this); omega)
  have hbc : Below w.heap.size w wc := hbb.trans (hkc.below hbb.size (fun i hi => by have := (own_lt hob hi).1; omega))
  clear hkc hsc
  have hlc := (putU_len nf).2
  have hszc := hbxc.lt
  go_wp2_with fail
  refine ⟨hbxc.five, ?_⟩
  refine seg_loud rfl rfl ?_
  go_wp2_with fail
  refine (num_any vc _ np (by omega) (w.heap.size + 1) wc hoc (by simp only [List.length_append] at *; omega) (by omega)).mono ?_
  rintro x wd ⟨vd, rfl, hod, hkd, hsd⟩
  have hbxd := hbxc.keeps hkd hnxc
  have hnxd : ¬ OwnB vd Y := fun h => (hsd _ h).elim hnxc (fun g => by have := hbxc.lt; (try simp at g this); omega)
  have hbd : Below w.heap.size w wd := hbc.trans (hkd.below hbc.size (fun i hi => by have := (own_lt hoc hi).1; omega))
  clear hkd hsd
  have hld := (putU_len np).2
  have hszd := hbxd.lt
  go_wp2_with fail
  refine ⟨hbxd.five, ?_⟩
  refine seg_loud rfl rfl ?_
  go_wp2_with fail
  refine (num_any vd _ nb (by omega) (w.heap.size + 1) wd hod (by simp only [List.length_append] at *; omega) (by omega)).mono ?_
  rintro x we ⟨ve, rfl, hoe, hke, hse⟩
  have hbxe := hbxd.keeps hke hnxd
  have hnxe : ¬ OwnB ve Y := fun h => (hse _ h).elim hnxd (fun g => by have := hbxd.lt; (try simp at g this); omega)
  have hbe : Below w.heap.size w we := hbd.trans (hke.below hbd.size (fun i hi => by have := (own_lt hod hi).1; omega))
  clear hke hse
  have hle := (putU_len nb).2
  have hsze := hbxe.lt
  go_wp2_with fail
  refine ⟨hbxe.five, ?_⟩
  iterate 1 (first | (apply seg_skip rfl rfl; simp only [Act.put, List.setIfInBounds_toArray, List.set_cons_succ, List.set_cons_zero]) | (apply seg_pure rfl rfl rfl; · (rintro w' ⟨t0, t1, t2, t3, t4⟩; go_wp2; exact ⟨rfl, rfl, rfl⟩)))
  refine seg_nil ?_
  refine NoPanic.normal ?_
  have hl5 : (L ++ valsB g.locals ++ putU nf ++ putU np ++ putU nb).length ≤ 77000 := by simp only [List.length_append] at *; omega
  clear hbxa hbxb hbxc hbxd hnxa hnxb hnxc hnxd hoa hob hoc hod hba hbb hbc hbd hlb hlc hld hle
  obtain ⟨x0, x1, x2, x3, x4⟩ := hbxe.five
  go_wp2_with fail
  refine (num_any ve _ g.labels.length (by omega) (w.heap.size + 1) we hoe (by omega) (by omega)).mono ?_
  rintro x wh ⟨vh, rfl, hoh, hkh, hsh⟩
  have hbxh := hbxe.keeps hkh hnxe
  have hnxh : ¬ OwnB vh Y := fun h => (hsh _ h).elim hnxe (fun g => by have := hbxe.lt; (try simp at g this); omega)
  have hbh : Below w.heap.size w wh := hbe.trans (hkh.below hbe.size (fun i hi => by have := (own_lt hoe hi).1; omega))
  clear hkh hsh
  have hlh2 := (putU_len g.labels.length).2
  have hl6 : (L ++ valsB g.locals ++ putU nf ++ putU np ++ putU nb ++ putU g.labels.length).length ≤ 77100 := by rw [List.length_append]; omega
  clear x0 x1 x2 x3 x4
  obtain ⟨x0, x1, x2, x3, x4⟩ := hbxh.five
  have hL2 : headB s ++ framesB (s.frames.take (k + 1)) = L ++ valsB g.locals ++ putU nf ++ putU np ++ putU nb ++ putU g.labels.length ++ (g.labels.map labB).flatten := by
    rw [List.take_add_one, HE.out, framesB_app, ← List.append_assoc, HL.out]
    simp [framesB, HFB.out]
  have HL2 := Lib.hid hL2
  clear hL2 hl5 hbe hoe hbxe hnxe hnxh
  generalize L ++ valsB g.locals ++ putU nf ++ putU np ++ putU nb ++ putU g.labels.length = L2 at HL2 hoh hl6
  go_wp2_with fail
  clear x0 x1 x2 x3 x4 hbxh
  refine wp_loop_r (fun a' w' => ∃ (v : Value) (m : Nat), a' = { tmps := #[slot a' 0, slot a' 1, slot a' 2, v, slot a' 4, slot a' 5, slot a' 6, slot a' 7, slot a' 8, slot a' 9, slot a' 10, slot a' 11, slot a' 12, slot a' 13, slot a' 14, slot a' 15, slot a' 16, slot a' 17, slot a' 18, slot a' 19, slot a' 20, slot a' 21, slot a' 22, .slice (some ⟨b, off, none⟩) s.frames.length capf, .int .i64 s.frames.length, .int .i64 k, slot a' 26, slot a' 27, slot a' 28, slot a' 29, slot a' 30, slot a' 31, slot a' 32, slot a' 33, slot a' 34, slot a' 35, slot a' 36, slot a' 37, slot a' 38, slot a' 39, slot a' 40, slot a' 41, slot a' 42, slot a' 43, slot a' 44, slot a' 45, slot a' 46, slot a' 47, .slice ax g.labels.length capx, .int .i64 g.labels.length, .int .i64 m, slot a' 51, slot a' 52, slot a' 53, slot a' 54, slot a' 55, slot a' 56, slot a' 57, slot a' 58, slot a' 59, slot a' 60, slot a' 61, slot a' 62, slot a' 63], defers := [] } ∧ EncSI L2 g.labels w w' v m) (fun a' _ => (g.labels.length - (intOf (a'.tmps.getD 50 undef)).toNat)) ?_ ?_
  · exact ⟨vh, 0, rfl, by omega, by simpa using hoh, hbh⟩
  clear hoh hbh hszY hszb hszc hszd hsze hba1
  rintro R a' w5 ⟨v, m, hfr, hJ⟩ HR
  obtain ⟨f, hf⟩ : ∃ f, f = slot a' := ⟨_, rfl⟩
  rw [← hf] at hfr
  clear hf
  subst hfr
  obtain ⟨hm, ho, hb⟩ := hJ
  by_cases hml : m < g.labels.length
  rotate_left
  · obtain rfl : m = g.labels.length := by omega
    go_wp2_with fail
    refine HRO.out _ _ ⟨v, k + 1, rfl, by omega, ?_, hb⟩ ?_
    · rw [HL2.out]
      rw [List.take_length] at ho
      exact ho
    · simp [intOf]
      omega
  obtain ⟨e, hee⟩ : ∃ e, g.labels[m]? = some e := ⟨_, List.getElem?_eq_getElem hml⟩
  obtain ⟨a', cap', hva, _, _, hcells⟩ := HX.out.below (hb.mono (Nat.le_refl _))
  injection hva with e1 e2 e3
  subst e1 e3
  obtain ⟨bl, offl, rfl, hltl, hcl⟩ := hcells m e hee
  have y0 := hcl 0 _ rfl
  have y1 := hcl 1 _ rfl
  rw [Nat.add_zero] at y0
  obtain ⟨⟨r1, r2⟩, r3, r4⟩ := HP1.out e (List.mem_of_getElem? hee)
  obtain ⟨na, hna⟩ : ∃ n : Nat, e.pos = n := ⟨e.pos.toNat, by omega⟩
  obtain ⟨nh, hnh⟩ : ∃ n : Nat, e.height = n := ⟨e.height.toNat, by omega⟩
  have HLB := Lib.hid (show labB e = putU na ++ putU nh by rw [labB, hna, hnh]; rfl)
  rw [hna] at y0 r1 r2
  rw [hnh] at y1 r3 r4
  have hlen2 : (L2 ++ ((g.labels.take m).map labB).flatten).length ≤ 78000 := by
    have q1 := labs_len (g.labels.take m)
    have q2 : (g.labels.take m).length ≤ 40 := by rw [List.length_take]; omega
    rw [List.length_append]
    omega
  have HEE := Lib.hid hee
  generalize hL3 : L2 ++ ((g.labels.take m).map labB).flatten = L3 at ho hlen2
  have HL3 := Lib.hid hL3
  have hbxa := (Blk.new w5 #[.int .i64 na, .int .i64 nh] 44).drew
  have hnxa : ¬ OwnB v w5.heap.size := fun h => by have := (own_lt ho h).2; omega
  have hoa := ho.keeps (((Keeps.refl (fun _ => False) w5).alloc (.cells #[.int .i64 na, .int .i64 nh] 44)).drew) (fun _ _ h => h)
  have hba := (hb.alloc hb.size (.cells #[.int .i64 na, .int .i64 nh] 44)).drew
  have hba1 : w.heap.size + 1 ≤ w5.heap.size + 1 := by have := hb.size; omega
  clear hL3 hcells hcl e2 hee hna hnh ho hb
  go_wp2_with fail
  refine wp_region_seq (fun w' => w'.cell? ⟨w5.heap.size, 0, none⟩ = some (.int .i64 na) ∧ w'.cell? ⟨w5.heap.size, 1, none⟩ = some (.int .i64 nh)) [(0, true), (1, true), (2, true), (4, true), (5, true), (3, false), (6, false), (7, true)] (by kernel_rfl) (by kernel_rfl) ⟨hbxa.cell 0, hbxa.cell 1⟩ ?_
  clear y0 y1
  obtain ⟨Z, hZ⟩ : ∃ Z, Z = w5.heap.size := ⟨_, rfl⟩
  rw [← hZ] at hbxa hnxa hba1 ⊢
  clear hZ
  generalize (w5.alloc (.cells #[.int .i64 na, .int .i64 nh] 44)).drew = wa at hbxa hoa hba ⊢
  have hszZ := hbxa.lt
  iterate 5 (first | (apply seg_skip rfl rfl; simp only [Act.put, List.setIfInBounds_toArray, List.set_cons_succ, List.set_cons_zero]) | (apply seg_pure rfl rfl rfl; · (rintro w' ⟨t0, t1⟩; go_wp2; exact ⟨rfl, rfl, rfl⟩)))
  refine seg_loud rfl rfl ?_
  go_wp2_with fail
  refine (num_any v _ na (by omega) (w.heap.size + 1) wa hoa (by omega) (by omega)).mono ?_
  rintro x wb ⟨vb, rfl, hob, hkb, hsb⟩
  have hbxb := hbxa.keeps hkb hnxa
  have hnxb : ¬ OwnB vb Z := fun h => (hsb _ h).elim hnxa (fun g => by have := hbxa.lt; (try simp at g this); omega)
  have hbb : Below w.heap.size w wb := hba.trans (hkb.below hba.size (fun i hi => by have := (own_lt hoa hi).1; omega))
  clear hkb hsb
  have hlb := (putU_len na).2
  have hszb := hbxb.lt
  go_wp2_with fail
  refine ⟨⟨hbxb.cell 0, hbxb.cell 1⟩, ?_⟩
  refine seg_loud rfl rfl ?_
  go_wp2_with fail
  refine (num_any vb _ nh (by omega) (w.heap.size + 1) wb hob (by simp only [List.length_append] at *; omega) (by omega)).mono ?_
  rintro x wc ⟨vc, rfl, hoc, hkc, hsc⟩
  have hbxc := hbxb.keeps hkc hnxb
  have hnxc : ¬ OwnB vc Z := fun h => (hsc _ h).elim hnxb (fun g => by have := hbxb.lt; (try simp at g this); omega)
  have hbc : Below w.heap.size w wc := hbb.trans (hkc.below hbb.size (fun i hi => by have := (own_lt hob hi).1; omega))
  clear hkc hsc
  clear hbxa hbxb hnxa hnxb hoa hob hba hbb
  go_wp2_with fail
  refine ⟨⟨hbxc.cell 0, hbxc.cell 1⟩, ?_⟩
  iterate 1 (first | (apply seg_skip rfl rfl; simp only [Act.put, List.setIfInBounds_toArray, List.set_cons_succ, List.set_cons_zero]) | (apply seg_pure rfl rfl rfl; · (rintro w' ⟨t0, t1⟩; go_wp2; exact ⟨rfl, rfl, rfl⟩)))
  refine seg_nil ?_
  refine NoPanic.normal ?_
  go_wp2_with fail
  refine HR.out _ _ ⟨vc, m + 1, rfl, by omega, ?_, hbc⟩ ?_
  · have e1 : L2 ++ ((g.labels.take (m + 1)).map labB).flatten = L3 ++ putU na ++ putU nh := by
      rw [← HL3.out, List.take_add_one, HEE.out]
      simp [HLB.out]
    rw [e1]
    exact hoc
  · simp [intOf]
    omega
end Go.Proofs.Ytpknafidbmnjpaa
