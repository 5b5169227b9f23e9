/- Part 3 of the steps by which the law is shown: what each function of the program, of the reference and of the law computes. No condition. -/
import Derived.Lib.SliceRun
import Derived.Test.YtopikhjcbcpiaaaAft2
namespace Go.Proofs.Ytopikhjcbcpiaaa.Q
open Go.RowKit Go.Proofs.YtopikhjcbcpiaaaW.PrintWords Go.Proofs.YtopikhjcbcpiaaaW.PrintLast Go.Proofs.YtopikhjcbcpiaaaW.PrintMore
attribute [local go_sem] max2_int min2_int max_two min_two max_three min_three max_four min_four   -- for this text's walks alone
set_option linter.unusedVariables false
set_option linter.unusedSimpArgs false
def impl_Allowed.j0 : Nat → Bool → List Int → Int → Int → Int → Int → Int → List Int → Option (Bool)
 | 0, _, _, _, _, _, _, _, _ => none
 | k + 1, x16, x592000, x592001, x593000, x593001, x593002, x594000, x594001 => if x16 = true then (some false) else (if x594000 = 0 then ((impl_success.f k x592000 x592001 x593000 x593001 x593002).bind fun bt596 => (if bt596.2 = true then ((slices_Equal_int_int.f k bt596.1 x594001).bind fun t600 => (some t600)) else (some false))) else (if (x594001.length : Int) = 0 then ((impl_refusal.f k x592000 x592001 x593000 x593001 x593002 x594000).bind fun t601 => (some t601)) else (some false)))
def impl_Allowed.f (k : Nat) (l0_0 : List Int) (a0_1 : Int) (a1_0 : Int) (a1_1 : Int) (a1_2 : Int) (a2_0 : Int) (l2_1 : List Int) : Option (Bool) := (impl_RowsOk.f k l0_0 a0_1).bind fun t594 => (if t594 = true then ((impl_OpOk.f k a1_0 a1_1 a1_2).bind fun t595 => (impl_Allowed.j0 k (!t595) l0_0 a0_1 a1_0 a1_1 a1_2 a2_0 l2_1)) else (impl_Allowed.j0 k true l0_0 a0_1 a1_0 a1_1 a1_2 a2_0 l2_1))
theorem impl_Allowed.mono_l : ∀ k, (∀ y0 y1 y2 y3 y4 y5 y6 y7, LeO (impl_Allowed.j0 k y0 y1 y2 y3 y4 y5 y6 y7) (impl_Allowed.j0 (k + 1) y0 y1 y2 y3 y4 y5 y6 y7))
 | 0 => fun _ _ _ _ _ _ _ _ r h => by simp [impl_Allowed.j0] at h
 | k + 1 => by
  have ih0 := impl_Allowed.mono_l k
  ·intro y0 y1 y2 y3 y4 y5 y6 y7
   unfold impl_Allowed.j0
   repeat' first
   | (with_reducible exact ih0 _ _ _ _ _ _ _ _)
   | (with_reducible exact impl_OpOk.mono _ _ _ _)
   | (with_reducible exact impl_RowsOk.mono _ _ _)
   | (with_reducible exact impl_refusal.mono _ _ _ _ _ _ _)
   | (with_reducible exact impl_success.mono _ _ _ _ _ _)
   | (with_reducible exact slices_Equal_int_int.mono _ _ _)
   | (with_reducible exact LeO.refl _)
   | (with_reducible exact LeO.none _)
   | (with_reducible refine LeO.ite ?_ ?_)
   | (with_reducible refine LeO.bind ?_ (fun _ => ?_))
   | exact ih0 _ _ _ _ _ _ _ _
   | exact impl_OpOk.mono _ _ _ _
   | exact impl_RowsOk.mono _ _ _
   | exact impl_refusal.mono _ _ _ _ _ _ _
   | exact impl_success.mono _ _ _ _ _ _
   | exact slices_Equal_int_int.mono _ _ _
   | exact LeO.none _
   | refine LeO.ite ?_ ?_
   | refine LeO.bind ?_ (fun _ => ?_)
theorem impl_Allowed.mono : ∀ a0 a1 a2 a3 a4 a5 a6 k, LeO (impl_Allowed.f k a0 a1 a2 a3 a4 a5 a6) (impl_Allowed.f (k + 1) a0 a1 a2 a3 a4 a5 a6) := by
 intro a0 a1 a2 a3 a4 a5 a6 k
 have ih0 := impl_Allowed.mono_l k
 unfold impl_Allowed.f
 repeat' first
   | (with_reducible exact ih0 _ _ _ _ _ _ _ _)
   | (with_reducible exact impl_OpOk.mono _ _ _ _)
   | (with_reducible exact impl_RowsOk.mono _ _ _)
   | (with_reducible exact impl_refusal.mono _ _ _ _ _ _ _)
   | (with_reducible exact impl_success.mono _ _ _ _ _ _)
   | (with_reducible exact slices_Equal_int_int.mono _ _ _)
   | (with_reducible exact LeO.refl _)
   | (with_reducible exact LeO.none _)
   | (with_reducible refine LeO.ite ?_ ?_)
   | (with_reducible refine LeO.bind ?_ (fun _ => ?_))
   | exact ih0 _ _ _ _ _ _ _ _
   | exact impl_OpOk.mono _ _ _ _
   | exact impl_RowsOk.mono _ _ _
   | exact impl_refusal.mono _ _ _ _ _ _ _
   | exact impl_success.mono _ _ _ _ _ _
   | exact slices_Equal_int_int.mono _ _ _
   | exact LeO.none _
   | refine LeO.ite ?_ ?_
   | refine LeO.bind ?_ (fun _ => ?_)
set_option maxHeartbeats 8000000 in
set_option maxRecDepth 100000 in
theorem impl_Allowed.calls (k : Nat) (A0_0 : Option Addr) (c0_0 : Nat) (l0_0 : List Int) (a0_1 : Int) (a1_0 : Int) (a1_1 : Int) (a1_2 : Int) (a2_0 : Int) (A2_1 : Option Addr) (c2_1 : Nat) (l2_1 : List Int) (r : Bool) (w : World) (hr0_0 : Kd.C (Kd.int .i64) w A0_0 l0_0.length l0_0) (hc0_0 : l0_0.length ≤ c0_0) (hr2_1 : Kd.C (Kd.int .i64) w A2_1 l2_1.length l2_1) (hc2_1 : l2_1.length ≤ c2_1) (h : impl_Allowed.f k l0_0 a0_1 a1_0 a1_1 a1_2 a2_0 l2_1 = some r) :
  Calls Try.prog 46 #[.agg #[.slice A0_0 l0_0.length c0_0, .int .i64 a0_1], .agg #[.int .i64 a1_0, .int .i64 a1_1, .int .i64 a1_2], .agg #[.int .i64 a2_0, .slice A2_1 l2_1.length c2_1]] w fun e w' => e = .returned (.bool r) ∧ Below w.heap.size w w' := by
 have hu65 := Try.underlying65
 have hu68 := Try.underlying68
 have hu70 := Try.underlying70
 have HR0_0 := Aside0.mk hr0_0
 have HC0_0 := Aside0.mk hc0_0
 clear hr0_0 hc0_0
 have HR2_1 := Aside0.mk hr2_1
 have HC2_1 := Aside0.mk hc2_1
 clear hr2_1 hc2_1
 have HB := Aside0.mk (Below.refl w.heap.size w)
 have H : ((impl_RowsOk.f k l0_0 a0_1).bind fun t594 => (if t594 = true then ((impl_OpOk.f k a1_0 a1_1 a1_2).bind fun t595 => (impl_Allowed.j0 k (!t595) l0_0 a0_1 a1_0 a1_1 a1_2 a2_0 l2_1)) else (impl_Allowed.j0 k true l0_0 a0_1 a1_0 a1_1 a1_2 a2_0 l2_1))) = some r := h
 clear h
 have HC4 := Aside0.mk H
 clear H
 go_enter Try.func46, Try.ntmps46
 go_upto_region 1 with (first | ((with_reducible refine gate_dst (N := 3) rfl ?_); refine bx (N := 3) (cs := #[.slice A0_0 l0_0.length c0_0, .int .i64 a0_1]) (t := 65) ?_; intro gb591 hg w5 hbox hb; have BK591 := Aside0.mk (hbox); have GW591 := Aside0.mk (ge_ hg HB); have GE591 := Aside0.mk (ge_ hg HB); replace HB := bs HB hb; clear hb hbox hg) | ((with_reducible refine gate_dst (N := 4) rfl ?_); refine bx (N := 4) (cs := #[.int .i64 a1_0, .int .i64 a1_1, .int .i64 a1_2]) (t := 68) ?_; intro gb592 hg w6 hbox hb; have BK592 := Aside0.mk (hbox); have GW592 := Aside0.mk (ge_ hg HB); have GE592 := Aside0.mk (ge_ hg HB); replace HB := bs HB hb; have NB591_592 := Aside0.mk (nl_ hg BK591); have NB592_591 := Aside0.mk (ng_ hg BK591); replace BK591 := bb BK591 hb; clear hb hbox hg) | ((with_reducible refine gate_dst (N := 5) rfl ?_); refine bx (N := 5) (cs := #[.int .i64 a2_0, .slice A2_1 l2_1.length c2_1]) (t := 70) ?_; intro gb593 hg w7 hbox hb; have BK593 := Aside0.mk (hbox); have GW593 := Aside0.mk (ge_ hg HB); have GE593 := Aside0.mk (ge_ hg HB); replace HB := bs HB hb; have NB591_593 := Aside0.mk (nl_ hg BK591); have NB593_591 := Aside0.mk (ng_ hg BK591); replace BK591 := bb BK591 hb; have NB592_593 := Aside0.mk (nl_ hg BK592); have NB593_592 := Aside0.mk (ng_ hg BK592); replace BK592 := bb BK592 hb; clear hb hbox hg))
 (try simp only [Act.put, sA, sB, sC])
 go_cut [16] (fun v16 wc => ∃ (kq : Nat) (x16_3 : Bool), v16 = .bool x16_3 ∧ Aside0 (impl_Allowed.j0 kq x16_3 l0_0 a0_1 a1_0 a1_1 a1_2 a2_0 l2_1 = some r) ∧ Aside0 (kq ≤ k) ∧ Aside0 (wc.heap[gb591]? = some (.cells #[(.slice A0_0 l0_0.length c0_0), .int .i64 a0_1] 65 (0, 0))) ∧ Aside0 (wc.heap[gb592]? = some (.cells #[.int .i64 a1_0, .int .i64 a1_1, .int .i64 a1_2] 68 (0, 0))) ∧ Aside0 (wc.heap[gb593]? = some (.cells #[.int .i64 a2_0, (.slice A2_1 l2_1.length c2_1)] 70 (0, 0))) ∧ Aside0 (Below w.heap.size w wc))
 case first =>
  have H := HC4.out
  clear HC4
  replace H := Option.bind_eq_some_iff.mp H
  obtain ⟨t594, A80, H⟩ := H
  replace H : (if t594 = true then ((impl_OpOk.f k a1_0 a1_1 a1_2).bind fun t595 => (impl_Allowed.j0 k (!t595) l0_0 a0_1 a1_0 a1_1 a1_2 a2_0 l2_1)) else (impl_Allowed.j0 k true l0_0 a0_1 a1_0 a1_1 a1_2 a2_0 l2_1)) = some r := H
  have A8 := Aside0.mk A80
  clear A80
  by_cases c9 : t594 = true
  ·subst c9
   have H1 : ((impl_OpOk.f k a1_0 a1_1 a1_2).bind fun t595 => (impl_Allowed.j0 k (!t595) l0_0 a0_1 a1_0 a1_1 a1_2 a2_0 l2_1)) = some r := by rw [if_pos rfl] at H; exact H
   clear H
   have H := H1
   clear H1
   replace H := Option.bind_eq_some_iff.mp H
   obtain ⟨t595, A100, H⟩ := H
   replace H : (impl_Allowed.j0 k (!t595) l0_0 a0_1 a1_0 a1_1 a1_2 a2_0 l2_1) = some r := H
   have A10 := Aside0.mk A100
   clear A100
   have H' := Aside0.mk H
   clear H
   have hnb11 := NB591_592.out
   have hnc11 := NB592_591.out
   have hnb12 := NB591_593.out
   have hnc12 := NB593_591.out
   obtain ⟨hcz13_0, hcz13_1, hfz13_0, hfz13_1⟩ := c2 BK591
   go_wp2_with (first | ((with_reducible refine gate_callee (f := 55) rfl ?_); refine gL 10 Try.func55 #[.agg #[.slice A0_0 l0_0.length c0_0, .int .i64 a0_1]] ?_; (with_reducible refine (impl_RowsOk.calls k _ _ l0_0 a0_1 true _ ?side1 ?side2 A8.out).mono ?_); (case side1 => exact kc HR0_0 HB); (case side2 => exact HC0_0.out); rintro e w14 ⟨rfl, hb⟩; refine ⟨_, rfl, ?_⟩; replace BK591 := bb BK591 hb; replace BK592 := bb BK592 hb; replace BK593 := bb BK593 hb; replace HB := bs HB hb; (try clear hb); (try clear hb2); (try clear hk); (try clear hi); have hnb15 := NB592_593.out; have hnc15 := NB593_592.out; obtain ⟨hcz16_0, hcz16_1, hcz16_2, hfz16_0, hfz16_1, hfz16_2⟩ := c3 BK592) | (go_at_call 53; (with_reducible refine (impl_OpOk.calls k a1_0 a1_1 a1_2 t595 _ A10.out).mono ?_); rintro e w17 ⟨rfl, hb⟩; replace BK591 := bb BK591 hb; replace BK592 := bb BK592 hb; replace BK593 := bb BK593 hb; replace HB := bs HB hb; (try clear hb); (try clear hb2); (try clear hk); (try clear hi)))
   go_meet
   case rel => exact ⟨_, (!t595), (by first | rfl | (simp; done) | (simp [*]; done)), H', ⟨by first | omega | exact Nat.le_refl _⟩, ⟨by (with_reducible repeat (first | refine blk_drewN ?_ _ | refine blk_drew ?_ | refine blk_alloc ?_ _)); exact BK591.out⟩, ⟨by (with_reducible repeat (first | refine blk_drewN ?_ _ | refine blk_drew ?_ | refine blk_alloc ?_ _)); exact BK592.out⟩, ⟨by (with_reducible repeat (first | refine blk_drewN ?_ _ | refine blk_drew ?_ | refine blk_alloc ?_ _)); exact BK593.out⟩, ⟨tb HB⟩⟩
  ·replace c9 := Bool.eq_false_iff.mpr c9
   subst c9
   have H1 : (impl_Allowed.j0 k true l0_0 a0_1 a1_0 a1_1 a1_2 a2_0 l2_1) = some r := by rw [if_neg (show ¬ (false = true) by decide)] at H; exact H
   clear H
   have H := H1
   clear H1
   have H' := Aside0.mk H
   clear H
   have hnb18 := NB591_592.out
   have hnc18 := NB592_591.out
   have hnb19 := NB591_593.out
   have hnc19 := NB593_591.out
   obtain ⟨hcz20_0, hcz20_1, hfz20_0, hfz20_1⟩ := c2 BK591
   go_wp2_with (first | ((with_reducible refine gate_callee (f := 55) rfl ?_); refine gL 10 Try.func55 #[.agg #[.slice A0_0 l0_0.length c0_0, .int .i64 a0_1]] ?_; (with_reducible refine (impl_RowsOk.calls k _ _ l0_0 a0_1 false _ ?side1 ?side2 A8.out).mono ?_); (case side1 => exact kc HR0_0 HB); (case side2 => exact HC0_0.out); rintro e w21 ⟨rfl, hb⟩; refine ⟨_, rfl, ?_⟩; replace BK591 := bb BK591 hb; replace BK592 := bb BK592 hb; replace BK593 := bb BK593 hb; replace HB := bs HB hb; (try clear hb); (try clear hb2); (try clear hk); (try clear hi)))
   go_meet
   case rel => exact ⟨_, (true), (by first | rfl | (simp; done) | (simp [*]; done)), H', ⟨by first | omega | exact Nat.le_refl _⟩, ⟨by (with_reducible repeat (first | refine blk_drewN ?_ _ | refine blk_drew ?_ | refine blk_alloc ?_ _)); exact BK591.out⟩, ⟨by (with_reducible repeat (first | refine blk_drewN ?_ _ | refine blk_drew ?_ | refine blk_alloc ?_ _)); exact BK592.out⟩, ⟨by (with_reducible repeat (first | refine blk_drewN ?_ _ | refine blk_drew ?_ | refine blk_alloc ?_ _)); exact BK593.out⟩, ⟨tb HB⟩⟩
 case rest =>
  clear HC4
  try clear c1
  try clear c2
  try clear p2
  try clear c4
  try clear c5
  try clear c9
  try clear c11
  try clear c12
  try clear c15
  try clear c18
  try clear c19
  try clear hcz13_0
  try clear hcz13_1
  try clear hcz16_0
  try clear hcz16_1
  try clear hcz16_2
  try clear hcz20_0
  try clear hcz20_1
  try clear hfz13_0
  try clear hfz13_1
  try clear hfz16_0
  try clear hfz16_1
  try clear hfz16_2
  try clear hfz20_0
  try clear hfz20_1
  obtain ⟨kq, x16_3, rfl, HA, HJ3, BK591, BK592, BK593, HB⟩ := hcut
  cases kq with
  | zero => exact absurd HA.out (by simp [impl_Allowed.j0])
  | succ kj3 =>
   have H := HA.out
   clear HA
   simp only [impl_Allowed.j0] at H
   by_cases c22 : x16_3 = true
   ·subst c22
    have H1 : (some false) = some r := by rw [if_pos rfl] at H; exact H
    clear H
    have H := H1
    clear H1
    obtain rfl := Option.some.inj H
    go_wp2
    go_ret
    exact ⟨er, tb HB⟩
   ·replace c22 := Bool.eq_false_iff.mpr c22
    subst c22
    have H1 : (if a2_0 = 0 then ((impl_success.f kj3 l0_0 a0_1 a1_0 a1_1 a1_2).bind fun bt596 => (if bt596.2 = true then ((slices_Equal_int_int.f kj3 bt596.1 l2_1).bind fun t600 => (some t600)) else (some false))) else (if (l2_1.length : Int) = 0 then ((impl_refusal.f kj3 l0_0 a0_1 a1_0 a1_1 a1_2 a2_0).bind fun t601 => (some t601)) else (some false))) = some r := by rw [if_neg (show ¬ (false = true) by decide)] at H; exact H
    clear H
    have H := H1
    clear H1
    by_cases c23 : a2_0 = 0
    ·rw [if_pos c23] at H
     have c23b0 : (a2_0 == 0) = true := beq_iff_eq.mpr c23
     have c23b1 : (a2_0 != 0) = false := bne_eq_false_iff_eq.mpr c23
     clear c23
     replace H := Option.bind_eq_some_iff.mp H
     obtain ⟨⟨t596, t599⟩, A240, H⟩ := H
     replace H : (if t599 = true then ((slices_Equal_int_int.f kj3 t596 l2_1).bind fun t600 => (some t600)) else (some false)) = some r := H
     have A24 := Aside0.mk A240
     clear A240
     by_cases c25 : t599 = true
     ·subst c25
      have H1 : ((slices_Equal_int_int.f kj3 t596 l2_1).bind fun t600 => (some t600)) = some r := by rw [if_pos rfl] at H; exact H
      clear H
      have H := H1
      clear H1
      replace H := Option.bind_eq_some_iff.mp H
      obtain ⟨t600, A260, H⟩ := H
      replace H : (some t600) = some r := H
      have A26 := Aside0.mk A260
      clear A260
      obtain rfl := Option.some.inj H
      have hnb27 := NB593_591.out
      have hnc27 := NB591_593.out
      have hnb28 := NB593_592.out
      have hnc28 := NB592_593.out
      obtain ⟨hcz29_0, hcz29_1, hfz29_0, hfz29_1⟩ := c2 BK593
      have hnb30 := NB591_592.out
      have hnc30 := NB592_591.out
      obtain ⟨hcz31_0, hcz31_1, hfz31_0, hfz31_1⟩ := c2 BK591
      obtain ⟨hcz32_0, hcz32_1, hcz32_2, hfz32_0, hfz32_1, hfz32_2⟩ := c3 BK592
      go_wp2_with (first | ((with_reducible refine gate_callee (f := 110) rfl ?_); refine gL 34 Try.func110 #[.agg #[.slice A0_0 l0_0.length c0_0, .int .i64 a0_1], .agg #[.int .i64 a1_0, .int .i64 a1_1, .int .i64 a1_2]] ?_; (with_reducible refine (impl_success.calls kj3 (fun k_ => k_ < w.heap.size) _ _ l0_0 a0_1 a1_0 a1_1 a1_2 t596 true _ ?side1 A24.out).mono ?_); (case side1 => exact Kd.V_mk HC0_0.out (Kd.F_below (Kd.C_F (Kd.heap_int .i64) HR0_0.out) (tb HB))); rintro e w33 ⟨v597, rfl, ho0, hb⟩; refine ⟨_, rfl, ?_⟩; have HO598 := Aside0.mk (Kd.V_lower (Kd.V_mono (ok' := fun k_ => k_ ≠ gb591 ∧ k_ ≠ gb592 ∧ k_ ≠ gb593) ho0 (fun k_ hk_ => ⟨Or.elim hk_ (fun hs_ => fun e_ => Nat.not_le.2 hs_ (by rw [e_]; exact GW591.out)) (fun hn_ => (Kd.freshB (g := gb591) (o := .cells #[.slice A0_0 l0_0.length c0_0, .int .i64 a0_1] 65 (0, 0)) (bk BK591) k_ hn_)), Or.elim hk_ (fun hs_ => fun e_ => Nat.not_le.2 hs_ (by rw [e_]; exact GW592.out)) (fun hn_ => (Kd.freshB (g := gb592) (o := .cells #[.int .i64 a1_0, .int .i64 a1_1, .int .i64 a1_2] 68 (0, 0)) (bk BK592) k_ hn_)), Or.elim hk_ (fun hs_ => fun e_ => Nat.not_le.2 hs_ (by rw [e_]; exact GW593.out)) (fun hn_ => (Kd.freshB (g := gb593) (o := .cells #[.int .i64 a2_0, .slice A2_1 l2_1.length c2_1] 70 (0, 0)) (bk BK593) k_ hn_))⟩)) (below_size (tb HB))); replace BK591 := bb BK591 hb; replace BK592 := bb BK592 hb; replace BK593 := bb BK593 hb; replace HB := bs HB hb; (try clear hb); (try clear hb2); (try clear hk); (try clear hi); (try clear ho0); obtain ⟨hcz34_0, hcz34_1, hfz34_0, hfz34_1⟩ := c2 BK593; obtain ⟨Ao35, co35, eo35⟩ := Kd.V_slice HO598.out; subst eo35) | (go_at_call 111; (with_reducible refine (slices_Equal_int_int.calls kj3 _ _ t596 _ _ l2_1 t600 _ ?side1 ?side2 ?side3 ?side4 A26.out).mono ?_); (case side1 => repeat (first | exact (Kd.V_reads' HO598.out).2.2 | (with_reducible refine Kd.C_alloc ?_ _) | (with_reducible refine Kd.C_drewN ?_ _) | (with_reducible refine Kd.C_drew ?_))); (case side2 => exact (Kd.V_reads' HO598.out).2.1); (case side3 => exact kc HR2_1 HB); (case side4 => exact HC2_1.out); rintro e w' ⟨rfl, ⟨nd, rfl⟩⟩))
      go_ret
      exact ⟨er, tb HB⟩
     ·replace c25 := Bool.eq_false_iff.mpr c25
      subst c25
      have H1 : (some false) = some r := by rw [if_neg (show ¬ (false = true) by decide)] at H; exact H
      clear H
      have H := H1
      clear H1
      obtain rfl := Option.some.inj H
      have hnb36 := NB593_591.out
      have hnc36 := NB591_593.out
      have hnb37 := NB593_592.out
      have hnc37 := NB592_593.out
      obtain ⟨hcz38_0, hcz38_1, hfz38_0, hfz38_1⟩ := c2 BK593
      have hnb39 := NB591_592.out
      have hnc39 := NB592_591.out
      obtain ⟨hcz40_0, hcz40_1, hfz40_0, hfz40_1⟩ := c2 BK591
      obtain ⟨hcz41_0, hcz41_1, hcz41_2, hfz41_0, hfz41_1, hfz41_2⟩ := c3 BK592
      go_wp2_with (first | ((with_reducible refine gate_callee (f := 110) rfl ?_); refine gL 34 Try.func110 #[.agg #[.slice A0_0 l0_0.length c0_0, .int .i64 a0_1], .agg #[.int .i64 a1_0, .int .i64 a1_1, .int .i64 a1_2]] ?_; (with_reducible refine (impl_success.calls kj3 (fun k_ => k_ < w.heap.size) _ _ l0_0 a0_1 a1_0 a1_1 a1_2 t596 false _ ?side1 A24.out).mono ?_); (case side1 => exact Kd.V_mk HC0_0.out (Kd.F_below (Kd.C_F (Kd.heap_int .i64) HR0_0.out) (tb HB))); rintro e w42 ⟨v597, rfl, ho0, hb⟩; refine ⟨_, rfl, ?_⟩; have HO598 := Aside0.mk (Kd.V_lower (Kd.V_mono (ok' := fun k_ => k_ ≠ gb591 ∧ k_ ≠ gb592 ∧ k_ ≠ gb593) ho0 (fun k_ hk_ => ⟨Or.elim hk_ (fun hs_ => fun e_ => Nat.not_le.2 hs_ (by rw [e_]; exact GW591.out)) (fun hn_ => (Kd.freshB (g := gb591) (o := .cells #[.slice A0_0 l0_0.length c0_0, .int .i64 a0_1] 65 (0, 0)) (bk BK591) k_ hn_)), Or.elim hk_ (fun hs_ => fun e_ => Nat.not_le.2 hs_ (by rw [e_]; exact GW592.out)) (fun hn_ => (Kd.freshB (g := gb592) (o := .cells #[.int .i64 a1_0, .int .i64 a1_1, .int .i64 a1_2] 68 (0, 0)) (bk BK592) k_ hn_)), Or.elim hk_ (fun hs_ => fun e_ => Nat.not_le.2 hs_ (by rw [e_]; exact GW593.out)) (fun hn_ => (Kd.freshB (g := gb593) (o := .cells #[.int .i64 a2_0, .slice A2_1 l2_1.length c2_1] 70 (0, 0)) (bk BK593) k_ hn_))⟩)) (below_size (tb HB))); replace BK591 := bb BK591 hb; replace BK592 := bb BK592 hb; replace BK593 := bb BK593 hb; replace HB := bs HB hb; (try clear hb); (try clear hb2); (try clear hk); (try clear hi); (try clear ho0)))
      go_ret
      exact ⟨er, tb HB⟩
    ·rw [if_neg c23] at H
     have c23b0 : (a2_0 == 0) = false := beq_eq_false_iff_ne.mpr c23
     have c23b1 : (a2_0 != 0) = true := bne_iff_ne.mpr c23
     by_cases c43 : (l2_1.length : Int) = 0
     ·rw [if_pos c43] at H
      have c43b0 : ((l2_1.length : Int) == 0) = true := beq_iff_eq.mpr c43
      have c43b1 : ((l2_1.length : Int) != 0) = false := bne_eq_false_iff_eq.mpr c43
      clear c43
      replace H := Option.bind_eq_some_iff.mp H
      obtain ⟨t601, A440, H⟩ := H
      replace H : (some t601) = some r := H
      have A44 := Aside0.mk A440
      clear A440
      obtain rfl := Option.some.inj H
      have hnb45 := NB593_591.out
      have hnc45 := NB591_593.out
      have hnb46 := NB593_592.out
      have hnc46 := NB592_593.out
      obtain ⟨hcz47_0, hcz47_1, hfz47_0, hfz47_1⟩ := c2 BK593
      have hnb48 := NB591_592.out
      have hnc48 := NB592_591.out
      obtain ⟨hcz49_0, hcz49_1, hfz49_0, hfz49_1⟩ := c2 BK591
      obtain ⟨hcz50_0, hcz50_1, hcz50_2, hfz50_0, hfz50_1, hfz50_2⟩ := c3 BK592
      go_wp2_with (first | (go_at_call 109; (with_reducible refine (impl_refusal.calls kj3 _ _ l0_0 a0_1 a1_0 a1_1 a1_2 a2_0 t601 _ ?side1 ?side2 A44.out).mono ?_); (case side1 => exact kc HR0_0 HB); (case side2 => exact HC0_0.out); rintro e w51 ⟨rfl, hb⟩; replace BK591 := bb BK591 hb; replace BK592 := bb BK592 hb; replace BK593 := bb BK593 hb; replace HB := bs HB hb; (try clear hb); (try clear hb2); (try clear hk); (try clear hi)))
      go_ret
      exact ⟨er, tb HB⟩
     ·rw [if_neg c43] at H
      have c43b0 : ((l2_1.length : Int) == 0) = false := beq_eq_false_iff_ne.mpr c43
      have c43b1 : ((l2_1.length : Int) != 0) = true := bne_iff_ne.mpr c43
      have c43b2 : ¬ (l2_1 = []) := fun h_ => c43 (by rw [h_]; rfl)
      obtain rfl := Option.some.inj H
      have hnb52 := NB593_591.out
      have hnc52 := NB591_593.out
      have hnb53 := NB593_592.out
      have hnc53 := NB592_593.out
      obtain ⟨hcz54_0, hcz54_1, hfz54_0, hfz54_1⟩ := c2 BK593
      go_wp2
      go_ret
      exact ⟨er, tb HB⟩
end Go.Proofs.Ytopikhjcbcpiaaa.Q
section
namespace Go.Proofs.Ytopikhjcbcpiaaa.Q
open Go.RowKit Go.Proofs.YtopikhjcbcpiaaaW.PrintWords Go.Proofs.YtopikhjcbcpiaaaW.PrintLast Go.Proofs.YtopikhjcbcpiaaaW.PrintMore
def slices_Clone_int_int.f (l0 : List Int) : Option (List Int) := if l0.length * 8 ≤ 140737488355328 then some l0 else none
set_option maxHeartbeats 2000000 in
set_option maxRecDepth 100000 in
theorem slices_Clone_int_int.calls (A0 : Option Addr) (c0 : Nat) (l0 : List Int) (r : List Int) (w : World) (hr0 : Kd.C (Kd.int .i64) w A0 l0.length l0) (hc0 : l0.length ≤ c0) (h : slices_Clone_int_int.f l0 = some r) :
    Calls Try.prog 158 #[.slice A0 l0.length c0] w fun e w' => ∃ v0_ : Value, e = .returned (v0_) ∧ Kd.R (Kd.int .i64) 3 w' w.heap.size (fun _ => True) v0_ r ∧ Below w.heap.size w w' := by
  have q22 : ∀ (w : World) (a : Option Addr) (n c n' c' : Nat), (binOp .eql 22 (.slice a n c) (.slice none n' c')).run Try.prog w = .ok (.bool a.isNone) w := fun w a n c n' c' => Lib.run_eql_slice_nil w _ _ a n c n' c' Try.underlying22
  unfold slices_Clone_int_int.f at h
  have hlim : l0.length * 8 ≤ 140737488355328 := by
    by_cases hlim : l0.length * 8 ≤ 140737488355328
    · exact hlim
    · rw [if_neg hlim] at h; exact absurd h (by simp)
  rw [if_pos hlim] at h
  obtain rfl := Option.some.inj h
  clear h
  have HLIM := Aside0.mk hlim
  clear hlim
  cases A0 with
  | none =>
    have h0 : l0 = [] := by
      rcases l0 with _ | ⟨x, xs⟩
      · rfl
      · obtain ⟨ad, _, he, _⟩ := Kd.C_get hr0 x 0 (by omega) (by first | (simp; done) | (simp; omega))
        cases he
    clear hr0 HLIM hc0
    subst h0
    go_enter Try.func158, Try.ntmps158
    go_wp2
    go_ret
    exact ⟨_, rfl, Kd.R_nil _ _ _ _ _, Below.refl _ _⟩
  | some ad =>
    have HR := Aside0.mk hr0
    clear hr0 hc0
    go_enter Try.func158, Try.ntmps158
    go_wp2_with (first | ((with_reducible refine gate_dst (N := 5) rfl ?_); refine Kd.R_lit (Kd.int .i64) w.heap.size 3 ?hg (N := 5) ?hd (xs := []) (inner := []) (ok := fun _ => True) (okp := fun _ => True) ?hr ?hp (fun _ hk => hk) trivial (Below.refl _ _) (Nat.le_refl _) (by simp) ?_; (case hd => rfl); (case hg => rfl); (case hr => first | (go_simp; done) | (go_simp; rfl)); (case hp => exact (Reps.none _ _)); intro v6 w6 ho6 hb6 hg_ hnew_; clear hg_ hnew_; have HO := Aside0.mk ho6; have HB := Aside0.mk hb6; clear ho6 hb6) | ((with_reducible refine gate_builtin (b := .append) (xs := #[.tmp 5, .tmp 6]) rfl ?_); at_builtin; refine Kd.R_append_rows (Kd.int .i64) (w0 := w) w.heap.size rfl (.tmp 5) (.tmp 6) 22 3 (.int .i64 0) 8 rfl Try.underlying22 (by kernel_rfl) rfl (by decide) (by omega) v6 [] l0 _ _ _ (fun _ => True) (fun _ => False) rfl rfl HO.out (Kd.C_below HR.out HB.out) ?hKM (fun _ h => h.elim) (fun _ _ => trivial) HB.out HB.out.size (by have := HLIM.out; simp; omega) ?_; (case hKM => intro x cs hk; exact hk); intro v7 w7 ho7 hb7 hg7 hat7; have HO7 := Aside0.mk ho7; have HB7 := Aside0.mk hb7; clear ho7 hb7 hg7 hat7))
    go_ret
    exact ⟨_, rfl, by simpa using HO7.out, HB7.out⟩
def impl_Entry.f (l0 : List S166) : Option (List S166) := if l0.length * 24 ≤ 140737488355328 then some l0 else none
set_option maxHeartbeats 2000000 in
set_option maxRecDepth 100000 in
theorem impl_Entry.calls (A0 : Option Addr) (c0 : Nat) (l0 : List S166) (r : List S166) (w : World) (hr0 : Kd.C k166 w A0 l0.length l0) (hc0 : l0.length ≤ c0) (h : impl_Entry.f l0 = some r) :
    Calls Try.prog 140 #[.slice A0 l0.length c0] w fun e w' => ∃ v0_ : Value, e = .returned (v0_) ∧ Kd.R k166 166 w' w.heap.size (fun _ => True) v0_ r ∧ Below w.heap.size w w' := by
  have q22 : ∀ (w : World) (a : Option Addr) (n c n' c' : Nat), (binOp .eql 104 (.slice a n c) (.slice none n' c')).run Try.prog w = .ok (.bool a.isNone) w := fun w a n c n' c' => Lib.run_eql_slice_nil w _ _ a n c n' c' Try.underlying104
  unfold impl_Entry.f at h
  have hlim : l0.length * 24 ≤ 140737488355328 := by
    by_cases hlim : l0.length * 24 ≤ 140737488355328
    · exact hlim
    · rw [if_neg hlim] at h; exact absurd h (by simp)
  rw [if_pos hlim] at h
  obtain rfl := Option.some.inj h
  clear h
  have HLIM := Aside0.mk hlim
  clear hlim
  cases A0 with
  | none =>
    have h0 : l0 = [] := by
      rcases l0 with _ | ⟨x, xs⟩
      · rfl
      · obtain ⟨ad, _, he, _⟩ := Kd.C_get hr0 x 0 (by omega) (by first | (simp; done) | (simp; omega))
        cases he
    clear hr0 HLIM hc0
    subst h0
    go_enter Try.func140, Try.ntmps140
    go_wp2
    go_ret
    exact ⟨_, rfl, Kd.R_nil _ _ _ _ _, Below.refl _ _⟩
  | some ad =>
    have HR := Aside0.mk hr0
    clear hr0 hc0
    go_enter Try.func140, Try.ntmps140
    go_wp2_with (first | ((with_reducible refine gate_dst (N := 5) rfl ?_); refine Kd.R_lit k166 w.heap.size 166 ?hg (N := 5) ?hd (xs := []) (inner := []) (ok := fun _ => True) (okp := fun _ => True) ?hr ?hp (fun _ hk => hk) trivial (Below.refl _ _) (Nat.le_refl _) (by simp) ?_; (case hd => rfl); (case hg => rfl); (case hr => first | (go_simp; done) | (go_simp; rfl)); (case hp => exact (Reps.none _ _)); intro v6 w6 ho6 hb6 hg_ hnew_; clear hg_ hnew_; have HO := Aside0.mk ho6; have HB := Aside0.mk hb6; clear ho6 hb6) | ((with_reducible refine gate_builtin (b := .append) (xs := #[.tmp 5, .tmp 6]) rfl ?_); at_builtin; refine Kd.R_append_rows k166 (w0 := w) w.heap.size rfl (.tmp 5) (.tmp 6) 104 166 (.agg #[(.int .i64 0), (.int .i64 0), (.int .i64 0)]) 24 rfl Try.underlying104 (by kernel_rfl) rfl (by decide) (by omega) v6 [] l0 _ _ _ (fun _ => True) (fun _ => False) rfl rfl HO.out (Kd.C_below HR.out HB.out) ?hKM (fun _ h => h.elim) (fun _ _ => trivial) HB.out HB.out.size (by have := HLIM.out; simp; omega) ?_; (case hKM => intro x cs hk; exact hk); intro v7 w7 ho7 hb7 hg7 hat7; have HO7 := Aside0.mk ho7; have HB7 := Aside0.mk hb7; clear ho7 hb7 hg7 hat7))
    go_ret
    exact ⟨_, rfl, by simpa using HO7.out, HB7.out⟩
def impl_Word_186.f (l0 : List S141) : Option (List S141) := if l0.length * 24 ≤ 140737488355328 then some l0 else none
set_option maxHeartbeats 2000000 in
set_option maxRecDepth 100000 in
theorem impl_Word_186.calls (A0 : Option Addr) (c0 : Nat) (l0 : List S141) (r : List S141) (w : World) (hr0 : Kd.C k141 w A0 l0.length l0) (hc0 : l0.length ≤ c0) (h : impl_Word_186.f l0 = some r) :
    Calls Try.prog 186 #[.slice A0 l0.length c0] w fun e w' => ∃ v0_ : Value, e = .returned (v0_) ∧ Kd.R k141 141 w' w.heap.size (fun _ => True) v0_ r ∧ Below w.heap.size w w' := by
  have q22 : ∀ (w : World) (a : Option Addr) (n c n' c' : Nat), (binOp .eql 47 (.slice a n c) (.slice none n' c')).run Try.prog w = .ok (.bool a.isNone) w := fun w a n c n' c' => Lib.run_eql_slice_nil w _ _ a n c n' c' Try.underlying47
  unfold impl_Word_186.f at h
  have hlim : l0.length * 24 ≤ 140737488355328 := by
    by_cases hlim : l0.length * 24 ≤ 140737488355328
    · exact hlim
    · rw [if_neg hlim] at h; exact absurd h (by simp)
  rw [if_pos hlim] at h
  obtain rfl := Option.some.inj h
  clear h
  have HLIM := Aside0.mk hlim
  clear hlim
  cases A0 with
  | none =>
    have h0 : l0 = [] := by
      rcases l0 with _ | ⟨x, xs⟩
      · rfl
      · obtain ⟨ad, _, he, _⟩ := Kd.C_get hr0 x 0 (by omega) (by first | (simp; done) | (simp; omega))
        cases he
    clear hr0 HLIM hc0
    subst h0
    go_enter Try.func186, Try.ntmps186
    go_wp2
    go_ret
    exact ⟨_, rfl, Kd.R_nil _ _ _ _ _, Below.refl _ _⟩
  | some ad =>
    have HR := Aside0.mk hr0
    clear hr0 hc0
    go_enter Try.func186, Try.ntmps186
    go_wp2_with (first | ((with_reducible refine gate_dst (N := 5) rfl ?_); refine Kd.R_lit k141 w.heap.size 141 ?hg (N := 5) ?hd (xs := []) (inner := []) (ok := fun _ => True) (okp := fun _ => True) ?hr ?hp (fun _ hk => hk) trivial (Below.refl _ _) (Nat.le_refl _) (by simp) ?_; (case hd => rfl); (case hg => rfl); (case hr => first | (go_simp; done) | (go_simp; rfl)); (case hp => exact (Reps.none _ _)); intro v6 w6 ho6 hb6 hg_ hnew_; clear hg_ hnew_; have HO := Aside0.mk ho6; have HB := Aside0.mk hb6; clear ho6 hb6) | ((with_reducible refine gate_builtin (b := .append) (xs := #[.tmp 5, .tmp 6]) rfl ?_); at_builtin; refine Kd.R_append_rows k141 (w0 := w) w.heap.size rfl (.tmp 5) (.tmp 6) 47 141 (.agg #[(.int .i64 0), (.int .i64 0), (.int .i64 0)]) 24 rfl Try.underlying47 (by kernel_rfl) rfl (by decide) (by omega) v6 [] l0 _ _ _ (fun _ => True) (fun _ => False) rfl rfl HO.out (Kd.C_below HR.out HB.out) ?hKM (fun _ h => h.elim) (fun _ _ => trivial) HB.out HB.out.size (by have := HLIM.out; simp; omega) ?_; (case hKM => intro x cs hk; exact hk); intro v7 w7 ho7 hb7 hg7 hat7; have HO7 := Aside0.mk ho7; have HB7 := Aside0.mk hb7; clear ho7 hb7 hg7 hat7))
    go_ret
    exact ⟨_, rfl, by simpa using HO7.out, HB7.out⟩
end Go.Proofs.Ytopikhjcbcpiaaa.Q
end
namespace Go.Proofs.Ytopikhjcbcpiaaa.Q
open Go.RowKit Go.Proofs.YtopikhjcbcpiaaaW.PrintWords Go.Proofs.YtopikhjcbcpiaaaW.PrintLast Go.Proofs.YtopikhjcbcpiaaaW.PrintMore
attribute [local go_sem] max2_int min2_int max_two min_two max_three min_three max_four min_four   -- for this text's walks alone
set_option linter.unusedVariables false
set_option linter.unusedSimpArgs false
def impl_copyRows.f (l0_0 : List Int) (a0_1 : Int) : Option (List Int × Int) := (slices_Clone_int_int.f l0_0).bind fun t604 => (some (t604, a0_1))
set_option maxHeartbeats 8000000 in
set_option maxRecDepth 100000 in
theorem impl_copyRows.calls (A0_0 : Option Addr) (c0_0 : Nat) (l0_0 : List Int) (a0_1 : Int) (r1 : List Int) (r2 : Int) (w : World) (hr0_0 : Kd.C (Kd.int .i64) w A0_0 l0_0.length l0_0) (hc0_0 : l0_0.length ≤ c0_0) (h : impl_copyRows.f l0_0 a0_1 = some (r1, r2)) :
  Calls Try.prog 104 #[.agg #[.slice A0_0 l0_0.length c0_0, .int .i64 a0_1]] w fun e w' => ∃ v0_ : Value, e = .returned (.agg #[v0_, .int .i64 r2]) ∧ Kd.R (Kd.int .i64) 3 w' w.heap.size (fun _ => True) v0_ r1 ∧ Below w.heap.size w w' := by
 have hu65 := Try.underlying65
 have HR0_0 := Aside0.mk hr0_0
 have HC0_0 := Aside0.mk hc0_0
 clear hr0_0 hc0_0
 have HB := Aside0.mk (Below.refl w.heap.size w)
 have H : ((slices_Clone_int_int.f l0_0).bind fun t604 => (some (t604, a0_1))) = some (r1, r2) := h
 clear h
 replace H := Option.bind_eq_some_iff.mp H
 obtain ⟨t604, A20, H⟩ := H
 replace H : (some (t604, a0_1)) = some (r1, r2) := H
 have A2 := Aside0.mk A20
 clear A20
 simp only [Option.some.injEq, Prod.mk.injEq] at H
 obtain ⟨rfl, rfl⟩ := H
 go_enter Try.func104, Try.ntmps104
 try go_wp2_with (first | ((with_reducible refine gate_dst (N := 1) rfl ?_); refine bx (N := 1) (cs := #[.slice A0_0 l0_0.length c0_0, .int .i64 a0_1]) (t := 65) ?_; intro gb602 hg w3 hbox hb; have BK602 := Aside0.mk (hbox); have GW602 := Aside0.mk (ge_ hg HB); have GE602 := Aside0.mk (ge_ hg HB); replace HB := bs HB hb; clear hb hbox hg) | ((with_reducible refine gate_dst (N := 2) rfl ?_); refine bx (N := 2) (cs := #[.slice none 0 0, .int .i64 0]) (t := 65) ?_; intro gb603 hg w4 hbox hb; have BK603 := Aside0.mk (hbox); have GW603 := Aside0.mk (ge_ hg HB); have GE603 := Aside0.mk (ge_ hg HB); replace HB := bs HB hb; have NB602_603 := Aside0.mk (nl_ hg BK602); have NB603_602 := Aside0.mk (ng_ hg BK602); replace BK602 := bb BK602 hb; clear hb hbox hg))
 replace BK602 := bd BK602
 replace BK603 := bd BK603
 replace HB := Aside0.mk (below_drew1 HB.out)
 refine start_ (n := 7) (S := fun w' => w'.cell? ⟨gb602, 0, none⟩ = some (.slice A0_0 l0_0.length c0_0) ∧ w'.cell? ⟨gb602, 1, none⟩ = some (.int .i64 a0_1)) (ds := []) #[false, false, false, false, false, false, false] (by kernel_rfl) rfl rfl ⟨cz BK602 0, cz BK602 1⟩ (fun hHeld => ?_)
 generalize w4.drew = w5 at BK602 BK603 HB hHeld ⊢
 refine pu 0 3 ?_
 refine pu 3 6 ?_
 refine ta 1 4 ?_
 refine ta 4 7 ?_
 refine one_ (i := 2) (N := some 5) #[true, true, true, true, true, false, false] rfl rfl (by kernel_rfl) (by decide) (fun K hK => ?_)
 refine gS Try.func158 #[.slice A0_0 l0_0.length c0_0] ?_
 with_reducible refine (slices_Clone_int_int.calls _ _ l0_0 t604 _ ?side1 ?side2 A2.out).mono ?_
 (case side1 => exact kc HR0_0 HB)
 (case side2 => exact HC0_0.out)
 rintro e w6 ⟨v605, rfl, ho0, hb⟩
 refine ⟨_, rfl, ?_⟩
 have HO606 := Aside0.mk (Kd.R_lower ho0 (below_size (tb HB)))
 replace BK602 := bb BK602 hb
 replace BK603 := bb BK603 hb
 replace HB := bs HB hb
 (try clear hb)
 (try clear hb2)
 (try clear hk)
 (try clear hi)
 (try clear ho0)
 obtain ⟨Ao7, co7, eo7⟩ := Kd.R_slice HO606.out
 (first | subst eo7 | (injection eo7 with f1_ f2_ f3_; have f4_ := f1_.symm; have f5_ := f3_.symm; clear f1_ f2_ f3_; subst f4_; subst f5_))
 refine hK.out _ _ ⟨cz BK602 0, cz BK602 1⟩ (fun hHeld => ?_)
 clear hK K
 refine nm 5 ?_
 refine pu 5 8 ?_
 refine one_ (i := 6) (N := none) #[true, true, true, true, true, true, true] rfl rfl (by kernel_rfl) (by decide) (fun K hK => ?_)
 have hs8 : w6.cell? ⟨gb603, 0, none⟩ = some (.slice none 0 0) := cz BK603 0
 have hfs8 := blk_frozen BK603.out 0
 have hns8_0 := NB602_603.out
 have hms8_0 := NB603_602.out
 have hs9 : w6.cell? ⟨gb603, 1, none⟩ = some (.int .i64 0) := cz BK603 1
 have hfs9 := blk_frozen BK603.out 1
 have hns9_0 := NB602_603.out
 have hms9_0 := NB603_602.out
 refine skip_ (w1 := ?_) (by rfl) rfl ?_ ?_
 rotate_left
 ·go_simp
  rfl
 refine hK.out _ _ ⟨((cell_far (p := ⟨gb603, _, none⟩) NB602_603.out _).trans (((cell_far (p := ⟨gb603, _, none⟩) NB602_603.out _).trans (hHeld.1)))), ((cell_far (p := ⟨gb603, _, none⟩) NB602_603.out _).trans (((cell_far (p := ⟨gb603, _, none⟩) NB602_603.out _).trans (hHeld.2))))⟩ (fun hHeld => ?_)
 clear hK K
 refine done_ (by kernel_rfl) ?_
 try go_wp2
 refine bodyPost_ret (results_cell_row rfl _ _ gb603 65 #[.slice Ao7 t604.length co7, .int .i64 a0_1] (0, 0) _ rfl (by (with_reducible repeat (first | refine blk_drewN ?_ _ | refine blk_drew ?_ | refine blk_alloc ?_ _)); refine blk_put (cs := #[.slice Ao7 t604.length co7, .int .i64 0]) ?_ 1 _ rfl; (with_reducible repeat (first | refine blk_drewN ?_ _ | refine blk_drew ?_ | refine blk_alloc ?_ _)); refine blk_put (cs := #[.slice none 0 0, .int .i64 0]) ?_ 0 _ rfl; (with_reducible repeat (first | refine blk_drewN ?_ _ | refine blk_drew ?_ | refine blk_alloc ?_ _)); exact BK603.out) Try.underlying65 rfl (by kernel_rfl)) rfl ?_
 exact ⟨_, er, by (with_reducible repeat (first | apply Kd.R_alloc | apply Kd.R_drewN | apply Kd.R_drew)); exact Kd.R_mono (Kd.R_far (p := ⟨gb603, 1, none⟩) (Kd.R_far (p := ⟨gb603, 0, none⟩) (Kd.R_types HO606.out BK603.out (by decide)) (fun _ hk => hk.2) (.slice Ao7 t604.length co7)) (fun _ hk => hk.2) (.int .i64 a0_1)) (fun _ hk => trivial), tb HB⟩
mutual
def impl_After.j0 : Nat → Bool → Int → Int → Int → List Int → Int → Option (List Int × Int)
 | 0, _, _, _, _, _, _ => none
 | k + 1, x19, x609000, x609001, x609002, x616000, x616001 => if x19 = true then (some (x616000, x616001)) else (if x609000 = 1 then (impl_After.j1 k x609000 (x609000 == 1) x609000 x609001 x609002 x616000 x616001) else (impl_After.j1 k x609000 (x609000 == 2) x609000 x609001 x609002 x616000 x616001))
def impl_After.j1 : Nat → Int → Bool → Int → Int → Int → List Int → Int → Option (List Int × Int)
 | 0, _, _, _, _, _, _, _ => none
 | k + 1, x22, x23, x609000, x609001, x609002, x616000, x616001 => if x23 = true then (if 0 ≤ x609001 then (if x609001 < (x616000.length : Int) then (some ((x616000.set (x609001 : Int).toNat x609002), x616001)) else (none)) else (none)) else (if x22 = 3 then (if 0 ≤ x609001 then (if x609001 < (x616000.length : Int) then (some ((x616000.set (x609001 : Int).toNat 0), x616001)) else (none)) else (none)) else (if x22 = 8 then (some (x616000, wrap64 (x616001 + 1))) else (if x22 = 9 then (some (x616000, wrap64 (x616001 + 1))) else (some (x616000, x616001)))))
end
def impl_After.f (k : Nat) (l0_0 : List Int) (a0_1 : Int) (a1_0 : Int) (a1_1 : Int) (a1_2 : Int) (a2_0 : Int) (l2_1 : List Int) : Option (List Int × Int) := (impl_copyRows.f l0_0 a0_1).bind fun bt611 => ((impl_Allowed.f k l0_0 a0_1 a1_0 a1_1 a1_2 a2_0 l2_1).bind fun t616 => (if t616 = true then (impl_After.j0 k (a2_0 != 0) a1_0 a1_1 a1_2 bt611.1 bt611.2) else (impl_After.j0 k true a1_0 a1_1 a1_2 bt611.1 bt611.2)))
theorem impl_After.mono_l : ∀ k, (∀ y0 y1 y2 y3 y4 y5, LeO (impl_After.j0 k y0 y1 y2 y3 y4 y5) (impl_After.j0 (k + 1) y0 y1 y2 y3 y4 y5)) ∧ (∀ y0 y1 y2 y3 y4 y5 y6, LeO (impl_After.j1 k y0 y1 y2 y3 y4 y5 y6) (impl_After.j1 (k + 1) y0 y1 y2 y3 y4 y5 y6))
 | 0 => ⟨fun _ _ _ _ _ _ r h => by simp [impl_After.j0] at h, fun _ _ _ _ _ _ _ r h => by simp [impl_After.j1] at h⟩
 | k + 1 => by
  obtain ⟨ih0, ih1⟩ := impl_After.mono_l k
  refine ⟨?_, ?_⟩
  ·intro y0 y1 y2 y3 y4 y5
   unfold impl_After.j0
   repeat' first
   | (with_reducible exact ih0 _ _ _ _ _ _)
   | (with_reducible exact ih1 _ _ _ _ _ _ _)
   | (with_reducible exact impl_Allowed.mono _ _ _ _ _ _ _ _)
   | (with_reducible exact LeO.refl _)
   | (with_reducible exact LeO.none _)
   | (with_reducible refine LeO.ite ?_ ?_)
   | (with_reducible refine LeO.bind ?_ (fun _ => ?_))
   | exact ih0 _ _ _ _ _ _
   | exact ih1 _ _ _ _ _ _ _
   | exact impl_Allowed.mono _ _ _ _ _ _ _ _
   | exact LeO.none _
   | refine LeO.ite ?_ ?_
   | refine LeO.bind ?_ (fun _ => ?_)
  ·intro y0 y1 y2 y3 y4 y5 y6
   unfold impl_After.j1
   repeat' first
   | (with_reducible exact ih0 _ _ _ _ _ _)
   | (with_reducible exact ih1 _ _ _ _ _ _ _)
   | (with_reducible exact impl_Allowed.mono _ _ _ _ _ _ _ _)
   | (with_reducible exact LeO.refl _)
   | (with_reducible exact LeO.none _)
   | (with_reducible refine LeO.ite ?_ ?_)
   | (with_reducible refine LeO.bind ?_ (fun _ => ?_))
   | exact ih0 _ _ _ _ _ _
   | exact ih1 _ _ _ _ _ _ _
   | exact impl_Allowed.mono _ _ _ _ _ _ _ _
   | exact LeO.none _
   | refine LeO.ite ?_ ?_
   | refine LeO.bind ?_ (fun _ => ?_)
theorem impl_After.mono : ∀ a0 a1 a2 a3 a4 a5 a6 k, LeO (impl_After.f k a0 a1 a2 a3 a4 a5 a6) (impl_After.f (k + 1) a0 a1 a2 a3 a4 a5 a6) := by
 intro a0 a1 a2 a3 a4 a5 a6 k
 obtain ⟨ih0, ih1⟩ := impl_After.mono_l k
 unfold impl_After.f
 repeat' first
   | (with_reducible exact ih0 _ _ _ _ _ _)
   | (with_reducible exact ih1 _ _ _ _ _ _ _)
   | (with_reducible exact impl_Allowed.mono _ _ _ _ _ _ _ _)
   | (with_reducible exact LeO.refl _)
   | (with_reducible exact LeO.none _)
   | (with_reducible refine LeO.ite ?_ ?_)
   | (with_reducible refine LeO.bind ?_ (fun _ => ?_))
   | exact ih0 _ _ _ _ _ _
   | exact ih1 _ _ _ _ _ _ _
   | exact impl_Allowed.mono _ _ _ _ _ _ _ _
   | exact LeO.none _
   | refine LeO.ite ?_ ?_
   | refine LeO.bind ?_ (fun _ => ?_)
set_option maxHeartbeats 8000000 in
set_option maxRecDepth 100000 in
theorem impl_After.calls (k : Nat) (A0_0 : Option Addr) (c0_0 : Nat) (l0_0 : List Int) (a0_1 : Int) (a1_0 : Int) (a1_1 : Int) (a1_2 : Int) (a2_0 : Int) (A2_1 : Option Addr) (c2_1 : Nat) (l2_1 : List Int) (r1 : List Int) (r2 : Int) (w : World) (hr0_0 : Kd.C (Kd.int .i64) w A0_0 l0_0.length l0_0) (hc0_0 : l0_0.length ≤ c0_0) (hr2_1 : Kd.C (Kd.int .i64) w A2_1 l2_1.length l2_1) (hc2_1 : l2_1.length ≤ c2_1) (h : impl_After.f k l0_0 a0_1 a1_0 a1_1 a1_2 a2_0 l2_1 = some (r1, r2)) :
  Calls Try.prog 38 #[.agg #[.slice A0_0 l0_0.length c0_0, .int .i64 a0_1], .agg #[.int .i64 a1_0, .int .i64 a1_1, .int .i64 a1_2], .agg #[.int .i64 a2_0, .slice A2_1 l2_1.length c2_1]] w fun e w' => ∃ v0_ : Value, e = .returned (.agg #[v0_, .int .i64 r2]) ∧ Kd.R (Kd.int .i64) 3 w' w.heap.size (fun _ => True) v0_ r1 ∧ Below w.heap.size w w' := by
 have hu65 := Try.underlying65
 have hu68 := Try.underlying68
 have hu70 := Try.underlying70
 have HR0_0 := Aside0.mk hr0_0
 have HC0_0 := Aside0.mk hc0_0
 clear hr0_0 hc0_0
 have HR2_1 := Aside0.mk hr2_1
 have HC2_1 := Aside0.mk hc2_1
 clear hr2_1 hc2_1
 have HB := Aside0.mk (Below.refl w.heap.size w)
 have H : ((impl_copyRows.f l0_0 a0_1).bind fun bt611 => ((impl_Allowed.f k l0_0 a0_1 a1_0 a1_1 a1_2 a2_0 l2_1).bind fun t616 => (if t616 = true then (impl_After.j0 k (a2_0 != 0) a1_0 a1_1 a1_2 bt611.1 bt611.2) else (impl_After.j0 k true a1_0 a1_1 a1_2 bt611.1 bt611.2)))) = some (r1, r2) := h
 clear h
 replace H := Option.bind_eq_some_iff.mp H
 obtain ⟨⟨t611, t614⟩, A40, H⟩ := H
 replace H : ((impl_Allowed.f k l0_0 a0_1 a1_0 a1_1 a1_2 a2_0 l2_1).bind fun t616 => (if t616 = true then (impl_After.j0 k (a2_0 != 0) a1_0 a1_1 a1_2 t611 t614) else (impl_After.j0 k true a1_0 a1_1 a1_2 t611 t614))) = some (r1, r2) := H
 have A4 := Aside0.mk A40
 clear A40
 have HC5 := Aside0.mk H
 clear H
 go_enter Try.func38, Try.ntmps38
 go_upto_region 2 with (first | ((with_reducible refine gate_dst (N := 3) rfl ?_); refine bx (N := 3) (cs := #[.slice A0_0 l0_0.length c0_0, .int .i64 a0_1]) (t := 65) ?_; intro gb607 hg w6 hbox hb; have BK607 := Aside0.mk (hbox); have GW607 := Aside0.mk (ge_ hg HB); have GE607 := Aside0.mk (ge_ hg HB); replace HB := bs HB hb; clear hb hbox hg) | ((with_reducible refine gate_dst (N := 4) rfl ?_); refine bx (N := 4) (cs := #[.int .i64 a1_0, .int .i64 a1_1, .int .i64 a1_2]) (t := 68) ?_; intro gb608 hg w7 hbox hb; have BK608 := Aside0.mk (hbox); have GW608 := Aside0.mk (ge_ hg HB); have GE608 := Aside0.mk (ge_ hg HB); replace HB := bs HB hb; have NB607_608 := Aside0.mk (nl_ hg BK607); have NB608_607 := Aside0.mk (ng_ hg BK607); replace BK607 := bb BK607 hb; clear hb hbox hg) | ((with_reducible refine gate_dst (N := 5) rfl ?_); refine bx (N := 5) (cs := #[.int .i64 a2_0, .slice A2_1 l2_1.length c2_1]) (t := 70) ?_; intro gb609 hg w8 hbox hb; have BK609 := Aside0.mk (hbox); have GW609 := Aside0.mk (ge_ hg HB); have GE609 := Aside0.mk (ge_ hg HB); replace HB := bs HB hb; have NB607_609 := Aside0.mk (nl_ hg BK607); have NB609_607 := Aside0.mk (ng_ hg BK607); replace BK607 := bb BK607 hb; have NB608_609 := Aside0.mk (nl_ hg BK608); have NB609_608 := Aside0.mk (ng_ hg BK608); replace BK608 := bb BK608 hb; clear hb hbox hg) | ((with_reducible refine gate_dst (N := 6) rfl ?_); refine bx (N := 6) (cs := #[.slice none 0 0, .int .i64 0]) (t := 65) ?_; intro gb610 hg w9 hbox hb; have BK610 := Aside0.mk (hbox); have GW610 := Aside0.mk (ge_ hg HB); have GE610 := Aside0.mk (ge_ hg HB); replace HB := bs HB hb; have NB607_610 := Aside0.mk (nl_ hg BK607); have NB610_607 := Aside0.mk (ng_ hg BK607); replace BK607 := bb BK607 hb; have NB608_610 := Aside0.mk (nl_ hg BK608); have NB610_608 := Aside0.mk (ng_ hg BK608); replace BK608 := bb BK608 hb; have NB609_610 := Aside0.mk (nl_ hg BK609); have NB610_609 := Aside0.mk (ng_ hg BK609); replace BK609 := bb BK609 hb; clear hb hbox hg; have hnb10 := NB607_608.out; have hnc10 := NB608_607.out; have hnb11 := NB607_609.out; have hnc11 := NB609_607.out; have hnb12 := NB607_610.out; have hnc12 := NB610_607.out; obtain ⟨hcz13_0, hcz13_1, hfz13_0, hfz13_1⟩ := c2 BK607) | ((with_reducible refine gate_callee (f := 104) rfl ?_); refine gL 9 Try.func104 #[.agg #[.slice A0_0 l0_0.length c0_0, .int .i64 a0_1]] ?_; (with_reducible refine (impl_copyRows.calls _ _ l0_0 a0_1 t611 t614 _ ?side1 ?side2 A4.out).mono ?_); (case side1 => exact kc HR0_0 HB); (case side2 => exact HC0_0.out); rintro e w14 ⟨v612, rfl, ho0, hb⟩; refine ⟨_, rfl, ?_⟩; have HO613 := Aside0.mk (Kd.R_lower ho0 (below_size (tb HB))); replace BK607 := bb BK607 hb; replace BK608 := bb BK608 hb; replace BK609 := bb BK609 hb; replace BK610 := bb BK610 hb; replace HB := bs HB hb; (try clear hb); (try clear hb2); (try clear hk); (try clear hi); (try clear ho0)) | ((with_reducible refine gate_dst (N := 7) rfl ?_); refine bx (N := 7) (cs := #[.slice none 0 0, .int .i64 0]) (t := 65) ?_; intro gb615 hg w15 hbox hb; replace HO613 := rb HO613 hb; have BK615 := Aside0.mk (hbox); have GW615 := Aside0.mk (ge_ hg HB); have GE615 := Aside0.mk (ge_ hg HB); replace HB := bs HB hb; have NB607_615 := Aside0.mk (nl_ hg BK607); have NB615_607 := Aside0.mk (ng_ hg BK607); replace BK607 := bb BK607 hb; have NB608_615 := Aside0.mk (nl_ hg BK608); have NB615_608 := Aside0.mk (ng_ hg BK608); replace BK608 := bb BK608 hb; have NB609_615 := Aside0.mk (nl_ hg BK609); have NB615_609 := Aside0.mk (ng_ hg BK609); replace BK609 := bb BK609 hb; have NB610_615 := Aside0.mk (nl_ hg BK610); have NB615_610 := Aside0.mk (ng_ hg BK610); replace BK610 := bb BK610 hb; clear hb hbox hg; obtain ⟨Ao16, co16, eo16⟩ := Kd.R_slice HO613.out; subst eo16; have hnb17 := NB615_607.out; have hnc17 := NB607_615.out; have hnb18 := NB615_608.out; have hnc18 := NB608_615.out; have hnb19 := NB615_609.out; have hnc19 := NB609_615.out; have hnb20 := NB615_610.out; have hnc20 := NB610_615.out; obtain ⟨hcz21_0, hcz21_1, hfz21_0, hfz21_1⟩ := c2 BK615))
 (try simp only [Act.put, sA, sB, sC])
 go_cut [19] (fun v19 wc => ∃ (kq : Nat) (x19_4 : Bool), v19 = .bool x19_4 ∧ Aside0 (impl_After.j0 kq x19_4 a1_0 a1_1 a1_2 t611 t614 = some (r1, r2)) ∧ Aside0 (kq ≤ k) ∧ Aside0 (Kd.R (Kd.int .i64) 3 wc w.heap.size (fun _ => True) (.slice Ao16 t611.length co16) t611) ∧ Aside0 (wc.heap[gb607]? = some (.cells #[(.slice A0_0 l0_0.length c0_0), .int .i64 a0_1] 65 (0, 0))) ∧ Aside0 (wc.heap[gb608]? = some (.cells #[.int .i64 a1_0, .int .i64 a1_1, .int .i64 a1_2] 68 (0, 0))) ∧ Aside0 (wc.heap[gb609]? = some (.cells #[.int .i64 a2_0, (.slice A2_1 l2_1.length c2_1)] 70 (0, 0))) ∧ Aside0 (wc.heap[gb610]? = some (.cells #[(.slice none 0 0), .int .i64 0] 65 (0, 0))) ∧ Aside0 (wc.heap[gb615]? = some (.cells #[(.slice Ao16 t611.length co16), .int .i64 t614] 65 (0, 0))) ∧ Aside0 (Below w.heap.size w wc))
 case first =>
  have H := HC5.out
  clear HC5
  replace H := Option.bind_eq_some_iff.mp H
  obtain ⟨t616, A220, H⟩ := H
  replace H : (if t616 = true then (impl_After.j0 k (a2_0 != 0) a1_0 a1_1 a1_2 t611 t614) else (impl_After.j0 k true a1_0 a1_1 a1_2 t611 t614)) = some (r1, r2) := H
  have A22 := Aside0.mk A220
  clear A220
  by_cases c23 : t616 = true
  ·subst c23
   have H1 : (impl_After.j0 k (a2_0 != 0) a1_0 a1_1 a1_2 t611 t614) = some (r1, r2) := by rw [if_pos rfl] at H; exact H
   clear H
   have H := H1
   clear H1
   have H' := Aside0.mk H
   clear H
   have hnb24 := NB607_608.out
   have hnc24 := NB608_607.out
   have hnb25 := NB607_609.out
   have hnc25 := NB609_607.out
   have hnb26 := NB607_610.out
   have hnc26 := NB610_607.out
   have hnb27 := NB607_615.out
   have hnc27 := NB615_607.out
   obtain ⟨hcz28_0, hcz28_1, hfz28_0, hfz28_1⟩ := c2 BK607
   have hnb29 := NB608_609.out
   have hnc29 := NB609_608.out
   have hnb30 := NB608_610.out
   have hnc30 := NB610_608.out
   have hnb31 := NB608_615.out
   have hnc31 := NB615_608.out
   obtain ⟨hcz32_0, hcz32_1, hcz32_2, hfz32_0, hfz32_1, hfz32_2⟩ := c3 BK608
   have hnb33 := NB609_610.out
   have hnc33 := NB610_609.out
   have hnb34 := NB609_615.out
   have hnc34 := NB615_609.out
   obtain ⟨hcz35_0, hcz35_1, hfz35_0, hfz35_1⟩ := c2 BK609
   go_wp2_with (first | ((with_reducible refine gate_callee (f := 46) rfl ?_); refine gL 13 Try.func46 #[.agg #[.slice A0_0 l0_0.length c0_0, .int .i64 a0_1], .agg #[.int .i64 a1_0, .int .i64 a1_1, .int .i64 a1_2], .agg #[.int .i64 a2_0, .slice A2_1 l2_1.length c2_1]] ?_; (with_reducible refine (impl_Allowed.calls k _ _ l0_0 a0_1 a1_0 a1_1 a1_2 a2_0 _ _ l2_1 true _ ?side1 ?side2 ?side3 ?side4 A22.out).mono ?_); (case side1 => exact Kd.C_below HR0_0.out (tb HB)); (case side2 => exact HC0_0.out); (case side3 => exact Kd.C_below HR2_1.out (tb HB)); (case side4 => exact HC2_1.out); rintro e w36 ⟨rfl, hb⟩; refine ⟨_, rfl, ?_⟩; replace HO613 := Aside0.mk (Kd.R_below (kr ((Kd.R_mono (Kd.R_far (p := ⟨gb615, 1, none⟩) (Kd.R_far (p := ⟨gb615, 0, none⟩) (Kd.R_types HO613.out BK615.out (by decide)) (fun _ hk => hk.2) (.slice Ao16 t611.length co16)) (fun _ hk => hk.2) (.int .i64 t614)) (fun _ h_ => h_.1)))) hb); replace BK607 := Aside0.mk (blk_below (g := gb607) (o := .cells #[.slice A0_0 l0_0.length c0_0, .int .i64 a0_1] 65 (0, 0)) (by (with_reducible repeat (first | refine blk_drewN ?_ _ | refine blk_drew ?_ | refine blk_alloc ?_ _)); refine blk_far ?_ NB607_615.out _; (with_reducible repeat (first | refine blk_drewN ?_ _ | refine blk_drew ?_ | refine blk_alloc ?_ _)); refine blk_far ?_ NB607_615.out _; (with_reducible repeat (first | refine blk_drewN ?_ _ | refine blk_drew ?_ | refine blk_alloc ?_ _)); exact BK607.out) hb); replace BK608 := Aside0.mk (blk_below (g := gb608) (o := .cells #[.int .i64 a1_0, .int .i64 a1_1, .int .i64 a1_2] 68 (0, 0)) (by (with_reducible repeat (first | refine blk_drewN ?_ _ | refine blk_drew ?_ | refine blk_alloc ?_ _)); refine blk_far ?_ NB608_615.out _; (with_reducible repeat (first | refine blk_drewN ?_ _ | refine blk_drew ?_ | refine blk_alloc ?_ _)); refine blk_far ?_ NB608_615.out _; (with_reducible repeat (first | refine blk_drewN ?_ _ | refine blk_drew ?_ | refine blk_alloc ?_ _)); exact BK608.out) hb); replace BK609 := Aside0.mk (blk_below (g := gb609) (o := .cells #[.int .i64 a2_0, .slice A2_1 l2_1.length c2_1] 70 (0, 0)) (by (with_reducible repeat (first | refine blk_drewN ?_ _ | refine blk_drew ?_ | refine blk_alloc ?_ _)); refine blk_far ?_ NB609_615.out _; (with_reducible repeat (first | refine blk_drewN ?_ _ | refine blk_drew ?_ | refine blk_alloc ?_ _)); refine blk_far ?_ NB609_615.out _; (with_reducible repeat (first | refine blk_drewN ?_ _ | refine blk_drew ?_ | refine blk_alloc ?_ _)); exact BK609.out) hb); replace BK610 := Aside0.mk (blk_below (g := gb610) (o := .cells #[.slice none 0 0, .int .i64 0] 65 (0, 0)) (by (with_reducible repeat (first | refine blk_drewN ?_ _ | refine blk_drew ?_ | refine blk_alloc ?_ _)); refine blk_far ?_ NB610_615.out _; (with_reducible repeat (first | refine blk_drewN ?_ _ | refine blk_drew ?_ | refine blk_alloc ?_ _)); refine blk_far ?_ NB610_615.out _; (with_reducible repeat (first | refine blk_drewN ?_ _ | refine blk_drew ?_ | refine blk_alloc ?_ _)); exact BK610.out) hb); replace BK615 := Aside0.mk (blk_below (g := gb615) (o := .cells #[.slice Ao16 t611.length co16, .int .i64 t614] 65 (0, 0)) (by (with_reducible repeat (first | refine blk_drewN ?_ _ | refine blk_drew ?_ | refine blk_alloc ?_ _)); refine blk_put (cs := #[.slice Ao16 t611.length co16, .int .i64 0]) ?_ 1 _ rfl; (with_reducible repeat (first | refine blk_drewN ?_ _ | refine blk_drew ?_ | refine blk_alloc ?_ _)); refine blk_put (cs := #[.slice none 0 0, .int .i64 0]) ?_ 0 _ rfl; (with_reducible repeat (first | refine blk_drewN ?_ _ | refine blk_drew ?_ | refine blk_alloc ?_ _)); exact BK615.out) hb); replace HB := bs HB hb; (try clear hb); (try clear hb2); (try clear hk); (try clear hi); obtain ⟨hcz37_0, hcz37_1, hfz37_0, hfz37_1⟩ := c2 BK609))
   go_meet
   case rel => exact ⟨_, ((a2_0 != 0)), (by first | rfl | (simp; done) | (simp [*]; done)), H', ⟨by first | omega | exact Nat.le_refl _⟩, ⟨kr HO613.out⟩, ⟨by (with_reducible repeat (first | refine blk_drewN ?_ _ | refine blk_drew ?_ | refine blk_alloc ?_ _)); exact BK607.out⟩, ⟨by (with_reducible repeat (first | refine blk_drewN ?_ _ | refine blk_drew ?_ | refine blk_alloc ?_ _)); exact BK608.out⟩, ⟨by (with_reducible repeat (first | refine blk_drewN ?_ _ | refine blk_drew ?_ | refine blk_alloc ?_ _)); exact BK609.out⟩, ⟨by (with_reducible repeat (first | refine blk_drewN ?_ _ | refine blk_drew ?_ | refine blk_alloc ?_ _)); exact BK610.out⟩, ⟨by (with_reducible repeat (first | refine blk_drewN ?_ _ | refine blk_drew ?_ | refine blk_alloc ?_ _)); exact BK615.out⟩, ⟨tb HB⟩⟩
  ·replace c23 := Bool.eq_false_iff.mpr c23
   subst c23
   have H1 : (impl_After.j0 k true a1_0 a1_1 a1_2 t611 t614) = some (r1, r2) := by rw [if_neg (show ¬ (false = true) by decide)] at H; exact H
   clear H
   have H := H1
   clear H1
   have H' := Aside0.mk H
   clear H
   have hnb38 := NB607_608.out
   have hnc38 := NB608_607.out
   have hnb39 := NB607_609.out
   have hnc39 := NB609_607.out
   have hnb40 := NB607_610.out
   have hnc40 := NB610_607.out
   have hnb41 := NB607_615.out
   have hnc41 := NB615_607.out
   obtain ⟨hcz42_0, hcz42_1, hfz42_0, hfz42_1⟩ := c2 BK607
   have hnb43 := NB608_609.out
   have hnc43 := NB609_608.out
   have hnb44 := NB608_610.out
   have hnc44 := NB610_608.out
   have hnb45 := NB608_615.out
   have hnc45 := NB615_608.out
   obtain ⟨hcz46_0, hcz46_1, hcz46_2, hfz46_0, hfz46_1, hfz46_2⟩ := c3 BK608
   have hnb47 := NB609_610.out
   have hnc47 := NB610_609.out
   have hnb48 := NB609_615.out
   have hnc48 := NB615_609.out
   obtain ⟨hcz49_0, hcz49_1, hfz49_0, hfz49_1⟩ := c2 BK609
   go_wp2_with (first | ((with_reducible refine gate_callee (f := 46) rfl ?_); refine gL 13 Try.func46 #[.agg #[.slice A0_0 l0_0.length c0_0, .int .i64 a0_1], .agg #[.int .i64 a1_0, .int .i64 a1_1, .int .i64 a1_2], .agg #[.int .i64 a2_0, .slice A2_1 l2_1.length c2_1]] ?_; (with_reducible refine (impl_Allowed.calls k _ _ l0_0 a0_1 a1_0 a1_1 a1_2 a2_0 _ _ l2_1 false _ ?side1 ?side2 ?side3 ?side4 A22.out).mono ?_); (case side1 => exact Kd.C_below HR0_0.out (tb HB)); (case side2 => exact HC0_0.out); (case side3 => exact Kd.C_below HR2_1.out (tb HB)); (case side4 => exact HC2_1.out); rintro e w50 ⟨rfl, hb⟩; refine ⟨_, rfl, ?_⟩; replace HO613 := Aside0.mk (Kd.R_below (kr ((Kd.R_mono (Kd.R_far (p := ⟨gb615, 1, none⟩) (Kd.R_far (p := ⟨gb615, 0, none⟩) (Kd.R_types HO613.out BK615.out (by decide)) (fun _ hk => hk.2) (.slice Ao16 t611.length co16)) (fun _ hk => hk.2) (.int .i64 t614)) (fun _ h_ => h_.1)))) hb); replace BK607 := Aside0.mk (blk_below (g := gb607) (o := .cells #[.slice A0_0 l0_0.length c0_0, .int .i64 a0_1] 65 (0, 0)) (by (with_reducible repeat (first | refine blk_drewN ?_ _ | refine blk_drew ?_ | refine blk_alloc ?_ _)); refine blk_far ?_ NB607_615.out _; (with_reducible repeat (first | refine blk_drewN ?_ _ | refine blk_drew ?_ | refine blk_alloc ?_ _)); refine blk_far ?_ NB607_615.out _; (with_reducible repeat (first | refine blk_drewN ?_ _ | refine blk_drew ?_ | refine blk_alloc ?_ _)); exact BK607.out) hb); replace BK608 := Aside0.mk (blk_below (g := gb608) (o := .cells #[.int .i64 a1_0, .int .i64 a1_1, .int .i64 a1_2] 68 (0, 0)) (by (with_reducible repeat (first | refine blk_drewN ?_ _ | refine blk_drew ?_ | refine blk_alloc ?_ _)); refine blk_far ?_ NB608_615.out _; (with_reducible repeat (first | refine blk_drewN ?_ _ | refine blk_drew ?_ | refine blk_alloc ?_ _)); refine blk_far ?_ NB608_615.out _; (with_reducible repeat (first | refine blk_drewN ?_ _ | refine blk_drew ?_ | refine blk_alloc ?_ _)); exact BK608.out) hb); replace BK609 := Aside0.mk (blk_below (g := gb609) (o := .cells #[.int .i64 a2_0, .slice A2_1 l2_1.length c2_1] 70 (0, 0)) (by (with_reducible repeat (first | refine blk_drewN ?_ _ | refine blk_drew ?_ | refine blk_alloc ?_ _)); refine blk_far ?_ NB609_615.out _; (with_reducible repeat (first | refine blk_drewN ?_ _ | refine blk_drew ?_ | refine blk_alloc ?_ _)); refine blk_far ?_ NB609_615.out _; (with_reducible repeat (first | refine blk_drewN ?_ _ | refine blk_drew ?_ | refine blk_alloc ?_ _)); exact BK609.out) hb); replace BK610 := Aside0.mk (blk_below (g := gb610) (o := .cells #[.slice none 0 0, .int .i64 0] 65 (0, 0)) (by (with_reducible repeat (first | refine blk_drewN ?_ _ | refine blk_drew ?_ | refine blk_alloc ?_ _)); refine blk_far ?_ NB610_615.out _; (with_reducible repeat (first | refine blk_drewN ?_ _ | refine blk_drew ?_ | refine blk_alloc ?_ _)); refine blk_far ?_ NB610_615.out _; (with_reducible repeat (first | refine blk_drewN ?_ _ | refine blk_drew ?_ | refine blk_alloc ?_ _)); exact BK610.out) hb); replace BK615 := Aside0.mk (blk_below (g := gb615) (o := .cells #[.slice Ao16 t611.length co16, .int .i64 t614] 65 (0, 0)) (by (with_reducible repeat (first | refine blk_drewN ?_ _ | refine blk_drew ?_ | refine blk_alloc ?_ _)); refine blk_put (cs := #[.slice Ao16 t611.length co16, .int .i64 0]) ?_ 1 _ rfl; (with_reducible repeat (first | refine blk_drewN ?_ _ | refine blk_drew ?_ | refine blk_alloc ?_ _)); refine blk_put (cs := #[.slice none 0 0, .int .i64 0]) ?_ 0 _ rfl; (with_reducible repeat (first | refine blk_drewN ?_ _ | refine blk_drew ?_ | refine blk_alloc ?_ _)); exact BK615.out) hb); replace HB := bs HB hb; (try clear hb); (try clear hb2); (try clear hk); (try clear hi)))
   go_meet
   case rel => exact ⟨_, (true), (by first | rfl | (simp; done) | (simp [*]; done)), H', ⟨by first | omega | exact Nat.le_refl _⟩, ⟨kr HO613.out⟩, ⟨by (with_reducible repeat (first | refine blk_drewN ?_ _ | refine blk_drew ?_ | refine blk_alloc ?_ _)); exact BK607.out⟩, ⟨by (with_reducible repeat (first | refine blk_drewN ?_ _ | refine blk_drew ?_ | refine blk_alloc ?_ _)); exact BK608.out⟩, ⟨by (with_reducible repeat (first | refine blk_drewN ?_ _ | refine blk_drew ?_ | refine blk_alloc ?_ _)); exact BK609.out⟩, ⟨by (with_reducible repeat (first | refine blk_drewN ?_ _ | refine blk_drew ?_ | refine blk_alloc ?_ _)); exact BK610.out⟩, ⟨by (with_reducible repeat (first | refine blk_drewN ?_ _ | refine blk_drew ?_ | refine blk_alloc ?_ _)); exact BK615.out⟩, ⟨tb HB⟩⟩
 case rest =>
  clear HC5
  try clear c1
  try clear c2
  try clear p2
  try clear c3
  try clear c4
  try clear c10
  try clear c11
  try clear c12
  try clear c17
  try clear c18
  try clear c19
  try clear c20
  try clear c23
  try clear c24
  try clear c25
  try clear c26
  try clear c27
  try clear c29
  try clear c30
  try clear c31
  try clear c33
  try clear c34
  try clear c38
  try clear c39
  try clear c40
  try clear c41
  try clear c43
  try clear c44
  try clear c45
  try clear c46
  try clear c47
  try clear c48
  try clear hcz13_0
  try clear hcz13_1
  try clear hcz21_0
  try clear hcz21_1
  try clear hcz28_0
  try clear hcz28_1
  try clear hcz32_0
  try clear hcz32_1
  try clear hcz32_2
  try clear hcz35_0
  try clear hcz35_1
  try clear hcz37_0
  try clear hcz37_1
  try clear hcz42_0
  try clear hcz42_1
  try clear hcz46_0
  try clear hcz46_1
  try clear hcz46_2
  try clear hcz49_0
  try clear hcz49_1
  try clear hfz13_0
  try clear hfz13_1
  try clear hfz21_0
  try clear hfz21_1
  try clear hfz28_0
  try clear hfz28_1
  try clear hfz32_0
  try clear hfz32_1
  try clear hfz32_2
  try clear hfz35_0
  try clear hfz35_1
  try clear hfz37_0
  try clear hfz37_1
  try clear hfz42_0
  try clear hfz42_1
  try clear hfz46_0
  try clear hfz46_1
  try clear hfz46_2
  try clear hfz49_0
  try clear hfz49_1
  obtain ⟨kq, x19_4, rfl, HA, HJ4, HO_616000, BK607, BK608, BK609, BK610, BK615, HB⟩ := hcut
  cases kq with
  | zero => exact absurd HA.out (by simp [impl_After.j0])
  | succ kj4 =>
   have H := HA.out
   clear HA
   simp only [impl_After.j0] at H
   by_cases c51 : x19_4 = true
   ·subst c51
    have H1 : (some (t611, t614)) = some (r1, r2) := by rw [if_pos rfl] at H; exact H
    clear H
    have H := H1
    clear H1
    simp only [Option.some.injEq, Prod.mk.injEq] at H
    obtain ⟨rfl, rfl⟩ := H
    have hnb52 := NB615_607.out
    have hnc52 := NB607_615.out
    have hnb53 := NB615_608.out
    have hnc53 := NB608_615.out
    have hnb54 := NB615_609.out
    have hnc54 := NB609_615.out
    have hnb55 := NB615_610.out
    have hnc55 := NB610_615.out
    obtain ⟨hcz56_0, hcz56_1, hfz56_0, hfz56_1⟩ := c2 BK615
    have hnb57 := NB610_607.out
    have hnc57 := NB607_610.out
    have hnb58 := NB610_608.out
    have hnc58 := NB608_610.out
    have hnb59 := NB610_609.out
    have hnc59 := NB609_610.out
    obtain ⟨hcz60_0, hcz60_1, hfz60_0, hfz60_1⟩ := c2 BK610
    go_wp2
    refine bodyPost_ret (results_cell_row rfl _ _ gb610 65 #[.slice Ao16 t611.length co16, .int .i64 t614] (0, 0) _ rfl (by (with_reducible repeat (first | refine blk_drewN ?_ _ | refine blk_drew ?_ | refine blk_alloc ?_ _)); refine blk_put (cs := #[.slice Ao16 t611.length co16, .int .i64 0]) ?_ 1 _ rfl; (with_reducible repeat (first | refine blk_drewN ?_ _ | refine blk_drew ?_ | refine blk_alloc ?_ _)); refine blk_put (cs := #[.slice none 0 0, .int .i64 0]) ?_ 0 _ rfl; (with_reducible repeat (first | refine blk_drewN ?_ _ | refine blk_drew ?_ | refine blk_alloc ?_ _)); exact BK610.out) Try.underlying65 rfl (by kernel_rfl)) rfl ?_
    exact ⟨_, er, by (with_reducible repeat (first | apply Kd.R_alloc | apply Kd.R_drewN | apply Kd.R_drew)); exact Kd.R_mono (Kd.R_far (p := ⟨gb610, 1, none⟩) (Kd.R_far (p := ⟨gb610, 0, none⟩) (Kd.R_types HO_616000.out BK610.out (by decide)) (fun _ hk => hk.2) (.slice Ao16 t611.length co16)) (fun _ hk => hk.2) (.int .i64 t614)) (fun _ hk => trivial), tb HB⟩
   ·replace c51 := Bool.eq_false_iff.mpr c51
    subst c51
    have H1 : (if a1_0 = 1 then (impl_After.j1 kj4 a1_0 (a1_0 == 1) a1_0 a1_1 a1_2 t611 t614) else (impl_After.j1 kj4 a1_0 (a1_0 == 2) a1_0 a1_1 a1_2 t611 t614)) = some (r1, r2) := by rw [if_neg (show ¬ (false = true) by decide)] at H; exact H
    clear H
    have H := H1
    clear H1
    have HC61 := Aside0.mk H
    clear H
    have hnb62 := NB608_607.out
    have hnc62 := NB607_608.out
    have hnb63 := NB608_609.out
    have hnc63 := NB609_608.out
    have hnb64 := NB608_610.out
    have hnc64 := NB610_608.out
    have hnb65 := NB608_615.out
    have hnc65 := NB615_608.out
    obtain ⟨hcz66_0, hcz66_1, hcz66_2, hfz66_0, hfz66_1, hfz66_2⟩ := c3 BK608
    go_upto_if 23 with (fail)
    go_cut [23] (fun v23 wc => ∃ (kq : Nat) (x23_60 : Bool), v23 = .bool x23_60 ∧ Aside0 (impl_After.j1 kq a1_0 x23_60 a1_0 a1_1 a1_2 t611 t614 = some (r1, r2)) ∧ Aside0 (kq ≤ kj4) ∧ Aside0 (Kd.R (Kd.int .i64) 3 wc w.heap.size (fun _ => True) (.slice Ao16 t611.length co16) t611) ∧ Aside0 (wc.heap[gb607]? = some (.cells #[(.slice A0_0 l0_0.length c0_0), .int .i64 a0_1] 65 (0, 0))) ∧ Aside0 (wc.heap[gb608]? = some (.cells #[.int .i64 a1_0, .int .i64 a1_1, .int .i64 a1_2] 68 (0, 0))) ∧ Aside0 (wc.heap[gb609]? = some (.cells #[.int .i64 a2_0, (.slice A2_1 l2_1.length c2_1)] 70 (0, 0))) ∧ Aside0 (wc.heap[gb610]? = some (.cells #[(.slice none 0 0), .int .i64 0] 65 (0, 0))) ∧ Aside0 (wc.heap[gb615]? = some (.cells #[(.slice Ao16 t611.length co16), .int .i64 t614] 65 (0, 0))) ∧ Aside0 (Below w.heap.size w wc))
    case first =>
     have H := HC61.out
     clear HC61
     by_cases c67 : a1_0 = 1
     ·rw [if_pos c67] at H
      have c67b0 : (a1_0 == 1) = true := beq_iff_eq.mpr c67
      have c67b1 : (a1_0 != 1) = false := bne_eq_false_iff_eq.mpr c67
      clear c67
      (first | rw [c67b0] | (simp only [i64_w, i32_w]; rw [c67b0]) | skip)
      have H' := Aside0.mk H
      clear H
      go_wp2
      go_meet
      case rel => exact ⟨_, ((a1_0 == 1)), (by first | rfl | (simp; done) | (simp [*]; done)), H', ⟨by have := HJ4.out; first | omega | exact Nat.le_refl _⟩, ⟨kr HO_616000.out⟩, ⟨by (with_reducible repeat (first | refine blk_drewN ?_ _ | refine blk_drew ?_ | refine blk_alloc ?_ _)); exact BK607.out⟩, ⟨by (with_reducible repeat (first | refine blk_drewN ?_ _ | refine blk_drew ?_ | refine blk_alloc ?_ _)); exact BK608.out⟩, ⟨by (with_reducible repeat (first | refine blk_drewN ?_ _ | refine blk_drew ?_ | refine blk_alloc ?_ _)); exact BK609.out⟩, ⟨by (with_reducible repeat (first | refine blk_drewN ?_ _ | refine blk_drew ?_ | refine blk_alloc ?_ _)); exact BK610.out⟩, ⟨by (with_reducible repeat (first | refine blk_drewN ?_ _ | refine blk_drew ?_ | refine blk_alloc ?_ _)); exact BK615.out⟩, ⟨tb HB⟩⟩
     ·rw [if_neg c67] at H
      have c67b0 : (a1_0 == 1) = false := beq_eq_false_iff_ne.mpr c67
      have c67b1 : (a1_0 != 1) = true := bne_iff_ne.mpr c67
      (first | rw [c67b0] | (simp only [i64_w, i32_w]; rw [c67b0]) | skip)
      have H' := Aside0.mk H
      clear H
      go_wp2
      go_meet
      case rel => exact ⟨_, ((a1_0 == 2)), (by first | rfl | (simp; done) | (simp [*]; done)), H', ⟨by have := HJ4.out; first | omega | exact Nat.le_refl _⟩, ⟨kr HO_616000.out⟩, ⟨by (with_reducible repeat (first | refine blk_drewN ?_ _ | refine blk_drew ?_ | refine blk_alloc ?_ _)); exact BK607.out⟩, ⟨by (with_reducible repeat (first | refine blk_drewN ?_ _ | refine blk_drew ?_ | refine blk_alloc ?_ _)); exact BK608.out⟩, ⟨by (with_reducible repeat (first | refine blk_drewN ?_ _ | refine blk_drew ?_ | refine blk_alloc ?_ _)); exact BK609.out⟩, ⟨by (with_reducible repeat (first | refine blk_drewN ?_ _ | refine blk_drew ?_ | refine blk_alloc ?_ _)); exact BK610.out⟩, ⟨by (with_reducible repeat (first | refine blk_drewN ?_ _ | refine blk_drew ?_ | refine blk_alloc ?_ _)); exact BK615.out⟩, ⟨tb HB⟩⟩
    case rest =>
     clear HC61
     try clear c1
     try clear c2
     try clear p2
     try clear c3
     try clear c4
     try clear c5
     try clear c6
     try clear c10
     try clear c11
     try clear c12
     try clear c17
     try clear c18
     try clear c19
     try clear c20
     try clear c23
     try clear c24
     try clear c25
     try clear c26
     try clear c27
     try clear c29
     try clear c30
     try clear c31
     try clear c33
     try clear c34
     try clear c38
     try clear c39
     try clear c40
     try clear c41
     try clear c43
     try clear c44
     try clear c45
     try clear c46
     try clear c47
     try clear c48
     try clear c51
     try clear c52
     try clear c53
     try clear c54
     try clear c55
     try clear c57
     try clear c58
     try clear c59
     try clear c62
     try clear c63
     try clear c64
     try clear c65
     try clear c67
     try clear c67b0
     try clear c67b1
     try clear hcz13_0
     try clear hcz13_1
     try clear hcz21_0
     try clear hcz21_1
     try clear hcz28_0
     try clear hcz28_1
     try clear hcz32_0
     try clear hcz32_1
     try clear hcz32_2
     try clear hcz35_0
     try clear hcz35_1
     try clear hcz37_0
     try clear hcz37_1
     try clear hcz42_0
     try clear hcz42_1
     try clear hcz46_0
     try clear hcz46_1
     try clear hcz46_2
     try clear hcz49_0
     try clear hcz49_1
     try clear hcz56_0
     try clear hcz56_1
     try clear hcz60_0
     try clear hcz60_1
     try clear hcz66_0
     try clear hcz66_1
     try clear hcz66_2
     try clear hfz13_0
     try clear hfz13_1
     try clear hfz21_0
     try clear hfz21_1
     try clear hfz28_0
     try clear hfz28_1
     try clear hfz32_0
     try clear hfz32_1
     try clear hfz32_2
     try clear hfz35_0
     try clear hfz35_1
     try clear hfz37_0
     try clear hfz37_1
     try clear hfz42_0
     try clear hfz42_1
     try clear hfz46_0
     try clear hfz46_1
     try clear hfz46_2
     try clear hfz49_0
     try clear hfz49_1
     try clear hfz56_0
     try clear hfz56_1
     try clear hfz60_0
     try clear hfz60_1
     try clear hfz66_0
     try clear hfz66_1
     try clear hfz66_2
     try clear p2
     obtain ⟨kq, x23_60, rfl, HA, HJ60, HO_616000, BK607, BK608, BK609, BK610, BK615, HB⟩ := hcut
     cases kq with
     | zero => exact absurd HA.out (by simp [impl_After.j1])
     | succ kj60 =>
      have H := HA.out
      clear HA
      simp only [impl_After.j1] at H
      by_cases c68 : x23_60 = true
      ·subst c68
       have H1 : (if 0 ≤ a1_1 then (if a1_1 < (t611.length : Int) then (some ((t611.set (a1_1 : Int).toNat a1_2), t614)) else (none)) else (none)) = some (r1, r2) := by rw [if_pos rfl] at H; exact H
       clear H
       have H := H1
       clear H1
       by_cases c69 : 0 ≤ a1_1
       ·rw [if_pos c69] at H
        have c69b0 := decide_eq_true c69
        clear c69
        by_cases c70 : a1_1 < (t611.length : Int)
        ·rw [if_pos c70] at H
         have c70b0 := decide_eq_true c70
         clear c70
         obtain ⟨y617, hy617⟩ : ∃ y_ : List Int, y_ = (t611.set (a1_1 : Int).toNat a1_2) := ⟨_, rfl⟩
         replace H : (some (y617, t614)) = some (r1, r2) := by first | (rw [hy617]; with_reducible exact H) | (have H2_ := (Option.bind_some _ _).symm.trans H; rw [hy617]; with_reducible exact H2_) | (have H2_ := (Option.bind_some _ _).symm.trans H; with_reducible exact H2_) | with_reducible exact H | (rw [hy617]; exact H) | exact H
         have Ny617 := Aside0.mk hy617
         clear hy617
         simp only [Option.some.injEq, Prod.mk.injEq] at H
         obtain ⟨rfl, rfl⟩ := H
         have hnb72 := NB615_607.out
         have hnc72 := NB607_615.out
         have hnb73 := NB615_608.out
         have hnc73 := NB608_615.out
         have hnb74 := NB615_609.out
         have hnc74 := NB609_615.out
         have hnb75 := NB615_610.out
         have hnc75 := NB610_615.out
         obtain ⟨hcz76_0, hcz76_1, hfz76_0, hfz76_1⟩ := c2 BK615
         have hnb77 := NB608_607.out
         have hnc77 := NB607_608.out
         have hnb78 := NB608_609.out
         have hnc78 := NB609_608.out
         have hnb79 := NB608_610.out
         have hnc79 := NB610_608.out
         obtain ⟨hcz80_0, hcz80_1, hcz80_2, hfz80_0, hfz80_1, hfz80_2⟩ := c3 BK608
         have p71 : 0 ≤ (a1_1 : Int) := od
         have q71 : (a1_1 : Int) < ((t611.length : Int) : Int) := od
         obtain ⟨go71, co71, eo71, gb71, gl71, cl71, HG71⟩ := Kd.R_form HO_616000.out (by omega)
         (first | cases eo71 | (injection eo71 with ea_ en_ ec_; (first | subst ea_ | (injection ea_ with ea_; subst ea_)); subst ec_; clear en_))
         have GB71 := Aside0.mk gb71
         have GG71 := Aside0.mk HG71
         clear gb71 gl71 HG71
         obtain ⟨hx71_0, hf71_0⟩ := Kd.R_celln 0 HO_616000.out (a1_1 : Int) p71 q71
         replace p71 := eq_true p71
         replace q71 := eq_true q71
         have HP81 := Kd.R_putg HO_616000.out (a1_1 : Int) a1_2
         go_wp2_with (first | ((with_reducible refine gate_store (t := 3) (p := 32) rfl ?_); refine store_event (t := 3) (p := 32) (v := ?vo_w82) (w1 := (wc.setCell ⟨go71, (a1_1 : Int).toNat, none⟩ (.int .i64 a1_2))) ?hg ?ho ?hn ?hr ?_; (case ho => rfl); (case hg => rfl); (case hn => rfl); (case hr => first | (go_simp; done) | (go_simp; rfl)); intro w82 hw; have hg : wc.grownBy w82 (some go71) := (by rw [hw]; exact HP81.2); have hp_ : Kd.R (Kd.int .i64) 3 w82 w.heap.size (fun _ => True) (.slice (some ⟨go71, 0, none⟩) t611.length co16) y617 := (by rw [hw, Ny617.out]; exact HP81.1); clear HP81; replace BK607 := Aside0.mk (blk_grown (g := gb607) (o := .cells #[.slice A0_0 l0_0.length c0_0, .int .i64 a0_1] 65 (0, 0)) (bk BK607) hg (Kd.R_ne HO_616000.out BK607.out (by decide))); replace BK608 := Aside0.mk (blk_grown (g := gb608) (o := .cells #[.int .i64 a1_0, .int .i64 a1_1, .int .i64 a1_2] 68 (0, 0)) (bk BK608) hg (Kd.R_ne HO_616000.out BK608.out (by decide))); replace BK609 := Aside0.mk (blk_grown (g := gb609) (o := .cells #[.int .i64 a2_0, .slice A2_1 l2_1.length c2_1] 70 (0, 0)) (bk BK609) hg (Kd.R_ne HO_616000.out BK609.out (by decide))); replace BK610 := Aside0.mk (blk_grown (g := gb610) (o := .cells #[.slice none 0 0, .int .i64 0] 65 (0, 0)) (bk BK610) hg (Kd.R_ne HO_616000.out BK610.out (by decide))); replace BK615 := Aside0.mk (blk_grown (g := gb615) (o := .cells #[.slice (some ⟨go71, 0, none⟩) t611.length co16, .int .i64 t614] 65 (0, 0)) (bk BK615) hg (Kd.R_ne HO_616000.out BK615.out (by decide))); replace HO_616000 := Aside0.mk (hp_); replace HB := Aside0.mk ((by rw [hw]; exact below_set (HB.out) GB71.out : Below w.heap.size w w82)); clear hg hw hp_; obtain ⟨hcz83_0, hcz83_1, hfz83_0, hfz83_1⟩ := c2 BK615; have hnb84 := NB610_607.out; have hnc84 := NB607_610.out; have hnb85 := NB610_609.out; have hnc85 := NB609_610.out; obtain ⟨hcz86_0, hcz86_1, hfz86_0, hfz86_1⟩ := c2 BK610))
         refine bodyPost_ret (results_cell_row rfl _ _ gb610 65 #[.slice (some ⟨go71, 0, none⟩) t611.length co16, .int .i64 t614] (0, 0) _ rfl (by (with_reducible repeat (first | refine blk_drewN ?_ _ | refine blk_drew ?_ | refine blk_alloc ?_ _)); refine blk_put (cs := #[.slice (some ⟨go71, 0, none⟩) t611.length co16, .int .i64 0]) ?_ 1 _ rfl; (with_reducible repeat (first | refine blk_drewN ?_ _ | refine blk_drew ?_ | refine blk_alloc ?_ _)); refine blk_put (cs := #[.slice none 0 0, .int .i64 0]) ?_ 0 _ rfl; (with_reducible repeat (first | refine blk_drewN ?_ _ | refine blk_drew ?_ | refine blk_alloc ?_ _)); exact BK610.out) Try.underlying65 rfl (by kernel_rfl)) rfl ?_
         exact ⟨_, er, by (with_reducible repeat (first | apply Kd.R_alloc | apply Kd.R_drewN | apply Kd.R_drew)); exact Kd.R_mono (Kd.R_far (p := ⟨gb610, 1, none⟩) (Kd.R_far (p := ⟨gb610, 0, none⟩) (Kd.R_types HO_616000.out BK610.out (by decide)) (fun _ hk => hk.2) (.slice (some ⟨go71, 0, none⟩) t611.length co16)) (fun _ hk => hk.2) (.int .i64 t614)) (fun _ hk => trivial), tb HB⟩
        ·rw [if_neg c70] at H
         exact absurd H (by simp)
       ·rw [if_neg c69] at H
        exact absurd H (by simp)
      ·replace c68 := Bool.eq_false_iff.mpr c68
       subst c68
       have H1 : (if a1_0 = 3 then (if 0 ≤ a1_1 then (if a1_1 < (t611.length : Int) then (some ((t611.set (a1_1 : Int).toNat 0), t614)) else (none)) else (none)) else (if a1_0 = 8 then (some (t611, wrap64 (t614 + 1))) else (if a1_0 = 9 then (some (t611, wrap64 (t614 + 1))) else (some (t611, t614))))) = some (r1, r2) := by rw [if_neg (show ¬ (false = true) by decide)] at H; exact H
       clear H
       have H := H1
       clear H1
       by_cases c87 : a1_0 = 3
       ·rw [if_pos c87] at H
        have c87b0 : (a1_0 == 3) = true := beq_iff_eq.mpr c87
        have c87b1 : (a1_0 != 3) = false := bne_eq_false_iff_eq.mpr c87
        clear c87
        by_cases c88 : 0 ≤ a1_1
        ·rw [if_pos c88] at H
         have c88b0 := decide_eq_true c88
         clear c88
         by_cases c89 : a1_1 < (t611.length : Int)
         ·rw [if_pos c89] at H
          have c89b0 := decide_eq_true c89
          clear c89
          obtain ⟨y618, hy618⟩ : ∃ y_ : List Int, y_ = (t611.set (a1_1 : Int).toNat 0) := ⟨_, rfl⟩
          replace H : (some (y618, t614)) = some (r1, r2) := by first | (rw [hy618]; with_reducible exact H) | (have H2_ := (Option.bind_some _ _).symm.trans H; rw [hy618]; with_reducible exact H2_) | (have H2_ := (Option.bind_some _ _).symm.trans H; with_reducible exact H2_) | with_reducible exact H | (rw [hy618]; exact H) | exact H
          have Ny618 := Aside0.mk hy618
          clear hy618
          simp only [Option.some.injEq, Prod.mk.injEq] at H
          obtain ⟨rfl, rfl⟩ := H
          have hnb91 := NB615_607.out
          have hnc91 := NB607_615.out
          have hnb92 := NB615_608.out
          have hnc92 := NB608_615.out
          have hnb93 := NB615_609.out
          have hnc93 := NB609_615.out
          have hnb94 := NB615_610.out
          have hnc94 := NB610_615.out
          obtain ⟨hcz95_0, hcz95_1, hfz95_0, hfz95_1⟩ := c2 BK615
          have hnb96 := NB608_607.out
          have hnc96 := NB607_608.out
          have hnb97 := NB608_609.out
          have hnc97 := NB609_608.out
          have hnb98 := NB608_610.out
          have hnc98 := NB610_608.out
          obtain ⟨hcz99_0, hcz99_1, hcz99_2, hfz99_0, hfz99_1, hfz99_2⟩ := c3 BK608
          have p90 : 0 ≤ (a1_1 : Int) := od
          have q90 : (a1_1 : Int) < ((t611.length : Int) : Int) := od
          obtain ⟨go90, co90, eo90, gb90, gl90, cl90, HG90⟩ := Kd.R_form HO_616000.out (by omega)
          (first | cases eo90 | (injection eo90 with ea_ en_ ec_; (first | subst ea_ | (injection ea_ with ea_; subst ea_)); subst ec_; clear en_))
          have GB90 := Aside0.mk gb90
          have GG90 := Aside0.mk HG90
          clear gb90 gl90 HG90
          obtain ⟨hx90_0, hf90_0⟩ := Kd.R_celln 0 HO_616000.out (a1_1 : Int) p90 q90
          replace p90 := eq_true p90
          replace q90 := eq_true q90
          have HP100 := Kd.R_putg HO_616000.out (a1_1 : Int) 0
          go_wp2_with (first | ((with_reducible refine gate_store (t := 3) (p := 39) rfl ?_); refine store_event (t := 3) (p := 39) (v := ?vo_w101) (w1 := (wc.setCell ⟨go90, (a1_1 : Int).toNat, none⟩ (.int .i64 0))) ?hg ?ho ?hn ?hr ?_; (case ho => rfl); (case hg => rfl); (case hn => rfl); (case hr => first | (go_simp; done) | (go_simp; rfl)); intro w101 hw; have hg : wc.grownBy w101 (some go90) := (by rw [hw]; exact HP100.2); have hp_ : Kd.R (Kd.int .i64) 3 w101 w.heap.size (fun _ => True) (.slice (some ⟨go90, 0, none⟩) t611.length co16) y618 := (by rw [hw, Ny618.out]; exact HP100.1); clear HP100; replace BK607 := Aside0.mk (blk_grown (g := gb607) (o := .cells #[.slice A0_0 l0_0.length c0_0, .int .i64 a0_1] 65 (0, 0)) (bk BK607) hg (Kd.R_ne HO_616000.out BK607.out (by decide))); replace BK608 := Aside0.mk (blk_grown (g := gb608) (o := .cells #[.int .i64 a1_0, .int .i64 a1_1, .int .i64 a1_2] 68 (0, 0)) (bk BK608) hg (Kd.R_ne HO_616000.out BK608.out (by decide))); replace BK609 := Aside0.mk (blk_grown (g := gb609) (o := .cells #[.int .i64 a2_0, .slice A2_1 l2_1.length c2_1] 70 (0, 0)) (bk BK609) hg (Kd.R_ne HO_616000.out BK609.out (by decide))); replace BK610 := Aside0.mk (blk_grown (g := gb610) (o := .cells #[.slice none 0 0, .int .i64 0] 65 (0, 0)) (bk BK610) hg (Kd.R_ne HO_616000.out BK610.out (by decide))); replace BK615 := Aside0.mk (blk_grown (g := gb615) (o := .cells #[.slice (some ⟨go90, 0, none⟩) t611.length co16, .int .i64 t614] 65 (0, 0)) (bk BK615) hg (Kd.R_ne HO_616000.out BK615.out (by decide))); replace HO_616000 := Aside0.mk (hp_); replace HB := Aside0.mk ((by rw [hw]; exact below_set (HB.out) GB90.out : Below w.heap.size w w101)); clear hg hw hp_; obtain ⟨hcz102_0, hcz102_1, hfz102_0, hfz102_1⟩ := c2 BK615; have hnb103 := NB610_607.out; have hnc103 := NB607_610.out; have hnb104 := NB610_609.out; have hnc104 := NB609_610.out; obtain ⟨hcz105_0, hcz105_1, hfz105_0, hfz105_1⟩ := c2 BK610))
          refine bodyPost_ret (results_cell_row rfl _ _ gb610 65 #[.slice (some ⟨go90, 0, none⟩) t611.length co16, .int .i64 t614] (0, 0) _ rfl (by (with_reducible repeat (first | refine blk_drewN ?_ _ | refine blk_drew ?_ | refine blk_alloc ?_ _)); refine blk_put (cs := #[.slice (some ⟨go90, 0, none⟩) t611.length co16, .int .i64 0]) ?_ 1 _ rfl; (with_reducible repeat (first | refine blk_drewN ?_ _ | refine blk_drew ?_ | refine blk_alloc ?_ _)); refine blk_put (cs := #[.slice none 0 0, .int .i64 0]) ?_ 0 _ rfl; (with_reducible repeat (first | refine blk_drewN ?_ _ | refine blk_drew ?_ | refine blk_alloc ?_ _)); exact BK610.out) Try.underlying65 rfl (by kernel_rfl)) rfl ?_
          exact ⟨_, er, by (with_reducible repeat (first | apply Kd.R_alloc | apply Kd.R_drewN | apply Kd.R_drew)); exact Kd.R_mono (Kd.R_far (p := ⟨gb610, 1, none⟩) (Kd.R_far (p := ⟨gb610, 0, none⟩) (Kd.R_types HO_616000.out BK610.out (by decide)) (fun _ hk => hk.2) (.slice (some ⟨go90, 0, none⟩) t611.length co16)) (fun _ hk => hk.2) (.int .i64 t614)) (fun _ hk => trivial), tb HB⟩
         ·rw [if_neg c89] at H
          exact absurd H (by simp)
        ·rw [if_neg c88] at H
         exact absurd H (by simp)
       ·rw [if_neg c87] at H
        have c87b0 : (a1_0 == 3) = false := beq_eq_false_iff_ne.mpr c87
        have c87b1 : (a1_0 != 3) = true := bne_iff_ne.mpr c87
        by_cases c106 : a1_0 = 8
        ·rw [if_pos c106] at H
         have c106b0 : (a1_0 == 8) = true := beq_iff_eq.mpr c106
         have c106b1 : (a1_0 != 8) = false := bne_eq_false_iff_eq.mpr c106
         clear c106
         simp only [Option.some.injEq, Prod.mk.injEq] at H
         obtain ⟨rfl, rfl⟩ := H
         have hnb107 := NB615_607.out
         have hnc107 := NB607_615.out
         have hnb108 := NB615_608.out
         have hnc108 := NB608_615.out
         have hnb109 := NB615_609.out
         have hnc109 := NB609_615.out
         have hnb110 := NB615_610.out
         have hnc110 := NB610_615.out
         obtain ⟨hcz111_0, hcz111_1, hfz111_0, hfz111_1⟩ := c2 BK615
         have hnb112 := NB610_607.out
         have hnc112 := NB607_610.out
         have hnb113 := NB610_608.out
         have hnc113 := NB608_610.out
         have hnb114 := NB610_609.out
         have hnc114 := NB609_610.out
         obtain ⟨hcz115_0, hcz115_1, hfz115_0, hfz115_1⟩ := c2 BK610
         go_wp2
         refine bodyPost_ret (results_cell_row rfl _ _ gb610 65 #[.slice Ao16 t611.length co16, .int .i64 (wrap64 (t614 + 1))] (0, 0) _ rfl (by (with_reducible repeat (first | refine blk_drewN ?_ _ | refine blk_drew ?_ | refine blk_alloc ?_ _)); refine blk_put (cs := #[.slice Ao16 t611.length co16, .int .i64 0]) ?_ 1 _ rfl; (with_reducible repeat (first | refine blk_drewN ?_ _ | refine blk_drew ?_ | refine blk_alloc ?_ _)); refine blk_put (cs := #[.slice none 0 0, .int .i64 0]) ?_ 0 _ rfl; (with_reducible repeat (first | refine blk_drewN ?_ _ | refine blk_drew ?_ | refine blk_alloc ?_ _)); refine blk_far ?_ NB610_615.out _; (with_reducible repeat (first | refine blk_drewN ?_ _ | refine blk_drew ?_ | refine blk_alloc ?_ _)); exact BK610.out) Try.underlying65 rfl (by kernel_rfl)) rfl ?_
         exact ⟨_, er, by (with_reducible repeat (first | apply Kd.R_alloc | apply Kd.R_drewN | apply Kd.R_drew)); exact Kd.R_mono (Kd.R_far (p := ⟨gb610, 1, none⟩) (Kd.R_far (p := ⟨gb610, 0, none⟩) (Kd.R_far (p := ⟨gb615, 1, none⟩) (Kd.R_types (Kd.R_types HO_616000.out BK615.out (by decide)) BK610.out (by decide)) (fun _ hk => hk.1.2) (.int .i64 (wrap64 (t614 + 1)))) (fun _ hk => hk.2) (.slice Ao16 t611.length co16)) (fun _ hk => hk.2) (.int .i64 (wrap64 (t614 + 1)))) (fun _ hk => trivial), tb HB⟩
        ·rw [if_neg c106] at H
         have c106b0 : (a1_0 == 8) = false := beq_eq_false_iff_ne.mpr c106
         have c106b1 : (a1_0 != 8) = true := bne_iff_ne.mpr c106
         by_cases c116 : a1_0 = 9
         ·rw [if_pos c116] at H
          have c116b0 : (a1_0 == 9) = true := beq_iff_eq.mpr c116
          have c116b1 : (a1_0 != 9) = false := bne_eq_false_iff_eq.mpr c116
          clear c116
          simp only [Option.some.injEq, Prod.mk.injEq] at H
          obtain ⟨rfl, rfl⟩ := H
          have hnb117 := NB615_607.out
          have hnc117 := NB607_615.out
          have hnb118 := NB615_608.out
          have hnc118 := NB608_615.out
          have hnb119 := NB615_609.out
          have hnc119 := NB609_615.out
          have hnb120 := NB615_610.out
          have hnc120 := NB610_615.out
          obtain ⟨hcz121_0, hcz121_1, hfz121_0, hfz121_1⟩ := c2 BK615
          have hnb122 := NB610_607.out
          have hnc122 := NB607_610.out
          have hnb123 := NB610_608.out
          have hnc123 := NB608_610.out
          have hnb124 := NB610_609.out
          have hnc124 := NB609_610.out
          obtain ⟨hcz125_0, hcz125_1, hfz125_0, hfz125_1⟩ := c2 BK610
          go_wp2
          refine bodyPost_ret (results_cell_row rfl _ _ gb610 65 #[.slice Ao16 t611.length co16, .int .i64 (wrap64 (t614 + 1))] (0, 0) _ rfl (by (with_reducible repeat (first | refine blk_drewN ?_ _ | refine blk_drew ?_ | refine blk_alloc ?_ _)); refine blk_put (cs := #[.slice Ao16 t611.length co16, .int .i64 0]) ?_ 1 _ rfl; (with_reducible repeat (first | refine blk_drewN ?_ _ | refine blk_drew ?_ | refine blk_alloc ?_ _)); refine blk_put (cs := #[.slice none 0 0, .int .i64 0]) ?_ 0 _ rfl; (with_reducible repeat (first | refine blk_drewN ?_ _ | refine blk_drew ?_ | refine blk_alloc ?_ _)); refine blk_far ?_ NB610_615.out _; (with_reducible repeat (first | refine blk_drewN ?_ _ | refine blk_drew ?_ | refine blk_alloc ?_ _)); exact BK610.out) Try.underlying65 rfl (by kernel_rfl)) rfl ?_
          exact ⟨_, er, by (with_reducible repeat (first | apply Kd.R_alloc | apply Kd.R_drewN | apply Kd.R_drew)); exact Kd.R_mono (Kd.R_far (p := ⟨gb610, 1, none⟩) (Kd.R_far (p := ⟨gb610, 0, none⟩) (Kd.R_far (p := ⟨gb615, 1, none⟩) (Kd.R_types (Kd.R_types HO_616000.out BK615.out (by decide)) BK610.out (by decide)) (fun _ hk => hk.1.2) (.int .i64 (wrap64 (t614 + 1)))) (fun _ hk => hk.2) (.slice Ao16 t611.length co16)) (fun _ hk => hk.2) (.int .i64 (wrap64 (t614 + 1)))) (fun _ hk => trivial), tb HB⟩
         ·rw [if_neg c116] at H
          have c116b0 : (a1_0 == 9) = false := beq_eq_false_iff_ne.mpr c116
          have c116b1 : (a1_0 != 9) = true := bne_iff_ne.mpr c116
          simp only [Option.some.injEq, Prod.mk.injEq] at H
          obtain ⟨rfl, rfl⟩ := H
          have hnb126 := NB615_607.out
          have hnc126 := NB607_615.out
          have hnb127 := NB615_608.out
          have hnc127 := NB608_615.out
          have hnb128 := NB615_609.out
          have hnc128 := NB609_615.out
          have hnb129 := NB615_610.out
          have hnc129 := NB610_615.out
          obtain ⟨hcz130_0, hcz130_1, hfz130_0, hfz130_1⟩ := c2 BK615
          have hnb131 := NB610_607.out
          have hnc131 := NB607_610.out
          have hnb132 := NB610_608.out
          have hnc132 := NB608_610.out
          have hnb133 := NB610_609.out
          have hnc133 := NB609_610.out
          obtain ⟨hcz134_0, hcz134_1, hfz134_0, hfz134_1⟩ := c2 BK610
          go_wp2
          refine bodyPost_ret (results_cell_row rfl _ _ gb610 65 #[.slice Ao16 t611.length co16, .int .i64 t614] (0, 0) _ rfl (by (with_reducible repeat (first | refine blk_drewN ?_ _ | refine blk_drew ?_ | refine blk_alloc ?_ _)); refine blk_put (cs := #[.slice Ao16 t611.length co16, .int .i64 0]) ?_ 1 _ rfl; (with_reducible repeat (first | refine blk_drewN ?_ _ | refine blk_drew ?_ | refine blk_alloc ?_ _)); refine blk_put (cs := #[.slice none 0 0, .int .i64 0]) ?_ 0 _ rfl; (with_reducible repeat (first | refine blk_drewN ?_ _ | refine blk_drew ?_ | refine blk_alloc ?_ _)); exact BK610.out) Try.underlying65 rfl (by kernel_rfl)) rfl ?_
          exact ⟨_, er, by (with_reducible repeat (first | apply Kd.R_alloc | apply Kd.R_drewN | apply Kd.R_drew)); exact Kd.R_mono (Kd.R_far (p := ⟨gb610, 1, none⟩) (Kd.R_far (p := ⟨gb610, 0, none⟩) (Kd.R_types HO_616000.out BK610.out (by decide)) (fun _ hk => hk.2) (.slice Ao16 t611.length co16)) (fun _ hk => hk.2) (.int .i64 t614)) (fun _ hk => trivial), tb HB⟩
def laws_eqRows.f (k : Nat) (l0_0 : List Int) (a0_1 : Int) (l1_0 : List Int) (a1_1 : Int) : Option (Bool) := (laws_eqIntS.f k l0_0 l1_0).bind fun t621 => (if t621 = true then (if a0_1 = a1_1 then (some true) else (some false)) else (some false))
theorem laws_eqRows.mono : ∀ a0 a1 a2 a3 k, LeO (laws_eqRows.f k a0 a1 a2 a3) (laws_eqRows.f (k + 1) a0 a1 a2 a3) := by
 intro a0 a1 a2 a3 k
 unfold laws_eqRows.f
 repeat' first
   | (with_reducible exact laws_eqIntS.mono _ _ _)
   | (with_reducible exact LeO.refl _)
   | (with_reducible exact LeO.none _)
   | (with_reducible refine LeO.ite ?_ ?_)
   | (with_reducible refine LeO.bind ?_ (fun _ => ?_))
   | exact laws_eqIntS.mono _ _ _
   | exact LeO.none _
   | refine LeO.ite ?_ ?_
   | refine LeO.bind ?_ (fun _ => ?_)
set_option maxHeartbeats 8000000 in
set_option maxRecDepth 100000 in
theorem laws_eqRows.calls (k : Nat) (A0_0 : Option Addr) (c0_0 : Nat) (l0_0 : List Int) (a0_1 : Int) (A1_0 : Option Addr) (c1_0 : Nat) (l1_0 : List Int) (a1_1 : Int) (r : Bool) (w : World) (hr0_0 : Kd.C (Kd.int .i64) w A0_0 l0_0.length l0_0) (hc0_0 : l0_0.length ≤ c0_0) (hr1_0 : Kd.C (Kd.int .i64) w A1_0 l1_0.length l1_0) (hc1_0 : l1_0.length ≤ c1_0) (h : laws_eqRows.f k l0_0 a0_1 l1_0 a1_1 = some r) :
  Calls Try.prog 39 #[.agg #[.slice A0_0 l0_0.length c0_0, .int .i64 a0_1], .agg #[.slice A1_0 l1_0.length c1_0, .int .i64 a1_1]] w fun e w' => e = .returned (.bool r) ∧ Below w.heap.size w w' := by
 have hu65 := Try.underlying65
 have HR0_0 := Aside0.mk hr0_0
 have HC0_0 := Aside0.mk hc0_0
 clear hr0_0 hc0_0
 have HR1_0 := Aside0.mk hr1_0
 have HC1_0 := Aside0.mk hc1_0
 clear hr1_0 hc1_0
 have HB := Aside0.mk (Below.refl w.heap.size w)
 have H : ((laws_eqIntS.f k l0_0 l1_0).bind fun t621 => (if t621 = true then (if a0_1 = a1_1 then (some true) else (some false)) else (some false))) = some r := h
 clear h
 replace H := Option.bind_eq_some_iff.mp H
 obtain ⟨t621, A30, H⟩ := H
 replace H : (if t621 = true then (if a0_1 = a1_1 then (some true) else (some false)) else (some false)) = some r := H
 have A3 := Aside0.mk A30
 clear A30
 by_cases c4 : t621 = true
 ·subst c4
  have H1 : (if a0_1 = a1_1 then (some true) else (some false)) = some r := by rw [if_pos rfl] at H; exact H
  clear H
  have H := H1
  clear H1
  by_cases c5 : a0_1 = a1_1
  ·rw [if_pos c5] at H
   have c5b0 : (a0_1 == a1_1) = true := beq_iff_eq.mpr c5
   have c5b1 : (a0_1 != a1_1) = false := bne_eq_false_iff_eq.mpr c5
   clear c5
   obtain rfl := Option.some.inj H
   go_enter Try.func39, Try.ntmps39
   go_wp2_with (first | ((with_reducible refine gate_dst (N := 2) rfl ?_); refine bx (N := 2) (cs := #[.slice A0_0 l0_0.length c0_0, .int .i64 a0_1]) (t := 65) ?_; intro gb619 hg w6 hbox hb; have BK619 := Aside0.mk (hbox); have GW619 := Aside0.mk (ge_ hg HB); have GE619 := Aside0.mk (ge_ hg HB); replace HB := bs HB hb; clear hb hbox hg) | ((with_reducible refine gate_dst (N := 3) rfl ?_); refine bx (N := 3) (cs := #[.slice A1_0 l1_0.length c1_0, .int .i64 a1_1]) (t := 65) ?_; intro gb620 hg w7 hbox hb; have BK620 := Aside0.mk (hbox); have GW620 := Aside0.mk (ge_ hg HB); have GE620 := Aside0.mk (ge_ hg HB); replace HB := bs HB hb; have NB619_620 := Aside0.mk (nl_ hg BK619); have NB620_619 := Aside0.mk (ng_ hg BK619); replace BK619 := bb BK619 hb; clear hb hbox hg; have hnb8 := NB619_620.out; have hnc8 := NB620_619.out; obtain ⟨hcz9_0, hcz9_1, hfz9_0, hfz9_1⟩ := c2 BK619; obtain ⟨hcz10_0, hcz10_1, hfz10_0, hfz10_1⟩ := c2 BK620) | ((with_reducible refine gate_callee (f := 14) rfl ?_); refine gL 9 Try.func14 #[.slice A0_0 l0_0.length c0_0, .slice A1_0 l1_0.length c1_0] ?_; (with_reducible refine (laws_eqIntS.calls k _ _ l0_0 _ _ l1_0 true _ ?side1 ?side2 ?side3 ?side4 A3.out).mono ?_); (case side1 => exact kc HR0_0 HB); (case side2 => exact HC0_0.out); (case side3 => exact kc HR1_0 HB); (case side4 => exact HC1_0.out); rintro e w' ⟨rfl, ⟨nd, rfl⟩⟩; refine ⟨_, rfl, ?_⟩))
   go_ret
   exact ⟨er, tb HB⟩
  ·rw [if_neg c5] at H
   have c5b0 : (a0_1 == a1_1) = false := beq_eq_false_iff_ne.mpr c5
   have c5b1 : (a0_1 != a1_1) = true := bne_iff_ne.mpr c5
   obtain rfl := Option.some.inj H
   go_enter Try.func39, Try.ntmps39
   go_wp2_with (first | ((with_reducible refine gate_dst (N := 2) rfl ?_); refine bx (N := 2) (cs := #[.slice A0_0 l0_0.length c0_0, .int .i64 a0_1]) (t := 65) ?_; intro gb619 hg w11 hbox hb; have BK619 := Aside0.mk (hbox); have GW619 := Aside0.mk (ge_ hg HB); have GE619 := Aside0.mk (ge_ hg HB); replace HB := bs HB hb; clear hb hbox hg) | ((with_reducible refine gate_dst (N := 3) rfl ?_); refine bx (N := 3) (cs := #[.slice A1_0 l1_0.length c1_0, .int .i64 a1_1]) (t := 65) ?_; intro gb620 hg w12 hbox hb; have BK620 := Aside0.mk (hbox); have GW620 := Aside0.mk (ge_ hg HB); have GE620 := Aside0.mk (ge_ hg HB); replace HB := bs HB hb; have NB619_620 := Aside0.mk (nl_ hg BK619); have NB620_619 := Aside0.mk (ng_ hg BK619); replace BK619 := bb BK619 hb; clear hb hbox hg; have hnb13 := NB619_620.out; have hnc13 := NB620_619.out; obtain ⟨hcz14_0, hcz14_1, hfz14_0, hfz14_1⟩ := c2 BK619; obtain ⟨hcz15_0, hcz15_1, hfz15_0, hfz15_1⟩ := c2 BK620) | ((with_reducible refine gate_callee (f := 14) rfl ?_); refine gL 9 Try.func14 #[.slice A0_0 l0_0.length c0_0, .slice A1_0 l1_0.length c1_0] ?_; (with_reducible refine (laws_eqIntS.calls k _ _ l0_0 _ _ l1_0 true _ ?side1 ?side2 ?side3 ?side4 A3.out).mono ?_); (case side1 => exact kc HR0_0 HB); (case side2 => exact HC0_0.out); (case side3 => exact kc HR1_0 HB); (case side4 => exact HC1_0.out); rintro e w' ⟨rfl, ⟨nd, rfl⟩⟩; refine ⟨_, rfl, ?_⟩))
   go_ret
   exact ⟨er, tb HB⟩
 ·replace c4 := Bool.eq_false_iff.mpr c4
  subst c4
  have H1 : (some false) = some r := by rw [if_neg (show ¬ (false = true) by decide)] at H; exact H
  clear H
  have H := H1
  clear H1
  obtain rfl := Option.some.inj H
  go_enter Try.func39, Try.ntmps39
  go_wp2_with (first | ((with_reducible refine gate_dst (N := 2) rfl ?_); refine bx (N := 2) (cs := #[.slice A0_0 l0_0.length c0_0, .int .i64 a0_1]) (t := 65) ?_; intro gb619 hg w16 hbox hb; have BK619 := Aside0.mk (hbox); have GW619 := Aside0.mk (ge_ hg HB); have GE619 := Aside0.mk (ge_ hg HB); replace HB := bs HB hb; clear hb hbox hg) | ((with_reducible refine gate_dst (N := 3) rfl ?_); refine bx (N := 3) (cs := #[.slice A1_0 l1_0.length c1_0, .int .i64 a1_1]) (t := 65) ?_; intro gb620 hg w17 hbox hb; have BK620 := Aside0.mk (hbox); have GW620 := Aside0.mk (ge_ hg HB); have GE620 := Aside0.mk (ge_ hg HB); replace HB := bs HB hb; have NB619_620 := Aside0.mk (nl_ hg BK619); have NB620_619 := Aside0.mk (ng_ hg BK619); replace BK619 := bb BK619 hb; clear hb hbox hg; have hnb18 := NB619_620.out; have hnc18 := NB620_619.out; obtain ⟨hcz19_0, hcz19_1, hfz19_0, hfz19_1⟩ := c2 BK619; obtain ⟨hcz20_0, hcz20_1, hfz20_0, hfz20_1⟩ := c2 BK620) | ((with_reducible refine gate_callee (f := 14) rfl ?_); refine gL 9 Try.func14 #[.slice A0_0 l0_0.length c0_0, .slice A1_0 l1_0.length c1_0] ?_; (with_reducible refine (laws_eqIntS.calls k _ _ l0_0 _ _ l1_0 false _ ?side1 ?side2 ?side3 ?side4 A3.out).mono ?_); (case side1 => exact kc HR0_0 HB); (case side2 => exact HC0_0.out); (case side3 => exact kc HR1_0 HB); (case side4 => exact HC1_0.out); rintro e w' ⟨rfl, ⟨nd, rfl⟩⟩; refine ⟨_, rfl, ?_⟩))
  go_ret
  exact ⟨er, tb HB⟩
def laws_markIntS.l0 : Nat → List Int → Int → Int → Option (Int × List Int)
 | 0, _, _, _ => none
 | k + 1, x0, x1, x5 => if x5 < (x0.length : Int) then (if 0 ≤ x5 then (laws_markIntS.l0 k (x0.set (x5 : Int).toNat x1) (wrap64 (x1 + 1)) (wrap64 (x5 + 1))) else (none)) else (some (x1, x0))
def laws_markIntS.f (k : Nat) (l0 : List Int) (a1 : Int) : Option (Int × List Int) := laws_markIntS.l0 k l0 a1 0
theorem laws_markIntS.mono_l : ∀ k, (∀ y0 y1 y2, LeO (laws_markIntS.l0 k y0 y1 y2) (laws_markIntS.l0 (k + 1) y0 y1 y2))
 | 0 => fun _ _ _ r h => by simp [laws_markIntS.l0] at h
 | k + 1 => by
  have ih0 := laws_markIntS.mono_l k
  ·intro y0 y1 y2
   unfold laws_markIntS.l0
   repeat' first
   | (with_reducible exact ih0 _ _ _)
   | (with_reducible exact LeO.refl _)
   | (with_reducible exact LeO.none _)
   | (with_reducible refine LeO.ite ?_ ?_)
   | (with_reducible refine LeO.bind ?_ (fun _ => ?_))
   | exact ih0 _ _ _
   | exact LeO.none _
   | refine LeO.ite ?_ ?_
   | refine LeO.bind ?_ (fun _ => ?_)
theorem laws_markIntS.mono : ∀ a0 a1 k, LeO (laws_markIntS.f k a0 a1) (laws_markIntS.f (k + 1) a0 a1) := by
 intro a0 a1 k
 have ih0 := laws_markIntS.mono_l k
 unfold laws_markIntS.f
 repeat' first
   | (with_reducible exact ih0 _ _ _)
   | (with_reducible exact LeO.refl _)
   | (with_reducible exact LeO.none _)
   | (with_reducible refine LeO.ite ?_ ?_)
   | (with_reducible refine LeO.bind ?_ (fun _ => ?_))
   | exact ih0 _ _ _
   | exact LeO.none _
   | refine LeO.ite ?_ ?_
   | refine LeO.bind ?_ (fun _ => ?_)
set_option maxHeartbeats 8000000 in
set_option maxRecDepth 100000 in
theorem laws_markIntS.calls (k : Nat) (P0_ : Nat → Prop) (u9000_ : Value) (l0 : List Int) (a1 : Int) (r1 : Int) (r2 : List Int) (w0 w : World) (hB : Below w0.heap.size w0 w) (ho0 : Kd.R (Kd.int .i64) 3 w w0.heap.size P0_ u9000_ l0) (h : laws_markIntS.f k l0 a1 = some (r1, r2)) :
  Calls Try.prog 30 #[u9000_, .int .i64 a1] w fun e w' => e = .returned (.int .i64 r1) ∧ Kd.R (Kd.int .i64) 3 w' w0.heap.size (fun k_ => (P0_ k_ ∨ w.heap.size ≤ k_)) u9000_ r2 ∧ Below w0.heap.size w0 w' ∧ Kept w w' (fun k_ => P0_ k_) := by
 have HO0 := Aside0.mk (show Kd.R (Kd.int .i64) 3 w w0.heap.size (fun k_ => (P0_ k_ ∨ w.heap.size ≤ k_)) u9000_ l0 from Kd.R_mono ho0 (fun k_ hk => (.inl hk)))
 have HK := Aside0.mk (Kept.refl w (fun k_ => P0_ k_))
 have HW0 := Aside0.mk hB.size
 have HB := Aside0.mk hB
 clear hB
 have H : (laws_markIntS.l0 k l0 a1 0) = some (r1, r2) := h
 clear h
 have H' := Aside0.mk H
 clear H
 go_enter Try.func30, Try.ntmps30
 go_wp2
 go_loopg [1, 5] k (fun kq v1 v5 w' => ∃ (x0_1 : List Int) (x1_1 : Int) (x5_1 : Int), v1 = .int .i64 x1_1 ∧ v5 = .int .i64 x5_1 ∧ Aside0 (laws_markIntS.l0 kq x0_1 x1_1 x5_1 = some (r1, r2)) ∧ Aside0 (kq ≤ k) ∧ Aside0 (Kd.R (Kd.int .i64) 3 w' w0.heap.size (fun k_ => (P0_ k_ ∨ w.heap.size ≤ k_)) u9000_ x0_1) ∧ Aside0 (Kept w w' (fun k_ => P0_ k_)) ∧ Aside0 (Below w0.heap.size w0 w'))
 case atStart => exact ⟨(l0), (a1), (0), (by first | rfl | (simp; done) | (simp [*]; done)), (by first | rfl | (simp; done) | (simp [*]; done)), H', ⟨Nat.le_refl _⟩, ⟨kr HO0.out⟩, ⟨by repeat (first | (with_reducible first | exact HK.out | apply Kept.alloc | apply Kept.drewN | apply Kept.drew) | exact HK.out)⟩, ⟨tb HB⟩⟩
 case round =>
  clear H'
  try clear p2
  obtain ⟨x0_1, x1_1, x5_1, rfl, rfl, HA, HK1, HO_0, HK, HB⟩ := hrel
  cases gk with
  | zero => exact absurd HA.out (by simp [laws_markIntS.l0])
  | succ k1 =>
   have H := HA.out
   clear HA
   simp only [laws_markIntS.l0] at H
   by_cases c3 : x5_1 < (x0_1.length : Int)
   ·rw [if_pos c3] at H
    have c3b0 := decide_eq_true c3
    clear c3
    by_cases c4 : 0 ≤ x5_1
    ·rw [if_pos c4] at H
     have c4b0 := decide_eq_true c4
     clear c4
     obtain ⟨y412, hy412⟩ : ∃ y_ : List Int, y_ = (x0_1.set (x5_1 : Int).toNat x1_1) := ⟨_, rfl⟩
     replace H : (laws_markIntS.l0 k1 y412 (wrap64 (x1_1 + 1)) (wrap64 (x5_1 + 1))) = some (r1, r2) := by first | (rw [hy412]; with_reducible exact H) | (have H2_ := (Option.bind_some _ _).symm.trans H; rw [hy412]; with_reducible exact H2_) | (have H2_ := (Option.bind_some _ _).symm.trans H; with_reducible exact H2_) | with_reducible exact H | (rw [hy412]; exact H) | exact H
     have Ny412 := Aside0.mk hy412
     clear hy412
     have H' := Aside0.mk H
     clear H
     obtain ⟨Ao6, co6, eo6⟩ := Kd.R_slice HO_0.out
     subst eo6
     have p5 : 0 ≤ (x5_1 : Int) := od
     have q5 : (x5_1 : Int) < ((x0_1.length : Int) : Int) := od
     obtain ⟨go5, co5, eo5, gb5, gl5, cl5, HG5⟩ := Kd.R_form HO_0.out (by omega)
     (first | cases eo5 | (injection eo5 with ea_ en_ ec_; (first | subst ea_ | (injection ea_ with ea_; subst ea_)); subst ec_; clear en_))
     have GB5 := Aside0.mk gb5
     have GG5 := Aside0.mk HG5
     clear gb5 gl5 HG5
     have HMgo5 := Aside0.mk (show (P0_ go5 ∨ w.heap.size ≤ go5) from (HO_0.out.1 _ rfl))
     obtain ⟨hx5_0, hf5_0⟩ := Kd.R_celln 0 HO_0.out (x5_1 : Int) p5 q5
     replace p5 := eq_true p5
     replace q5 := eq_true q5
     have HP7 := Kd.R_putg HO_0.out (x5_1 : Int) x1_1
     go_wp2_with (first | ((with_reducible refine gate_store (t := 3) (p := 15) rfl ?_); refine store_event (t := 3) (p := 15) (v := ?vo_w8) (w1 := (wr.setCell ⟨go5, (x5_1 : Int).toNat, none⟩ (.int .i64 x1_1))) ?hg ?ho ?hn ?hr ?_; (case ho => rfl); (case hg => rfl); (case hn => rfl); (case hr => first | (go_simp; done) | (go_simp; rfl)); intro w8 hw; have hg : wr.grownBy w8 (some go5) := (by rw [hw]; exact HP7.2); have hp_ : Kd.R (Kd.int .i64) 3 w8 w0.heap.size (fun k_ => (P0_ k_ ∨ w.heap.size ≤ k_)) (.slice (some ⟨go5, 0, none⟩) x0_1.length co6) y412 := (by rw [hw, Ny412.out]; exact HP7.1); clear HP7; replace HB := Aside0.mk ((by rw [hw]; exact below_set (HB.out) GB5.out : Below w0.heap.size w0 w8)); replace HK := Aside0.mk (Kept.of_grown (S := (fun k_ => P0_ k_)) hg (by repeat (first | (with_reducible first | exact HK.out | apply Kept.alloc | apply Kept.drewN | apply Kept.drew) | exact HK.out)) (fun k_ e_ => (HO_0.out.1 k_ e_))); replace HO_0 := Aside0.mk (hp_); clear hg hw hp_))
     go_roundg k1
     case measure => have := HK1.out; omega
     case rel => exact ⟨(y412), (wrap64 (x1_1 + 1)), (wrap64 (x5_1 + 1)), (by first | rfl | (simp; done) | (simp [*]; done)), (by first | rfl | (simp; done) | (simp [*]; done)), H', ⟨by have := HK1.out; omega⟩, ⟨kr HO_0.out⟩, ⟨by repeat (first | (with_reducible first | exact HK.out | apply Kept.alloc | apply Kept.drewN | apply Kept.drew) | exact HK.out)⟩, ⟨tb HB⟩⟩
    ·rw [if_neg c4] at H
     exact absurd H (by simp)
   ·rw [if_neg c3] at H
    have c3b0 := decide_eq_false c3
    clear c3
    simp only [Option.some.injEq, Prod.mk.injEq] at H
    obtain ⟨rfl, rfl⟩ := H
    obtain ⟨Ao9, co9, eo9⟩ := Kd.R_slice HO_0.out
    subst eo9
    go_wp2
    go_ret
    exact ⟨er, kr HO_0.out, tb HB, by repeat (first | (with_reducible first | exact HK.out | apply Kept.alloc | apply Kept.drewN | apply Kept.drew) | exact HK.out)⟩
def laws_markRows.f (k : Nat) (l0_0 : List Int) (a0_1 : Int) (a1 : Int) : Option (Int × List Int) := (laws_markIntS.f k l0_0 a1).bind fun bt623 => (some (bt623.1, bt623.2))
theorem laws_markRows.mono : ∀ a0 a1 a2 k, LeO (laws_markRows.f k a0 a1 a2) (laws_markRows.f (k + 1) a0 a1 a2) := by
 intro a0 a1 a2 k
 unfold laws_markRows.f
 repeat' first
   | (with_reducible exact laws_markIntS.mono _ _ _)
   | (with_reducible exact LeO.refl _)
   | (with_reducible exact LeO.none _)
   | (with_reducible refine LeO.ite ?_ ?_)
   | (with_reducible refine LeO.bind ?_ (fun _ => ?_))
   | exact laws_markIntS.mono _ _ _
   | exact LeO.none _
   | refine LeO.ite ?_ ?_
   | refine LeO.bind ?_ (fun _ => ?_)
set_option maxHeartbeats 8000000 in
set_option maxRecDepth 100000 in
theorem laws_markRows.calls (k : Nat) (P0_0_ : Nat → Prop) (u9000_ : Value) (l0_0 : List Int) (a0_1 : Int) (a1 : Int) (r1 : Int) (r2 : List Int) (w0 w : World) (hB : Below w0.heap.size w0 w) (ho0_0 : Kd.R (Kd.int .i64) 3 w w0.heap.size P0_0_ u9000_ l0_0) (h : laws_markRows.f k l0_0 a0_1 a1 = some (r1, r2)) :
  Calls Try.prog 41 #[.agg #[u9000_, .int .i64 a0_1], .int .i64 a1] w fun e w' => e = .returned (.int .i64 r1) ∧ Kd.R (Kd.int .i64) 3 w' w0.heap.size (fun k_ => (P0_0_ k_ ∨ w.heap.size ≤ k_)) u9000_ r2 ∧ Below w0.heap.size w0 w' ∧ Kept w w' (fun k_ => P0_0_ k_) := by
 have hu65 := Try.underlying65
 have HO0_0 := Aside0.mk (show Kd.R (Kd.int .i64) 3 w w0.heap.size (fun k_ => (P0_0_ k_ ∨ w.heap.size ≤ k_)) u9000_ l0_0 from Kd.R_mono ho0_0 (fun k_ hk => (.inl hk)))
 have HK := Aside0.mk (Kept.refl w (fun k_ => P0_0_ k_))
 have HW0 := Aside0.mk hB.size
 have HB := Aside0.mk hB
 clear hB
 have H : ((laws_markIntS.f k l0_0 a1).bind fun bt623 => (some (bt623.1, bt623.2))) = some (r1, r2) := h
 clear h
 replace H := Option.bind_eq_some_iff.mp H
 obtain ⟨⟨t623, t624⟩, A30, H⟩ := H
 replace H : (some (t623, t624)) = some (r1, r2) := H
 have A3 := Aside0.mk A30
 clear A30
 simp only [Option.some.injEq, Prod.mk.injEq] at H
 obtain ⟨rfl, rfl⟩ := H
 obtain ⟨Ao4, co4, eo4⟩ := Kd.R_slice HO0_0.out
 subst eo4
 go_enter Try.func41, Try.ntmps41
 go_wp2_with (first | ((with_reducible refine gate_dst (N := 2) rfl ?_); refine bx (N := 2) (cs := #[.slice Ao4 l0_0.length co4, .int .i64 a0_1]) (t := 65) ?_; intro gb622 hg w5 hbox hb; replace HO0_0 := rb HO0_0 hb; have BK622 := Aside0.mk (hbox); have GW622 := Aside0.mk ((by rw [hg]; exact (by first | exact HK.out.1 | exact (show Kept w _ (fun k_ => P0_0_ k_) from by repeat (first | (with_reducible first | exact HK.out | apply Kept.alloc | apply Kept.drewN | apply Kept.drew) | exact HK.out)).1) : w.heap.size ≤ gb622)); replace HK := Aside0.mk (Kept.below (S := (fun k_ => P0_0_ k_)) (by repeat (first | (with_reducible first | exact HK.out | apply Kept.alloc | apply Kept.drewN | apply Kept.drew) | exact HK.out)) hb); have GE622 := Aside0.mk ((by rw [hg]; exact (below_size (tb HB)) : w0.heap.size ≤ gb622)); replace HB := bs HB hb; clear hb hbox hg; obtain ⟨hcz6_0, hcz6_1, hfz6_0, hfz6_1⟩ := c2 BK622) | ((with_reducible refine gate_callee (f := 30) rfl ?_); refine gL 8 Try.func30 #[.slice Ao4 l0_0.length co4, .int .i64 a1] ?_; (with_reducible refine (laws_markIntS.calls k (fun k_ => some k_ = (.slice Ao4 l0_0.length co4 : Value).ownBlock) (.slice Ao4 l0_0.length co4) l0_0 a1 t623 t624 w0 _ ?side1 ?side2 A3.out).mono ?_); (case side1 => repeat (first | (with_reducible first | exact HB.out | apply below_alloc | apply pw_below_drewN | apply below_drew1 | refine below_set ?_ GE622.out) | exact HB.out)); (case side2 => exact Kd.R_tight rfl HO0_0.out); rintro e w7 ⟨rfl, hy0, hb, hkp⟩; refine ⟨_, rfl, ?_⟩; replace BK622 := Aside0.mk (blk_kept (bk BK622) hkp (fun hs_ => (fun e_ => (Kd.R_ne HO0_0.out BK622.out (by decide)) e_) hs_)); replace HK := Aside0.mk (Kept.then_ (S := (fun k_ => P0_0_ k_)) (by repeat (first | (with_reducible first | exact HK.out | apply Kept.alloc | apply Kept.drewN | apply Kept.drew | refine Kept.setCell ?_ (.inr GW622.out) _) | exact HK.out)) hkp (fun k_ hs_ => (fun e_ => (HO0_0.out.1 k_ e_.symm)) hs_)); replace HO0_0 := Aside0.mk (Kd.R_reok rfl hy0 (fun k_ e_ => HO0_0.out.1 k_ e_)); replace HB := Aside0.mk (hb); (try clear hb); (try clear hkp); (try clear hy0)))
 go_ret
 exact ⟨er, kr HO0_0.out, tb HB, by repeat (first | (with_reducible first | exact HK.out | apply Kept.alloc | apply Kept.drewN | apply Kept.drew | refine Kept.setCell ?_ (.inr GW622.out) _) | exact HK.out)⟩
def laws_markRes.f (k : Nat) (a0_0 : Int) (l0_1 : List Int) (a1 : Int) : Option (Int × List Int) := (laws_markIntS.f k l0_1 a1).bind fun bt626 => (some (bt626.1, bt626.2))
theorem laws_markRes.mono : ∀ a0 a1 a2 k, LeO (laws_markRes.f k a0 a1 a2) (laws_markRes.f (k + 1) a0 a1 a2) := by
 intro a0 a1 a2 k
 unfold laws_markRes.f
 repeat' first
   | (with_reducible exact laws_markIntS.mono _ _ _)
   | (with_reducible exact LeO.refl _)
   | (with_reducible exact LeO.none _)
   | (with_reducible refine LeO.ite ?_ ?_)
   | (with_reducible refine LeO.bind ?_ (fun _ => ?_))
   | exact laws_markIntS.mono _ _ _
   | exact LeO.none _
   | refine LeO.ite ?_ ?_
   | refine LeO.bind ?_ (fun _ => ?_)
set_option maxHeartbeats 8000000 in
set_option maxRecDepth 100000 in
theorem laws_markRes.calls (k : Nat) (a0_0 : Int) (P0_1_ : Nat → Prop) (u9000_ : Value) (l0_1 : List Int) (a1 : Int) (r1 : Int) (r2 : List Int) (w0 w : World) (hB : Below w0.heap.size w0 w) (ho0_1 : Kd.R (Kd.int .i64) 3 w w0.heap.size P0_1_ u9000_ l0_1) (h : laws_markRes.f k a0_0 l0_1 a1 = some (r1, r2)) :
  Calls Try.prog 42 #[.agg #[.int .i64 a0_0, u9000_], .int .i64 a1] w fun e w' => e = .returned (.int .i64 r1) ∧ Kd.R (Kd.int .i64) 3 w' w0.heap.size (fun k_ => (P0_1_ k_ ∨ w.heap.size ≤ k_)) u9000_ r2 ∧ Below w0.heap.size w0 w' ∧ Kept w w' (fun k_ => P0_1_ k_) := by
 have hu70 := Try.underlying70
 have HO0_1 := Aside0.mk (show Kd.R (Kd.int .i64) 3 w w0.heap.size (fun k_ => (P0_1_ k_ ∨ w.heap.size ≤ k_)) u9000_ l0_1 from Kd.R_mono ho0_1 (fun k_ hk => (.inl hk)))
 have HK := Aside0.mk (Kept.refl w (fun k_ => P0_1_ k_))
 have HW0 := Aside0.mk hB.size
 have HB := Aside0.mk hB
 clear hB
 have H : ((laws_markIntS.f k l0_1 a1).bind fun bt626 => (some (bt626.1, bt626.2))) = some (r1, r2) := h
 clear h
 replace H := Option.bind_eq_some_iff.mp H
 obtain ⟨⟨t626, t627⟩, A30, H⟩ := H
 replace H : (some (t626, t627)) = some (r1, r2) := H
 have A3 := Aside0.mk A30
 clear A30
 simp only [Option.some.injEq, Prod.mk.injEq] at H
 obtain ⟨rfl, rfl⟩ := H
 obtain ⟨Ao4, co4, eo4⟩ := Kd.R_slice HO0_1.out
 subst eo4
 go_enter Try.func42, Try.ntmps42
 go_wp2_with (first | ((with_reducible refine gate_dst (N := 2) rfl ?_); refine bx (N := 2) (cs := #[.int .i64 a0_0, .slice Ao4 l0_1.length co4]) (t := 70) ?_; intro gb625 hg w5 hbox hb; replace HO0_1 := rb HO0_1 hb; have BK625 := Aside0.mk (hbox); have GW625 := Aside0.mk ((by rw [hg]; exact (by first | exact HK.out.1 | exact (show Kept w _ (fun k_ => P0_1_ k_) from by repeat (first | (with_reducible first | exact HK.out | apply Kept.alloc | apply Kept.drewN | apply Kept.drew) | exact HK.out)).1) : w.heap.size ≤ gb625)); replace HK := Aside0.mk (Kept.below (S := (fun k_ => P0_1_ k_)) (by repeat (first | (with_reducible first | exact HK.out | apply Kept.alloc | apply Kept.drewN | apply Kept.drew) | exact HK.out)) hb); have GE625 := Aside0.mk ((by rw [hg]; exact (below_size (tb HB)) : w0.heap.size ≤ gb625)); replace HB := bs HB hb; clear hb hbox hg; obtain ⟨hcz6_0, hcz6_1, hfz6_0, hfz6_1⟩ := c2 BK625) | ((with_reducible refine gate_callee (f := 30) rfl ?_); refine gL 8 Try.func30 #[.slice Ao4 l0_1.length co4, .int .i64 a1] ?_; (with_reducible refine (laws_markIntS.calls k (fun k_ => some k_ = (.slice Ao4 l0_1.length co4 : Value).ownBlock) (.slice Ao4 l0_1.length co4) l0_1 a1 t626 t627 w0 _ ?side1 ?side2 A3.out).mono ?_); (case side1 => repeat (first | (with_reducible first | exact HB.out | apply below_alloc | apply pw_below_drewN | apply below_drew1 | refine below_set ?_ GE625.out) | exact HB.out)); (case side2 => exact Kd.R_tight rfl HO0_1.out); rintro e w7 ⟨rfl, hy0, hb, hkp⟩; refine ⟨_, rfl, ?_⟩; replace BK625 := Aside0.mk (blk_kept (bk BK625) hkp (fun hs_ => (fun e_ => (Kd.R_ne HO0_1.out BK625.out (by decide)) e_) hs_)); replace HK := Aside0.mk (Kept.then_ (S := (fun k_ => P0_1_ k_)) (by repeat (first | (with_reducible first | exact HK.out | apply Kept.alloc | apply Kept.drewN | apply Kept.drew | refine Kept.setCell ?_ (.inr GW625.out) _) | exact HK.out)) hkp (fun k_ hs_ => (fun e_ => (HO0_1.out.1 k_ e_.symm)) hs_)); replace HO0_1 := Aside0.mk (Kd.R_reok rfl hy0 (fun k_ e_ => HO0_1.out.1 k_ e_)); replace HB := Aside0.mk (hb); (try clear hb); (try clear hkp); (try clear hy0)))
 go_ret
 exact ⟨er, kr HO0_1.out, tb HB, by repeat (first | (with_reducible first | exact HK.out | apply Kept.alloc | apply Kept.drewN | apply Kept.drew | refine Kept.setCell ?_ (.inr GW625.out) _) | exact HK.out)⟩
def laws_heldIntS.l0 : Nat → List Int → Int → Int → Option (Int)
 | 0, _, _, _ => none
 | k + 1, x0, x1, x5 => if x5 < (x0.length : Int) then (if 0 ≤ x5 then (if (rd x0 x5) = x1 then (laws_heldIntS.l0 k x0 (wrap64 (x1 + 1)) (wrap64 (x5 + 1))) else (some (-1))) else (none)) else (some x1)
def laws_heldIntS.f (k : Nat) (l0 : List Int) (a1 : Int) : Option (Int) := laws_heldIntS.l0 k l0 a1 0
theorem laws_heldIntS.mono_l : ∀ k, (∀ y0 y1 y2, LeO (laws_heldIntS.l0 k y0 y1 y2) (laws_heldIntS.l0 (k + 1) y0 y1 y2))
 | 0 => fun _ _ _ r h => by simp [laws_heldIntS.l0] at h
 | k + 1 => by
  have ih0 := laws_heldIntS.mono_l k
  ·intro y0 y1 y2
   unfold laws_heldIntS.l0
   repeat' first
   | (with_reducible exact ih0 _ _ _)
   | (with_reducible exact LeO.refl _)
   | (with_reducible exact LeO.none _)
   | (with_reducible refine LeO.ite ?_ ?_)
   | (with_reducible refine LeO.bind ?_ (fun _ => ?_))
   | exact ih0 _ _ _
   | exact LeO.none _
   | refine LeO.ite ?_ ?_
   | refine LeO.bind ?_ (fun _ => ?_)
theorem laws_heldIntS.mono : ∀ a0 a1 k, LeO (laws_heldIntS.f k a0 a1) (laws_heldIntS.f (k + 1) a0 a1) := by
 intro a0 a1 k
 have ih0 := laws_heldIntS.mono_l k
 unfold laws_heldIntS.f
 repeat' first
   | (with_reducible exact ih0 _ _ _)
   | (with_reducible exact LeO.refl _)
   | (with_reducible exact LeO.none _)
   | (with_reducible refine LeO.ite ?_ ?_)
   | (with_reducible refine LeO.bind ?_ (fun _ => ?_))
   | exact ih0 _ _ _
   | exact LeO.none _
   | refine LeO.ite ?_ ?_
   | refine LeO.bind ?_ (fun _ => ?_)
set_option maxHeartbeats 8000000 in
set_option maxRecDepth 100000 in
theorem laws_heldIntS.calls (k : Nat) (A0 : Option Addr) (c0 : Nat) (l0 : List Int) (a1 : Int) (r : Int) (w : World) (hr0 : Kd.C (Kd.int .i64) w A0 l0.length l0) (hc0 : l0.length ≤ c0) (h : laws_heldIntS.f k l0 a1 = some r) :
  Calls Try.prog 31 #[.slice A0 l0.length c0, .int .i64 a1] w fun e w' => e = .returned (.int .i64 r) ∧ Drawn0 w w' := by
 have HR0 := Aside0.mk hr0
 have HC0 := Aside0.mk hc0
 clear hr0 hc0
 have H : (laws_heldIntS.l0 k l0 a1 0) = some r := h
 clear h
 have H' := Aside0.mk H
 clear H
 go_enter Try.func31, Try.ntmps31
 go_wp2
 go_loopg [1, 5] k (fun kq v1 v5 w' => ∃ (x1_1 : Int) (x5_1 : Int), v1 = .int .i64 x1_1 ∧ v5 = .int .i64 x5_1 ∧ Aside0 (laws_heldIntS.l0 kq l0 x1_1 x5_1 = some r) ∧ Aside0 (kq ≤ k) ∧ Drawn0 w w')
 case atStart => exact ⟨(a1), (0), (by first | rfl | (simp; done) | (simp [*]; done)), (by first | rfl | (simp; done) | (simp [*]; done)), H', ⟨Nat.le_refl _⟩, by repeat (first | exact Drawn0.refl _ | apply Drawn0.step)⟩
 case round =>
  clear H'
  try clear p2
  obtain ⟨x1_1, x5_1, rfl, rfl, HA, HK1, ⟨m1, rfl⟩⟩ := hrel
  cases gk with
  | zero => exact absurd HA.out (by simp [laws_heldIntS.l0])
  | succ k1 =>
   have H := HA.out
   clear HA
   simp only [laws_heldIntS.l0] at H
   by_cases c3 : x5_1 < (l0.length : Int)
   ·rw [if_pos c3] at H
    have c3b0 := decide_eq_true c3
    clear c3
    by_cases c4 : 0 ≤ x5_1
    ·rw [if_pos c4] at H
     have c4b0 := decide_eq_true c4
     clear c4
     by_cases c5 : (rd l0 x5_1) = x1_1
     ·rw [if_pos c5] at H
      have c5b0 : ((rd l0 x5_1) == x1_1) = true := beq_iff_eq.mpr c5
      have c5b1 : ((rd l0 x5_1) != x1_1) = false := bne_eq_false_iff_eq.mpr c5
      clear c5
      have H' := Aside0.mk H
      clear H
      have p416 : 0 ≤ (x5_1 : Int) := od
      have q416 : x5_1 < (l0.length : Int) := od
      obtain ⟨ad416, e416, hx416_0⟩ := Kd.at_int HR0.out x5_1 p416 q416
      cases e416
      replace p416 := eq_true p416
      replace q416 := eq_true q416
      go_wp2
      go_roundg k1
      case measure => have := HK1.out; omega
      case rel => exact ⟨(wrap64 (x1_1 + 1)), (wrap64 (x5_1 + 1)), (by first | rfl | (simp; done) | (simp [*]; done)), (by first | rfl | (simp; done) | (simp [*]; done)), H', ⟨by have := HK1.out; omega⟩, by repeat (first | exact Drawn0.refl _ | apply Drawn0.step)⟩
     ·rw [if_neg c5] at H
      have c5b0 : ((rd l0 x5_1) == x1_1) = false := beq_eq_false_iff_ne.mpr c5
      have c5b1 : ((rd l0 x5_1) != x1_1) = true := bne_iff_ne.mpr c5
      obtain rfl := Option.some.inj H
      have p416 : 0 ≤ (x5_1 : Int) := od
      have q416 : x5_1 < (l0.length : Int) := od
      obtain ⟨ad416, e416, hx416_0⟩ := Kd.at_int HR0.out x5_1 p416 q416
      cases e416
      replace p416 := eq_true p416
      replace q416 := eq_true q416
      go_wp2
      go_ret
      exact ⟨by first | rfl | (simp; done) | (simp [*]; done), by repeat (first | exact Drawn0.refl _ | apply Drawn0.step)⟩
    ·rw [if_neg c4] at H
     exact absurd H (by simp)
   ·rw [if_neg c3] at H
    have c3b0 := decide_eq_false c3
    clear c3
    obtain rfl := Option.some.inj H
    go_wp2
    go_ret
    exact ⟨by first | rfl | (simp; done) | (simp [*]; done), by repeat (first | exact Drawn0.refl _ | apply Drawn0.step)⟩
def laws_heldRows.f (k : Nat) (l0_0 : List Int) (a0_1 : Int) (a1 : Int) : Option (Int) := (laws_heldIntS.f k l0_0 a1).bind fun t629 => (if t629 < 0 then (some (-1)) else (some t629))
theorem laws_heldRows.mono : ∀ a0 a1 a2 k, LeO (laws_heldRows.f k a0 a1 a2) (laws_heldRows.f (k + 1) a0 a1 a2) := by
 intro a0 a1 a2 k
 unfold laws_heldRows.f
 repeat' first
   | (with_reducible exact laws_heldIntS.mono _ _ _)
   | (with_reducible exact LeO.refl _)
   | (with_reducible exact LeO.none _)
   | (with_reducible refine LeO.ite ?_ ?_)
   | (with_reducible refine LeO.bind ?_ (fun _ => ?_))
   | exact laws_heldIntS.mono _ _ _
   | exact LeO.none _
   | refine LeO.ite ?_ ?_
   | refine LeO.bind ?_ (fun _ => ?_)
set_option maxHeartbeats 8000000 in
set_option maxRecDepth 100000 in
theorem laws_heldRows.calls (k : Nat) (A0_0 : Option Addr) (c0_0 : Nat) (l0_0 : List Int) (a0_1 : Int) (a1 : Int) (r : Int) (w : World) (hr0_0 : Kd.C (Kd.int .i64) w A0_0 l0_0.length l0_0) (hc0_0 : l0_0.length ≤ c0_0) (h : laws_heldRows.f k l0_0 a0_1 a1 = some r) :
  Calls Try.prog 43 #[.agg #[.slice A0_0 l0_0.length c0_0, .int .i64 a0_1], .int .i64 a1] w fun e w' => e = .returned (.int .i64 r) ∧ Below w.heap.size w w' := by
 have hu65 := Try.underlying65
 have HR0_0 := Aside0.mk hr0_0
 have HC0_0 := Aside0.mk hc0_0
 clear hr0_0 hc0_0
 have HB := Aside0.mk (Below.refl w.heap.size w)
 have H : ((laws_heldIntS.f k l0_0 a1).bind fun t629 => (if t629 < 0 then (some (-1)) else (some t629))) = some r := h
 clear h
 replace H := Option.bind_eq_some_iff.mp H
 obtain ⟨t629, A30, H⟩ := H
 replace H : (if t629 < 0 then (some (-1)) else (some t629)) = some r := H
 have A3 := Aside0.mk A30
 clear A30
 by_cases c4 : t629 < 0
 ·rw [if_pos c4] at H
  have c4b0 := decide_eq_true c4
  clear c4
  obtain rfl := Option.some.inj H
  go_enter Try.func43, Try.ntmps43
  go_wp2_with (first | ((with_reducible refine gate_dst (N := 2) rfl ?_); refine bx (N := 2) (cs := #[.slice A0_0 l0_0.length c0_0, .int .i64 a0_1]) (t := 65) ?_; intro gb628 hg w5 hbox hb; have BK628 := Aside0.mk (hbox); have GW628 := Aside0.mk (ge_ hg HB); have GE628 := Aside0.mk (ge_ hg HB); replace HB := bs HB hb; clear hb hbox hg; obtain ⟨hcz6_0, hcz6_1, hfz6_0, hfz6_1⟩ := c2 BK628) | ((with_reducible refine gate_callee (f := 31) rfl ?_); refine gL 8 Try.func31 #[.slice A0_0 l0_0.length c0_0, .int .i64 a1] ?_; (with_reducible refine (laws_heldIntS.calls k _ _ l0_0 a1 t629 _ ?side1 ?side2 A3.out).mono ?_); (case side1 => exact kc HR0_0 HB); (case side2 => exact HC0_0.out); rintro e w' ⟨rfl, ⟨nd, rfl⟩⟩; refine ⟨_, rfl, ?_⟩))
  go_ret
  exact ⟨er, tb HB⟩
 ·rw [if_neg c4] at H
  have c4b0 := decide_eq_false c4
  clear c4
  obtain rfl := Option.some.inj H
  go_enter Try.func43, Try.ntmps43
  go_wp2_with (first | ((with_reducible refine gate_dst (N := 2) rfl ?_); refine bx (N := 2) (cs := #[.slice A0_0 l0_0.length c0_0, .int .i64 a0_1]) (t := 65) ?_; intro gb628 hg w7 hbox hb; have BK628 := Aside0.mk (hbox); have GW628 := Aside0.mk (ge_ hg HB); have GE628 := Aside0.mk (ge_ hg HB); replace HB := bs HB hb; clear hb hbox hg; obtain ⟨hcz8_0, hcz8_1, hfz8_0, hfz8_1⟩ := c2 BK628) | ((with_reducible refine gate_callee (f := 31) rfl ?_); refine gL 8 Try.func31 #[.slice A0_0 l0_0.length c0_0, .int .i64 a1] ?_; (with_reducible refine (laws_heldIntS.calls k _ _ l0_0 a1 t629 _ ?side1 ?side2 A3.out).mono ?_); (case side1 => exact kc HR0_0 HB); (case side2 => exact HC0_0.out); rintro e w' ⟨rfl, ⟨nd, rfl⟩⟩; refine ⟨_, rfl, ?_⟩))
  go_ret
  exact ⟨er, tb HB⟩
end Go.Proofs.Ytopikhjcbcpiaaa.Q
