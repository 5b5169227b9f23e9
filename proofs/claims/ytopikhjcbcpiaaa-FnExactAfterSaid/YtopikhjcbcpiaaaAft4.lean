/- Part 4 of the steps by which the law is shown: what each function of the program, of the reference and of the law computes. No condition. -/
import Derived.Deep.Slices
import Derived.DataReads
import Derived.Test.YtopikhjcbcpiaaaAft3
namespace Go.Proofs.Ytopikhjcbcpiaaa.Q
open Go.RowKit Go.Proofs.YtopikhjcbcpiaaaW.PrintWords Go.Proofs.YtopikhjcbcpiaaaW.PrintLast Go.Proofs.YtopikhjcbcpiaaaW.PrintMore
attribute [local go_sem] max2_int min2_int max_two min_two max_three min_three max_four min_four   -- for this text's walks alone
set_option linter.unusedVariables false
set_option linter.unusedSimpArgs false
def laws_FnExactAfter.j0 : Nat → Bool → List Int → Int → Int → Int → Int → Int → List Int → List Int → Int → List Int → Int → Option (Bool)
 | 0, _, _, _, _, _, _, _, _, _, _, _, _ => none
 | k + 1, x69, x631000, x631001, x632000, x632001, x632002, x633000, x633001, x651000, x651001, x669000, x669001 => if x69 = true then (some false) else ((laws_markRows.f k x669000 x669001 1).bind fun bt685 => ((laws_heldRows.f k bt685.2 x669001 1).bind fun t687 => (if t687 < 0 then (some false) else (if t687 = bt685.1 then ((laws_toRows.f k x631000 x631001).bind fun bt688 => ((laws_toOp.f x632000 x632001 x632002).bind fun bt692 => ((laws_toRes.f k x633000 x633001).bind fun bt695 => ((impl_After.f k bt688.1 bt688.2 bt692.1 bt692.2.1 bt692.2.2 bt695.1 bt695.2).bind fun bt699 => ((laws_eqRows.f k bt699.1 bt699.2 x651000 x651001).bind fun t704 => (if t704 = true then ((laws_heldRows.f k bt685.2 x669001 1).bind fun t705 => (if t705 < 0 then (some false) else (if t705 = bt685.1 then (some true) else (some false)))) else (some false))))))) else (some false)))))
def laws_FnExactAfter.f (k : Nat) (l0_0 : List Int) (a0_1 : Int) (a1_0 : Int) (a1_1 : Int) (a1_2 : Int) (a2_0 : Int) (l2_1 : List Int) : Option (Bool) := (laws_szRows.f l0_0 a0_1 1048576).bind fun t633 => (if t633 < 0 then (some true) else ((laws_szRes.f a2_0 l2_1 t633).bind fun t634 => (if t634 < 0 then (some true) else ((laws_toRows.f k l0_0 a0_1).bind fun bt635 => ((laws_toOp.f a1_0 a1_1 a1_2).bind fun bt639 => ((laws_toRes.f k a2_0 l2_1).bind fun bt642 => ((spec_After.f k bt635.1 bt635.2 bt639.1 bt639.2.1 bt639.2.2 bt642.1 bt642.2).bind fun bt646 => ((laws_toRows.f k l0_0 a0_1).bind fun bt651 => ((laws_toRes.f k a2_0 l2_1).bind fun bt656 => ((laws_toOp.f a1_0 a1_1 a1_2).bind fun bt661 => ((impl_After.f k bt651.1 bt651.2 bt661.1 bt661.2.1 bt661.2.2 bt656.1 bt656.2).bind fun bt664 => ((laws_eqRows.f k bt664.1 bt664.2 bt646.1 bt646.2).bind fun t669 => (if t669 = true then ((laws_toRows.f k l0_0 a0_1).bind fun bt670 => ((laws_eqRows.f k bt651.1 bt651.2 bt670.1 bt670.2).bind fun t674 => (if t674 = true then ((laws_toRes.f k a2_0 l2_1).bind fun bt675 => ((laws_eqRes.f k bt656.1 bt656.2 bt675.1 bt675.2).bind fun t679 => (if t679 = true then ((laws_markRows.f k bt651.1 bt651.2 1).bind fun bt680 => ((laws_markRes.f k bt656.1 bt656.2 bt680.1).bind fun bt682 => (if bt682.1 < 0 then (laws_FnExactAfter.j0 k true l0_0 a0_1 a1_0 a1_1 a1_2 a2_0 l2_1 bt646.1 bt646.2 bt664.1 bt664.2) else ((laws_eqRows.f k bt664.1 bt664.2 bt646.1 bt646.2).bind fun t684 => (laws_FnExactAfter.j0 k (!t684) l0_0 a0_1 a1_0 a1_1 a1_2 a2_0 l2_1 bt646.1 bt646.2 bt664.1 bt664.2))))) else (some false)))) else (some false)))) else (some false))))))))))))))
theorem laws_FnExactAfter.mono_l : ∀ k, (∀ y0 y1 y2 y3 y4 y5 y6 y7 y8 y9 y10 y11, LeO (laws_FnExactAfter.j0 k y0 y1 y2 y3 y4 y5 y6 y7 y8 y9 y10 y11) (laws_FnExactAfter.j0 (k + 1) y0 y1 y2 y3 y4 y5 y6 y7 y8 y9 y10 y11))
 | 0 => fun _ _ _ _ _ _ _ _ _ _ _ _ r h => by simp [laws_FnExactAfter.j0] at h
 | k + 1 => by
  have ih0 := laws_FnExactAfter.mono_l k
  ·intro y0 y1 y2 y3 y4 y5 y6 y7 y8 y9 y10 y11
   unfold laws_FnExactAfter.j0
   repeat' first
   | (with_reducible exact ih0 _ _ _ _ _ _ _ _ _ _ _ _)
   | (with_reducible exact impl_After.mono _ _ _ _ _ _ _ _)
   | (with_reducible exact laws_eqRes.mono _ _ _ _ _)
   | (with_reducible exact laws_eqRows.mono _ _ _ _ _)
   | (with_reducible exact laws_heldRows.mono _ _ _ _)
   | (with_reducible exact laws_markRes.mono _ _ _ _)
   | (with_reducible exact laws_markRows.mono _ _ _ _)
   | (with_reducible exact laws_toRes.mono _ _ _)
   | (with_reducible exact laws_toRows.mono _ _ _)
   | (with_reducible exact spec_After.mono _ _ _ _ _ _ _ _)
   | (with_reducible exact LeO.refl _)
   | (with_reducible exact LeO.none _)
   | (with_reducible refine LeO.ite ?_ ?_)
   | (with_reducible refine LeO.bind ?_ (fun _ => ?_))
   | exact ih0 _ _ _ _ _ _ _ _ _ _ _ _
   | exact impl_After.mono _ _ _ _ _ _ _ _
   | exact laws_eqRes.mono _ _ _ _ _
   | exact laws_eqRows.mono _ _ _ _ _
   | exact laws_heldRows.mono _ _ _ _
   | exact laws_markRes.mono _ _ _ _
   | exact laws_markRows.mono _ _ _ _
   | exact laws_toRes.mono _ _ _
   | exact laws_toRows.mono _ _ _
   | exact spec_After.mono _ _ _ _ _ _ _ _
   | exact LeO.none _
   | refine LeO.ite ?_ ?_
   | refine LeO.bind ?_ (fun _ => ?_)
theorem laws_FnExactAfter.mono : ∀ a0 a1 a2 a3 a4 a5 a6 k, LeO (laws_FnExactAfter.f k a0 a1 a2 a3 a4 a5 a6) (laws_FnExactAfter.f (k + 1) a0 a1 a2 a3 a4 a5 a6) := by
 intro a0 a1 a2 a3 a4 a5 a6 k
 have ih0 := laws_FnExactAfter.mono_l k
 unfold laws_FnExactAfter.f
 repeat' first
   | (with_reducible exact ih0 _ _ _ _ _ _ _ _ _ _ _ _)
   | (with_reducible exact impl_After.mono _ _ _ _ _ _ _ _)
   | (with_reducible exact laws_eqRes.mono _ _ _ _ _)
   | (with_reducible exact laws_eqRows.mono _ _ _ _ _)
   | (with_reducible exact laws_heldRows.mono _ _ _ _)
   | (with_reducible exact laws_markRes.mono _ _ _ _)
   | (with_reducible exact laws_markRows.mono _ _ _ _)
   | (with_reducible exact laws_toRes.mono _ _ _)
   | (with_reducible exact laws_toRows.mono _ _ _)
   | (with_reducible exact spec_After.mono _ _ _ _ _ _ _ _)
   | (with_reducible exact LeO.refl _)
   | (with_reducible exact LeO.none _)
   | (with_reducible refine LeO.ite ?_ ?_)
   | (with_reducible refine LeO.bind ?_ (fun _ => ?_))
   | exact ih0 _ _ _ _ _ _ _ _ _ _ _ _
   | exact impl_After.mono _ _ _ _ _ _ _ _
   | exact laws_eqRes.mono _ _ _ _ _
   | exact laws_eqRows.mono _ _ _ _ _
   | exact laws_heldRows.mono _ _ _ _
   | exact laws_markRes.mono _ _ _ _
   | exact laws_markRows.mono _ _ _ _
   | exact laws_toRes.mono _ _ _
   | exact laws_toRows.mono _ _ _
   | exact spec_After.mono _ _ _ _ _ _ _ _
   | exact LeO.none _
   | refine LeO.ite ?_ ?_
   | refine LeO.bind ?_ (fun _ => ?_)
def laws_FnExactAfter.T8 : Bool × List (List Nat × List Nat) := (true, [([], []), ([0], [0]), ([], []), ([2, 1], [2]), ([], []), ([4, 3], [4]), ([1, 3, 5, 5], [1, 3, 5]), ([], []), ([7, 6, 6, 0, 1, 2, 3, 4, 5, 6, 7], [6, 7])])
def laws_FnExactAfter.B8 : List Nat := [0, 1, 0, 7, 0, 31, 63, 0, 255]
theorem laws_FnExactAfter.tab8 : rtab .any (opsOf Try.f6 8) = laws_FnExactAfter.T8 := by kernel_rfl
theorem laws_FnExactAfter.bits8 : waitsOk laws_FnExactAfter.T8.2 laws_FnExactAfter.B8 = true := by kernel_rfl
def laws_FnExactAfter.T31 : Bool × List (List Nat × List Nat) := (true, [([], []), ([0], [0]), ([], []), ([2, 1], [2]), ([], []), ([4, 3], [4]), ([1, 3, 5, 5], [1, 3, 5]), ([], []), ([7, 6, 6, 0, 1, 2, 3, 4, 5, 6, 7], [6, 7])])
def laws_FnExactAfter.B31 : List Nat := [0, 1, 0, 7, 0, 31, 63, 0, 255]
theorem laws_FnExactAfter.tab31 : rtab .any (opsOf Try.f6 31) = laws_FnExactAfter.T31 := by kernel_rfl
theorem laws_FnExactAfter.bits31 : waitsOk laws_FnExactAfter.T31.2 laws_FnExactAfter.B31 = true := by kernel_rfl
set_option maxHeartbeats 8000000 in
set_option maxRecDepth 100000 in
theorem laws_FnExactAfter.calls (k : Nat) (A0_0 : Option Addr) (c0_0 : Nat) (l0_0 : List Int) (a0_1 : Int) (a1_0 : Int) (a1_1 : Int) (a1_2 : Int) (a2_0 : Int) (A2_1 : Option Addr) (c2_1 : Nat) (l2_1 : List Int) (r : Bool) (w : World) (hr0_0 : Kd.C (Kd.int .i64) w A0_0 l0_0.length l0_0) (hc0_0 : l0_0.length ≤ c0_0) (hr2_1 : Kd.C (Kd.int .i64) w A2_1 l2_1.length l2_1) (hc2_1 : l2_1.length ≤ c2_1) (h : laws_FnExactAfter.f k l0_0 a0_1 a1_0 a1_1 a1_2 a2_0 l2_1 = some r) (hr_ : r = true) :
  Calls Try.prog 6 #[.agg #[.slice A0_0 l0_0.length c0_0, .int .i64 a0_1], .agg #[.int .i64 a1_0, .int .i64 a1_1, .int .i64 a1_2], .agg #[.int .i64 a2_0, .slice A2_1 l2_1.length c2_1]] w fun e w' => e = .returned (.bool r) ∧ Below w.heap.size w w' := by
 have hu58 := Try.underlying58
 have hu60 := Try.underlying60
 have hu62 := Try.underlying62
 have hu65 := Try.underlying65
 have hu70 := Try.underlying70
 have HR0_0 := Aside0.mk hr0_0
 have HC0_0 := Aside0.mk hc0_0
 clear hr0_0 hc0_0
 have HR2_1 := Aside0.mk hr2_1
 have HC2_1 := Aside0.mk hc2_1
 clear hr2_1 hc2_1
 have HB := Aside0.mk (Below.refl w.heap.size w)
 have H : ((laws_szRows.f l0_0 a0_1 1048576).bind fun t633 => (if t633 < 0 then (some true) else ((laws_szRes.f a2_0 l2_1 t633).bind fun t634 => (if t634 < 0 then (some true) else ((laws_toRows.f k l0_0 a0_1).bind fun bt635 => ((laws_toOp.f a1_0 a1_1 a1_2).bind fun bt639 => ((laws_toRes.f k a2_0 l2_1).bind fun bt642 => ((spec_After.f k bt635.1 bt635.2 bt639.1 bt639.2.1 bt639.2.2 bt642.1 bt642.2).bind fun bt646 => ((laws_toRows.f k l0_0 a0_1).bind fun bt651 => ((laws_toRes.f k a2_0 l2_1).bind fun bt656 => ((laws_toOp.f a1_0 a1_1 a1_2).bind fun bt661 => ((impl_After.f k bt651.1 bt651.2 bt661.1 bt661.2.1 bt661.2.2 bt656.1 bt656.2).bind fun bt664 => ((laws_eqRows.f k bt664.1 bt664.2 bt646.1 bt646.2).bind fun t669 => (if t669 = true then ((laws_toRows.f k l0_0 a0_1).bind fun bt670 => ((laws_eqRows.f k bt651.1 bt651.2 bt670.1 bt670.2).bind fun t674 => (if t674 = true then ((laws_toRes.f k a2_0 l2_1).bind fun bt675 => ((laws_eqRes.f k bt656.1 bt656.2 bt675.1 bt675.2).bind fun t679 => (if t679 = true then ((laws_markRows.f k bt651.1 bt651.2 1).bind fun bt680 => ((laws_markRes.f k bt656.1 bt656.2 bt680.1).bind fun bt682 => (if bt682.1 < 0 then (laws_FnExactAfter.j0 k true l0_0 a0_1 a1_0 a1_1 a1_2 a2_0 l2_1 bt646.1 bt646.2 bt664.1 bt664.2) else ((laws_eqRows.f k bt664.1 bt664.2 bt646.1 bt646.2).bind fun t684 => (laws_FnExactAfter.j0 k (!t684) l0_0 a0_1 a1_0 a1_1 a1_2 a2_0 l2_1 bt646.1 bt646.2 bt664.1 bt664.2))))) else (some false)))) else (some false)))) else (some false))))))))))))))) = some r := h
 clear h
 replace H := Option.bind_eq_some_iff.mp H
 obtain ⟨t633, A40, H⟩ := H
 replace H : (if t633 < 0 then (some true) else ((laws_szRes.f a2_0 l2_1 t633).bind fun t634 => (if t634 < 0 then (some true) else ((laws_toRows.f k l0_0 a0_1).bind fun bt635 => ((laws_toOp.f a1_0 a1_1 a1_2).bind fun bt639 => ((laws_toRes.f k a2_0 l2_1).bind fun bt642 => ((spec_After.f k bt635.1 bt635.2 bt639.1 bt639.2.1 bt639.2.2 bt642.1 bt642.2).bind fun bt646 => ((laws_toRows.f k l0_0 a0_1).bind fun bt651 => ((laws_toRes.f k a2_0 l2_1).bind fun bt656 => ((laws_toOp.f a1_0 a1_1 a1_2).bind fun bt661 => ((impl_After.f k bt651.1 bt651.2 bt661.1 bt661.2.1 bt661.2.2 bt656.1 bt656.2).bind fun bt664 => ((laws_eqRows.f k bt664.1 bt664.2 bt646.1 bt646.2).bind fun t669 => (if t669 = true then ((laws_toRows.f k l0_0 a0_1).bind fun bt670 => ((laws_eqRows.f k bt651.1 bt651.2 bt670.1 bt670.2).bind fun t674 => (if t674 = true then ((laws_toRes.f k a2_0 l2_1).bind fun bt675 => ((laws_eqRes.f k bt656.1 bt656.2 bt675.1 bt675.2).bind fun t679 => (if t679 = true then ((laws_markRows.f k bt651.1 bt651.2 1).bind fun bt680 => ((laws_markRes.f k bt656.1 bt656.2 bt680.1).bind fun bt682 => (if bt682.1 < 0 then (laws_FnExactAfter.j0 k true l0_0 a0_1 a1_0 a1_1 a1_2 a2_0 l2_1 bt646.1 bt646.2 bt664.1 bt664.2) else ((laws_eqRows.f k bt664.1 bt664.2 bt646.1 bt646.2).bind fun t684 => (laws_FnExactAfter.j0 k (!t684) l0_0 a0_1 a1_0 a1_1 a1_2 a2_0 l2_1 bt646.1 bt646.2 bt664.1 bt664.2))))) else (some false)))) else (some false)))) else (some false)))))))))))))) = some r := H
 have A4 := Aside0.mk A40
 clear A40
 by_cases c5 : t633 < 0
 ·rw [if_pos c5] at H
  have c5b0 := decide_eq_true c5
  clear c5
  obtain rfl := Option.some.inj H
  go_enter Try.func6, Try.ntmps6
  go_wp2_with (first | ((with_reducible refine gate_dst (N := 3) rfl ?_); refine bx (N := 3) (cs := #[.slice A0_0 l0_0.length c0_0, .int .i64 a0_1]) (t := 58) ?_; intro gb630 hg w6 hbox hb; have BK630 := Aside0.mk (hbox); have GW630 := Aside0.mk (ge_ hg HB); have GE630 := Aside0.mk (ge_ hg HB); replace HB := bs HB hb; clear hb hbox hg) | ((with_reducible refine gate_dst (N := 4) rfl ?_); refine bx (N := 4) (cs := #[.int .i64 a1_0, .int .i64 a1_1, .int .i64 a1_2]) (t := 60) ?_; intro gb631 hg w7 hbox hb; have BK631 := Aside0.mk (hbox); have GW631 := Aside0.mk (ge_ hg HB); have GE631 := Aside0.mk (ge_ hg HB); replace HB := bs HB hb; have NB630_631 := Aside0.mk (nl_ hg BK630); have NB631_630 := Aside0.mk (ng_ hg BK630); replace BK630 := bb BK630 hb; clear hb hbox hg) | ((with_reducible refine gate_dst (N := 5) rfl ?_); refine bx (N := 5) (cs := #[.int .i64 a2_0, .slice A2_1 l2_1.length c2_1]) (t := 62) ?_; intro gb632 hg w8 hbox hb; have BK632 := Aside0.mk (hbox); have GW632 := Aside0.mk (ge_ hg HB); have GE632 := Aside0.mk (ge_ hg HB); replace HB := bs HB hb; have NB630_632 := Aside0.mk (nl_ hg BK630); have NB632_630 := Aside0.mk (ng_ hg BK630); replace BK630 := bb BK630 hb; have NB631_632 := Aside0.mk (nl_ hg BK631); have NB632_631 := Aside0.mk (ng_ hg BK631); replace BK631 := bb BK631 hb; clear hb hbox hg; have hnb9 := NB630_631.out; have hnc9 := NB631_630.out; have hnb10 := NB630_632.out; have hnc10 := NB632_630.out; obtain ⟨hcz11_0, hcz11_1, hfz11_0, hfz11_1⟩ := c2 BK630) | ((with_reducible refine gate_callee (f := 32) rfl ?_); refine gL 18 Try.func32 #[.agg #[.slice A0_0 l0_0.length c0_0, .int .i64 a0_1], .int .i64 1048576] ?_; (with_reducible refine (laws_szRows.calls _ _ l0_0 a0_1 1048576 t633 _ ?side1 ?side2 A4.out).mono ?_); (case side1 => exact kc HR0_0 HB); (case side2 => exact HC0_0.out); rintro e w12 ⟨rfl, hb⟩; refine ⟨_, rfl, ?_⟩; replace BK630 := bb BK630 hb; replace BK631 := bb BK631 hb; replace BK632 := bb BK632 hb; replace HB := bs HB hb; (try clear hb); (try clear hb2); (try clear hk); (try clear hi)))
  go_ret
  exact ⟨er, tb HB⟩
 ·rw [if_neg c5] at H
  have c5b0 := decide_eq_false c5
  clear c5
  replace H := Option.bind_eq_some_iff.mp H
  obtain ⟨t634, A130, H⟩ := H
  replace H : (if t634 < 0 then (some true) else ((laws_toRows.f k l0_0 a0_1).bind fun bt635 => ((laws_toOp.f a1_0 a1_1 a1_2).bind fun bt639 => ((laws_toRes.f k a2_0 l2_1).bind fun bt642 => ((spec_After.f k bt635.1 bt635.2 bt639.1 bt639.2.1 bt639.2.2 bt642.1 bt642.2).bind fun bt646 => ((laws_toRows.f k l0_0 a0_1).bind fun bt651 => ((laws_toRes.f k a2_0 l2_1).bind fun bt656 => ((laws_toOp.f a1_0 a1_1 a1_2).bind fun bt661 => ((impl_After.f k bt651.1 bt651.2 bt661.1 bt661.2.1 bt661.2.2 bt656.1 bt656.2).bind fun bt664 => ((laws_eqRows.f k bt664.1 bt664.2 bt646.1 bt646.2).bind fun t669 => (if t669 = true then ((laws_toRows.f k l0_0 a0_1).bind fun bt670 => ((laws_eqRows.f k bt651.1 bt651.2 bt670.1 bt670.2).bind fun t674 => (if t674 = true then ((laws_toRes.f k a2_0 l2_1).bind fun bt675 => ((laws_eqRes.f k bt656.1 bt656.2 bt675.1 bt675.2).bind fun t679 => (if t679 = true then ((laws_markRows.f k bt651.1 bt651.2 1).bind fun bt680 => ((laws_markRes.f k bt656.1 bt656.2 bt680.1).bind fun bt682 => (if bt682.1 < 0 then (laws_FnExactAfter.j0 k true l0_0 a0_1 a1_0 a1_1 a1_2 a2_0 l2_1 bt646.1 bt646.2 bt664.1 bt664.2) else ((laws_eqRows.f k bt664.1 bt664.2 bt646.1 bt646.2).bind fun t684 => (laws_FnExactAfter.j0 k (!t684) l0_0 a0_1 a1_0 a1_1 a1_2 a2_0 l2_1 bt646.1 bt646.2 bt664.1 bt664.2))))) else (some false)))) else (some false)))) else (some false)))))))))))) = some r := H
  have A13 := Aside0.mk A130
  clear A130
  by_cases c14 : t634 < 0
  ·rw [if_pos c14] at H
   have c14b0 := decide_eq_true c14
   clear c14
   obtain rfl := Option.some.inj H
   go_enter Try.func6, Try.ntmps6
   go_wp2_with (first | ((with_reducible refine gate_dst (N := 3) rfl ?_); refine bx (N := 3) (cs := #[.slice A0_0 l0_0.length c0_0, .int .i64 a0_1]) (t := 58) ?_; intro gb630 hg w15 hbox hb; have BK630 := Aside0.mk (hbox); have GW630 := Aside0.mk (ge_ hg HB); have GE630 := Aside0.mk (ge_ hg HB); replace HB := bs HB hb; clear hb hbox hg) | ((with_reducible refine gate_dst (N := 4) rfl ?_); refine bx (N := 4) (cs := #[.int .i64 a1_0, .int .i64 a1_1, .int .i64 a1_2]) (t := 60) ?_; intro gb631 hg w16 hbox hb; have BK631 := Aside0.mk (hbox); have GW631 := Aside0.mk (ge_ hg HB); have GE631 := Aside0.mk (ge_ hg HB); replace HB := bs HB hb; have NB630_631 := Aside0.mk (nl_ hg BK630); have NB631_630 := Aside0.mk (ng_ hg BK630); replace BK630 := bb BK630 hb; clear hb hbox hg) | ((with_reducible refine gate_dst (N := 5) rfl ?_); refine bx (N := 5) (cs := #[.int .i64 a2_0, .slice A2_1 l2_1.length c2_1]) (t := 62) ?_; intro gb632 hg w17 hbox hb; have BK632 := Aside0.mk (hbox); have GW632 := Aside0.mk (ge_ hg HB); have GE632 := Aside0.mk (ge_ hg HB); replace HB := bs HB hb; have NB630_632 := Aside0.mk (nl_ hg BK630); have NB632_630 := Aside0.mk (ng_ hg BK630); replace BK630 := bb BK630 hb; have NB631_632 := Aside0.mk (nl_ hg BK631); have NB632_631 := Aside0.mk (ng_ hg BK631); replace BK631 := bb BK631 hb; clear hb hbox hg; have hnb18 := NB630_631.out; have hnc18 := NB631_630.out; have hnb19 := NB630_632.out; have hnc19 := NB632_630.out; obtain ⟨hcz20_0, hcz20_1, hfz20_0, hfz20_1⟩ := c2 BK630) | ((with_reducible refine gate_callee (f := 32) rfl ?_); refine gL 18 Try.func32 #[.agg #[.slice A0_0 l0_0.length c0_0, .int .i64 a0_1], .int .i64 1048576] ?_; (with_reducible refine (laws_szRows.calls _ _ l0_0 a0_1 1048576 t633 _ ?side1 ?side2 A4.out).mono ?_); (case side1 => exact kc HR0_0 HB); (case side2 => exact HC0_0.out); rintro e w21 ⟨rfl, hb⟩; refine ⟨_, rfl, ?_⟩; replace BK630 := bb BK630 hb; replace BK631 := bb BK631 hb; replace BK632 := bb BK632 hb; replace HB := bs HB hb; (try clear hb); (try clear hb2); (try clear hk); (try clear hi); have hnb22 := NB632_631.out; have hnc22 := NB631_632.out; obtain ⟨hcz23_0, hcz23_1, hfz23_0, hfz23_1⟩ := c2 BK632) | ((with_reducible refine gate_callee (f := 33) rfl ?_); refine gL 23 Try.func33 #[.agg #[.int .i64 a2_0, .slice A2_1 l2_1.length c2_1], .int .i64 t633] ?_; (with_reducible refine (laws_szRes.calls a2_0 _ _ l2_1 t633 t634 _ ?side1 ?side2 A13.out).mono ?_); (case side1 => exact kc HR2_1 HB); (case side2 => exact HC2_1.out); rintro e w24 ⟨rfl, hb⟩; refine ⟨_, rfl, ?_⟩; replace BK630 := bb BK630 hb; replace BK631 := bb BK631 hb; replace BK632 := bb BK632 hb; replace HB := bs HB hb; (try clear hb); (try clear hb2); (try clear hk); (try clear hi)))
   go_ret
   exact ⟨er, tb HB⟩
  ·rw [if_neg c14] at H
   have c14b0 := decide_eq_false c14
   clear c14
   replace H := Option.bind_eq_some_iff.mp H
   obtain ⟨⟨t635, t638⟩, A250, H⟩ := H
   replace H : ((laws_toOp.f a1_0 a1_1 a1_2).bind fun bt639 => ((laws_toRes.f k a2_0 l2_1).bind fun bt642 => ((spec_After.f k t635 t638 bt639.1 bt639.2.1 bt639.2.2 bt642.1 bt642.2).bind fun bt646 => ((laws_toRows.f k l0_0 a0_1).bind fun bt651 => ((laws_toRes.f k a2_0 l2_1).bind fun bt656 => ((laws_toOp.f a1_0 a1_1 a1_2).bind fun bt661 => ((impl_After.f k bt651.1 bt651.2 bt661.1 bt661.2.1 bt661.2.2 bt656.1 bt656.2).bind fun bt664 => ((laws_eqRows.f k bt664.1 bt664.2 bt646.1 bt646.2).bind fun t669 => (if t669 = true then ((laws_toRows.f k l0_0 a0_1).bind fun bt670 => ((laws_eqRows.f k bt651.1 bt651.2 bt670.1 bt670.2).bind fun t674 => (if t674 = true then ((laws_toRes.f k a2_0 l2_1).bind fun bt675 => ((laws_eqRes.f k bt656.1 bt656.2 bt675.1 bt675.2).bind fun t679 => (if t679 = true then ((laws_markRows.f k bt651.1 bt651.2 1).bind fun bt680 => ((laws_markRes.f k bt656.1 bt656.2 bt680.1).bind fun bt682 => (if bt682.1 < 0 then (laws_FnExactAfter.j0 k true l0_0 a0_1 a1_0 a1_1 a1_2 a2_0 l2_1 bt646.1 bt646.2 bt664.1 bt664.2) else ((laws_eqRows.f k bt664.1 bt664.2 bt646.1 bt646.2).bind fun t684 => (laws_FnExactAfter.j0 k (!t684) l0_0 a0_1 a1_0 a1_1 a1_2 a2_0 l2_1 bt646.1 bt646.2 bt664.1 bt664.2))))) else (some false)))) else (some false)))) else (some false)))))))))) = some r := H
   have A25 := Aside0.mk A250
   clear A250
   replace H := Option.bind_eq_some_iff.mp H
   obtain ⟨⟨t639, t640, t641⟩, A260, H⟩ := H
   replace H : ((laws_toRes.f k a2_0 l2_1).bind fun bt642 => ((spec_After.f k t635 t638 t639 t640 t641 bt642.1 bt642.2).bind fun bt646 => ((laws_toRows.f k l0_0 a0_1).bind fun bt651 => ((laws_toRes.f k a2_0 l2_1).bind fun bt656 => ((laws_toOp.f a1_0 a1_1 a1_2).bind fun bt661 => ((impl_After.f k bt651.1 bt651.2 bt661.1 bt661.2.1 bt661.2.2 bt656.1 bt656.2).bind fun bt664 => ((laws_eqRows.f k bt664.1 bt664.2 bt646.1 bt646.2).bind fun t669 => (if t669 = true then ((laws_toRows.f k l0_0 a0_1).bind fun bt670 => ((laws_eqRows.f k bt651.1 bt651.2 bt670.1 bt670.2).bind fun t674 => (if t674 = true then ((laws_toRes.f k a2_0 l2_1).bind fun bt675 => ((laws_eqRes.f k bt656.1 bt656.2 bt675.1 bt675.2).bind fun t679 => (if t679 = true then ((laws_markRows.f k bt651.1 bt651.2 1).bind fun bt680 => ((laws_markRes.f k bt656.1 bt656.2 bt680.1).bind fun bt682 => (if bt682.1 < 0 then (laws_FnExactAfter.j0 k true l0_0 a0_1 a1_0 a1_1 a1_2 a2_0 l2_1 bt646.1 bt646.2 bt664.1 bt664.2) else ((laws_eqRows.f k bt664.1 bt664.2 bt646.1 bt646.2).bind fun t684 => (laws_FnExactAfter.j0 k (!t684) l0_0 a0_1 a1_0 a1_1 a1_2 a2_0 l2_1 bt646.1 bt646.2 bt664.1 bt664.2))))) else (some false)))) else (some false)))) else (some false))))))))) = some r := H
   have A26 := Aside0.mk A260
   clear A260
   replace H := Option.bind_eq_some_iff.mp H
   obtain ⟨⟨t642, t643⟩, A270, H⟩ := H
   replace H : ((spec_After.f k t635 t638 t639 t640 t641 t642 t643).bind fun bt646 => ((laws_toRows.f k l0_0 a0_1).bind fun bt651 => ((laws_toRes.f k a2_0 l2_1).bind fun bt656 => ((laws_toOp.f a1_0 a1_1 a1_2).bind fun bt661 => ((impl_After.f k bt651.1 bt651.2 bt661.1 bt661.2.1 bt661.2.2 bt656.1 bt656.2).bind fun bt664 => ((laws_eqRows.f k bt664.1 bt664.2 bt646.1 bt646.2).bind fun t669 => (if t669 = true then ((laws_toRows.f k l0_0 a0_1).bind fun bt670 => ((laws_eqRows.f k bt651.1 bt651.2 bt670.1 bt670.2).bind fun t674 => (if t674 = true then ((laws_toRes.f k a2_0 l2_1).bind fun bt675 => ((laws_eqRes.f k bt656.1 bt656.2 bt675.1 bt675.2).bind fun t679 => (if t679 = true then ((laws_markRows.f k bt651.1 bt651.2 1).bind fun bt680 => ((laws_markRes.f k bt656.1 bt656.2 bt680.1).bind fun bt682 => (if bt682.1 < 0 then (laws_FnExactAfter.j0 k true l0_0 a0_1 a1_0 a1_1 a1_2 a2_0 l2_1 bt646.1 bt646.2 bt664.1 bt664.2) else ((laws_eqRows.f k bt664.1 bt664.2 bt646.1 bt646.2).bind fun t684 => (laws_FnExactAfter.j0 k (!t684) l0_0 a0_1 a1_0 a1_1 a1_2 a2_0 l2_1 bt646.1 bt646.2 bt664.1 bt664.2))))) else (some false)))) else (some false)))) else (some false)))))))) = some r := H
   have A27 := Aside0.mk A270
   clear A270
   replace H := Option.bind_eq_some_iff.mp H
   obtain ⟨⟨t646, t649⟩, A280, H⟩ := H
   replace H : ((laws_toRows.f k l0_0 a0_1).bind fun bt651 => ((laws_toRes.f k a2_0 l2_1).bind fun bt656 => ((laws_toOp.f a1_0 a1_1 a1_2).bind fun bt661 => ((impl_After.f k bt651.1 bt651.2 bt661.1 bt661.2.1 bt661.2.2 bt656.1 bt656.2).bind fun bt664 => ((laws_eqRows.f k bt664.1 bt664.2 t646 t649).bind fun t669 => (if t669 = true then ((laws_toRows.f k l0_0 a0_1).bind fun bt670 => ((laws_eqRows.f k bt651.1 bt651.2 bt670.1 bt670.2).bind fun t674 => (if t674 = true then ((laws_toRes.f k a2_0 l2_1).bind fun bt675 => ((laws_eqRes.f k bt656.1 bt656.2 bt675.1 bt675.2).bind fun t679 => (if t679 = true then ((laws_markRows.f k bt651.1 bt651.2 1).bind fun bt680 => ((laws_markRes.f k bt656.1 bt656.2 bt680.1).bind fun bt682 => (if bt682.1 < 0 then (laws_FnExactAfter.j0 k true l0_0 a0_1 a1_0 a1_1 a1_2 a2_0 l2_1 t646 t649 bt664.1 bt664.2) else ((laws_eqRows.f k bt664.1 bt664.2 t646 t649).bind fun t684 => (laws_FnExactAfter.j0 k (!t684) l0_0 a0_1 a1_0 a1_1 a1_2 a2_0 l2_1 t646 t649 bt664.1 bt664.2))))) else (some false)))) else (some false)))) else (some false))))))) = some r := H
   have A28 := Aside0.mk A280
   clear A280
   replace H := Option.bind_eq_some_iff.mp H
   obtain ⟨⟨t651, t654⟩, A290, H⟩ := H
   replace H : ((laws_toRes.f k a2_0 l2_1).bind fun bt656 => ((laws_toOp.f a1_0 a1_1 a1_2).bind fun bt661 => ((impl_After.f k t651 t654 bt661.1 bt661.2.1 bt661.2.2 bt656.1 bt656.2).bind fun bt664 => ((laws_eqRows.f k bt664.1 bt664.2 t646 t649).bind fun t669 => (if t669 = true then ((laws_toRows.f k l0_0 a0_1).bind fun bt670 => ((laws_eqRows.f k t651 t654 bt670.1 bt670.2).bind fun t674 => (if t674 = true then ((laws_toRes.f k a2_0 l2_1).bind fun bt675 => ((laws_eqRes.f k bt656.1 bt656.2 bt675.1 bt675.2).bind fun t679 => (if t679 = true then ((laws_markRows.f k t651 t654 1).bind fun bt680 => ((laws_markRes.f k bt656.1 bt656.2 bt680.1).bind fun bt682 => (if bt682.1 < 0 then (laws_FnExactAfter.j0 k true l0_0 a0_1 a1_0 a1_1 a1_2 a2_0 l2_1 t646 t649 bt664.1 bt664.2) else ((laws_eqRows.f k bt664.1 bt664.2 t646 t649).bind fun t684 => (laws_FnExactAfter.j0 k (!t684) l0_0 a0_1 a1_0 a1_1 a1_2 a2_0 l2_1 t646 t649 bt664.1 bt664.2))))) else (some false)))) else (some false)))) else (some false)))))) = some r := H
   have A29 := Aside0.mk A290
   clear A290
   replace H := Option.bind_eq_some_iff.mp H
   obtain ⟨⟨t656, t657⟩, A300, H⟩ := H
   replace H : ((laws_toOp.f a1_0 a1_1 a1_2).bind fun bt661 => ((impl_After.f k t651 t654 bt661.1 bt661.2.1 bt661.2.2 t656 t657).bind fun bt664 => ((laws_eqRows.f k bt664.1 bt664.2 t646 t649).bind fun t669 => (if t669 = true then ((laws_toRows.f k l0_0 a0_1).bind fun bt670 => ((laws_eqRows.f k t651 t654 bt670.1 bt670.2).bind fun t674 => (if t674 = true then ((laws_toRes.f k a2_0 l2_1).bind fun bt675 => ((laws_eqRes.f k t656 t657 bt675.1 bt675.2).bind fun t679 => (if t679 = true then ((laws_markRows.f k t651 t654 1).bind fun bt680 => ((laws_markRes.f k t656 t657 bt680.1).bind fun bt682 => (if bt682.1 < 0 then (laws_FnExactAfter.j0 k true l0_0 a0_1 a1_0 a1_1 a1_2 a2_0 l2_1 t646 t649 bt664.1 bt664.2) else ((laws_eqRows.f k bt664.1 bt664.2 t646 t649).bind fun t684 => (laws_FnExactAfter.j0 k (!t684) l0_0 a0_1 a1_0 a1_1 a1_2 a2_0 l2_1 t646 t649 bt664.1 bt664.2))))) else (some false)))) else (some false)))) else (some false))))) = some r := H
   have A30 := Aside0.mk A300
   clear A300
   replace H := Option.bind_eq_some_iff.mp H
   obtain ⟨⟨t661, t662, t663⟩, A310, H⟩ := H
   replace H : ((impl_After.f k t651 t654 t661 t662 t663 t656 t657).bind fun bt664 => ((laws_eqRows.f k bt664.1 bt664.2 t646 t649).bind fun t669 => (if t669 = true then ((laws_toRows.f k l0_0 a0_1).bind fun bt670 => ((laws_eqRows.f k t651 t654 bt670.1 bt670.2).bind fun t674 => (if t674 = true then ((laws_toRes.f k a2_0 l2_1).bind fun bt675 => ((laws_eqRes.f k t656 t657 bt675.1 bt675.2).bind fun t679 => (if t679 = true then ((laws_markRows.f k t651 t654 1).bind fun bt680 => ((laws_markRes.f k t656 t657 bt680.1).bind fun bt682 => (if bt682.1 < 0 then (laws_FnExactAfter.j0 k true l0_0 a0_1 a1_0 a1_1 a1_2 a2_0 l2_1 t646 t649 bt664.1 bt664.2) else ((laws_eqRows.f k bt664.1 bt664.2 t646 t649).bind fun t684 => (laws_FnExactAfter.j0 k (!t684) l0_0 a0_1 a1_0 a1_1 a1_2 a2_0 l2_1 t646 t649 bt664.1 bt664.2))))) else (some false)))) else (some false)))) else (some false)))) = some r := H
   have A31 := Aside0.mk A310
   clear A310
   replace H := Option.bind_eq_some_iff.mp H
   obtain ⟨⟨t664, t667⟩, A320, H⟩ := H
   replace H : ((laws_eqRows.f k t664 t667 t646 t649).bind fun t669 => (if t669 = true then ((laws_toRows.f k l0_0 a0_1).bind fun bt670 => ((laws_eqRows.f k t651 t654 bt670.1 bt670.2).bind fun t674 => (if t674 = true then ((laws_toRes.f k a2_0 l2_1).bind fun bt675 => ((laws_eqRes.f k t656 t657 bt675.1 bt675.2).bind fun t679 => (if t679 = true then ((laws_markRows.f k t651 t654 1).bind fun bt680 => ((laws_markRes.f k t656 t657 bt680.1).bind fun bt682 => (if bt682.1 < 0 then (laws_FnExactAfter.j0 k true l0_0 a0_1 a1_0 a1_1 a1_2 a2_0 l2_1 t646 t649 t664 t667) else ((laws_eqRows.f k t664 t667 t646 t649).bind fun t684 => (laws_FnExactAfter.j0 k (!t684) l0_0 a0_1 a1_0 a1_1 a1_2 a2_0 l2_1 t646 t649 t664 t667))))) else (some false)))) else (some false)))) else (some false))) = some r := H
   have A32 := Aside0.mk A320
   clear A320
   replace H := Option.bind_eq_some_iff.mp H
   obtain ⟨t669, A330, H⟩ := H
   replace H : (if t669 = true then ((laws_toRows.f k l0_0 a0_1).bind fun bt670 => ((laws_eqRows.f k t651 t654 bt670.1 bt670.2).bind fun t674 => (if t674 = true then ((laws_toRes.f k a2_0 l2_1).bind fun bt675 => ((laws_eqRes.f k t656 t657 bt675.1 bt675.2).bind fun t679 => (if t679 = true then ((laws_markRows.f k t651 t654 1).bind fun bt680 => ((laws_markRes.f k t656 t657 bt680.1).bind fun bt682 => (if bt682.1 < 0 then (laws_FnExactAfter.j0 k true l0_0 a0_1 a1_0 a1_1 a1_2 a2_0 l2_1 t646 t649 t664 t667) else ((laws_eqRows.f k t664 t667 t646 t649).bind fun t684 => (laws_FnExactAfter.j0 k (!t684) l0_0 a0_1 a1_0 a1_1 a1_2 a2_0 l2_1 t646 t649 t664 t667))))) else (some false)))) else (some false)))) else (some false)) = some r := H
   have A33 := Aside0.mk A330
   clear A330
   by_cases c34 : t669 = true
   ·subst c34
    have H1 : ((laws_toRows.f k l0_0 a0_1).bind fun bt670 => ((laws_eqRows.f k t651 t654 bt670.1 bt670.2).bind fun t674 => (if t674 = true then ((laws_toRes.f k a2_0 l2_1).bind fun bt675 => ((laws_eqRes.f k t656 t657 bt675.1 bt675.2).bind fun t679 => (if t679 = true then ((laws_markRows.f k t651 t654 1).bind fun bt680 => ((laws_markRes.f k t656 t657 bt680.1).bind fun bt682 => (if bt682.1 < 0 then (laws_FnExactAfter.j0 k true l0_0 a0_1 a1_0 a1_1 a1_2 a2_0 l2_1 t646 t649 t664 t667) else ((laws_eqRows.f k t664 t667 t646 t649).bind fun t684 => (laws_FnExactAfter.j0 k (!t684) l0_0 a0_1 a1_0 a1_1 a1_2 a2_0 l2_1 t646 t649 t664 t667))))) else (some false)))) else (some false)))) = some r := by rw [if_pos rfl] at H; exact H
    clear H
    have H := H1
    clear H1
    replace H := Option.bind_eq_some_iff.mp H
    obtain ⟨⟨t670, t673⟩, A350, H⟩ := H
    replace H : ((laws_eqRows.f k t651 t654 t670 t673).bind fun t674 => (if t674 = true then ((laws_toRes.f k a2_0 l2_1).bind fun bt675 => ((laws_eqRes.f k t656 t657 bt675.1 bt675.2).bind fun t679 => (if t679 = true then ((laws_markRows.f k t651 t654 1).bind fun bt680 => ((laws_markRes.f k t656 t657 bt680.1).bind fun bt682 => (if bt682.1 < 0 then (laws_FnExactAfter.j0 k true l0_0 a0_1 a1_0 a1_1 a1_2 a2_0 l2_1 t646 t649 t664 t667) else ((laws_eqRows.f k t664 t667 t646 t649).bind fun t684 => (laws_FnExactAfter.j0 k (!t684) l0_0 a0_1 a1_0 a1_1 a1_2 a2_0 l2_1 t646 t649 t664 t667))))) else (some false)))) else (some false))) = some r := H
    have A35 := Aside0.mk A350
    clear A350
    replace H := Option.bind_eq_some_iff.mp H
    obtain ⟨t674, A360, H⟩ := H
    replace H : (if t674 = true then ((laws_toRes.f k a2_0 l2_1).bind fun bt675 => ((laws_eqRes.f k t656 t657 bt675.1 bt675.2).bind fun t679 => (if t679 = true then ((laws_markRows.f k t651 t654 1).bind fun bt680 => ((laws_markRes.f k t656 t657 bt680.1).bind fun bt682 => (if bt682.1 < 0 then (laws_FnExactAfter.j0 k true l0_0 a0_1 a1_0 a1_1 a1_2 a2_0 l2_1 t646 t649 t664 t667) else ((laws_eqRows.f k t664 t667 t646 t649).bind fun t684 => (laws_FnExactAfter.j0 k (!t684) l0_0 a0_1 a1_0 a1_1 a1_2 a2_0 l2_1 t646 t649 t664 t667))))) else (some false)))) else (some false)) = some r := H
    have A36 := Aside0.mk A360
    clear A360
    by_cases c37 : t674 = true
    ·subst c37
     have H1 : ((laws_toRes.f k a2_0 l2_1).bind fun bt675 => ((laws_eqRes.f k t656 t657 bt675.1 bt675.2).bind fun t679 => (if t679 = true then ((laws_markRows.f k t651 t654 1).bind fun bt680 => ((laws_markRes.f k t656 t657 bt680.1).bind fun bt682 => (if bt682.1 < 0 then (laws_FnExactAfter.j0 k true l0_0 a0_1 a1_0 a1_1 a1_2 a2_0 l2_1 t646 t649 t664 t667) else ((laws_eqRows.f k t664 t667 t646 t649).bind fun t684 => (laws_FnExactAfter.j0 k (!t684) l0_0 a0_1 a1_0 a1_1 a1_2 a2_0 l2_1 t646 t649 t664 t667))))) else (some false)))) = some r := by rw [if_pos rfl] at H; exact H
     clear H
     have H := H1
     clear H1
     replace H := Option.bind_eq_some_iff.mp H
     obtain ⟨⟨t675, t676⟩, A380, H⟩ := H
     replace H : ((laws_eqRes.f k t656 t657 t675 t676).bind fun t679 => (if t679 = true then ((laws_markRows.f k t651 t654 1).bind fun bt680 => ((laws_markRes.f k t656 t657 bt680.1).bind fun bt682 => (if bt682.1 < 0 then (laws_FnExactAfter.j0 k true l0_0 a0_1 a1_0 a1_1 a1_2 a2_0 l2_1 t646 t649 t664 t667) else ((laws_eqRows.f k t664 t667 t646 t649).bind fun t684 => (laws_FnExactAfter.j0 k (!t684) l0_0 a0_1 a1_0 a1_1 a1_2 a2_0 l2_1 t646 t649 t664 t667))))) else (some false))) = some r := H
     have A38 := Aside0.mk A380
     clear A380
     replace H := Option.bind_eq_some_iff.mp H
     obtain ⟨t679, A390, H⟩ := H
     replace H : (if t679 = true then ((laws_markRows.f k t651 t654 1).bind fun bt680 => ((laws_markRes.f k t656 t657 bt680.1).bind fun bt682 => (if bt682.1 < 0 then (laws_FnExactAfter.j0 k true l0_0 a0_1 a1_0 a1_1 a1_2 a2_0 l2_1 t646 t649 t664 t667) else ((laws_eqRows.f k t664 t667 t646 t649).bind fun t684 => (laws_FnExactAfter.j0 k (!t684) l0_0 a0_1 a1_0 a1_1 a1_2 a2_0 l2_1 t646 t649 t664 t667))))) else (some false)) = some r := H
     have A39 := Aside0.mk A390
     clear A390
     by_cases c40 : t679 = true
     ·subst c40
      have H1 : ((laws_markRows.f k t651 t654 1).bind fun bt680 => ((laws_markRes.f k t656 t657 bt680.1).bind fun bt682 => (if bt682.1 < 0 then (laws_FnExactAfter.j0 k true l0_0 a0_1 a1_0 a1_1 a1_2 a2_0 l2_1 t646 t649 t664 t667) else ((laws_eqRows.f k t664 t667 t646 t649).bind fun t684 => (laws_FnExactAfter.j0 k (!t684) l0_0 a0_1 a1_0 a1_1 a1_2 a2_0 l2_1 t646 t649 t664 t667))))) = some r := by rw [if_pos rfl] at H; exact H
      clear H
      have H := H1
      clear H1
      replace H := Option.bind_eq_some_iff.mp H
      obtain ⟨⟨t680, t681⟩, A410, H⟩ := H
      replace H : ((laws_markRes.f k t656 t657 t680).bind fun bt682 => (if bt682.1 < 0 then (laws_FnExactAfter.j0 k true l0_0 a0_1 a1_0 a1_1 a1_2 a2_0 l2_1 t646 t649 t664 t667) else ((laws_eqRows.f k t664 t667 t646 t649).bind fun t684 => (laws_FnExactAfter.j0 k (!t684) l0_0 a0_1 a1_0 a1_1 a1_2 a2_0 l2_1 t646 t649 t664 t667)))) = some r := H
      have A41 := Aside0.mk A410
      clear A410
      replace H := Option.bind_eq_some_iff.mp H
      obtain ⟨⟨t682, t683⟩, A420, H⟩ := H
      replace H : (if t682 < 0 then (laws_FnExactAfter.j0 k true l0_0 a0_1 a1_0 a1_1 a1_2 a2_0 l2_1 t646 t649 t664 t667) else ((laws_eqRows.f k t664 t667 t646 t649).bind fun t684 => (laws_FnExactAfter.j0 k (!t684) l0_0 a0_1 a1_0 a1_1 a1_2 a2_0 l2_1 t646 t649 t664 t667))) = some r := H
      have A42 := Aside0.mk A420
      clear A420
      have HC43 := Aside0.mk H
      clear H
      go_enter Try.func6, Try.ntmps6
      try go_wp2_with (first | ((with_reducible refine gate_dst (N := 3) rfl ?_); refine bx (N := 3) (cs := #[.slice A0_0 l0_0.length c0_0, .int .i64 a0_1]) (t := 58) ?_; intro gb630 hg w44 hbox hb; have BK630 := Aside0.mk (hbox); have GW630 := Aside0.mk (ge_ hg HB); have GE630 := Aside0.mk (ge_ hg HB); replace HB := bs HB hb; clear hb hbox hg) | ((with_reducible refine gate_dst (N := 4) rfl ?_); refine bx (N := 4) (cs := #[.int .i64 a1_0, .int .i64 a1_1, .int .i64 a1_2]) (t := 60) ?_; intro gb631 hg w45 hbox hb; have BK631 := Aside0.mk (hbox); have GW631 := Aside0.mk (ge_ hg HB); have GE631 := Aside0.mk (ge_ hg HB); replace HB := bs HB hb; have NB630_631 := Aside0.mk (nl_ hg BK630); have NB631_630 := Aside0.mk (ng_ hg BK630); replace BK630 := bb BK630 hb; clear hb hbox hg) | ((with_reducible refine gate_dst (N := 5) rfl ?_); refine bx (N := 5) (cs := #[.int .i64 a2_0, .slice A2_1 l2_1.length c2_1]) (t := 62) ?_; intro gb632 hg w46 hbox hb; have BK632 := Aside0.mk (hbox); have GW632 := Aside0.mk (ge_ hg HB); have GE632 := Aside0.mk (ge_ hg HB); replace HB := bs HB hb; have NB630_632 := Aside0.mk (nl_ hg BK630); have NB632_630 := Aside0.mk (ng_ hg BK630); replace BK630 := bb BK630 hb; have NB631_632 := Aside0.mk (nl_ hg BK631); have NB632_631 := Aside0.mk (ng_ hg BK631); replace BK631 := bb BK631 hb; clear hb hbox hg; have hnb47 := NB630_631.out; have hnc47 := NB631_630.out; have hnb48 := NB630_632.out; have hnc48 := NB632_630.out; obtain ⟨hcz49_0, hcz49_1, hfz49_0, hfz49_1⟩ := c2 BK630) | ((with_reducible refine gate_callee (f := 32) rfl ?_); refine gL 18 Try.func32 #[.agg #[.slice A0_0 l0_0.length c0_0, .int .i64 a0_1], .int .i64 1048576] ?_; (with_reducible refine (laws_szRows.calls _ _ l0_0 a0_1 1048576 t633 _ ?side1 ?side2 A4.out).mono ?_); (case side1 => exact kc HR0_0 HB); (case side2 => exact HC0_0.out); rintro e w50 ⟨rfl, hb⟩; refine ⟨_, rfl, ?_⟩; replace BK630 := bb BK630 hb; replace BK631 := bb BK631 hb; replace BK632 := bb BK632 hb; replace HB := bs HB hb; (try clear hb); (try clear hb2); (try clear hk); (try clear hi); have hnb51 := NB632_631.out; have hnc51 := NB631_632.out; obtain ⟨hcz52_0, hcz52_1, hfz52_0, hfz52_1⟩ := c2 BK632) | ((with_reducible refine gate_callee (f := 33) rfl ?_); refine gL 23 Try.func33 #[.agg #[.int .i64 a2_0, .slice A2_1 l2_1.length c2_1], .int .i64 t633] ?_; (with_reducible refine (laws_szRes.calls a2_0 _ _ l2_1 t633 t634 _ ?side1 ?side2 A13.out).mono ?_); (case side1 => exact kc HR2_1 HB); (case side2 => exact HC2_1.out); rintro e w53 ⟨rfl, hb⟩; refine ⟨_, rfl, ?_⟩; replace BK630 := bb BK630 hb; replace BK631 := bb BK631 hb; replace BK632 := bb BK632 hb; replace HB := bs HB hb; (try clear hb); (try clear hb2); (try clear hk); (try clear hi)))
      replace BK630 := bd BK630
      replace BK631 := bd BK631
      replace BK632 := bd BK632
      replace HB := Aside0.mk (below_drew1 HB.out)
      refine start_ (n := 9) (S := fun w' => w'.cell? ⟨gb630, 0, none⟩ = some (.slice A0_0 l0_0.length c0_0) ∧ w'.cell? ⟨gb630, 1, none⟩ = some (.int .i64 a0_1) ∧ w'.cell? ⟨gb631, 0, none⟩ = some (.int .i64 a1_0) ∧ w'.cell? ⟨gb631, 1, none⟩ = some (.int .i64 a1_1) ∧ w'.cell? ⟨gb631, 2, none⟩ = some (.int .i64 a1_2) ∧ w'.cell? ⟨gb632, 0, none⟩ = some (.int .i64 a2_0) ∧ w'.cell? ⟨gb632, 1, none⟩ = some (.slice A2_1 l2_1.length c2_1)) (ds := []) #[false, false, false, false, false, false, false, false, false] (by kernel_rfl) rfl rfl ⟨cz BK630 0, cz BK630 1, cz BK631 0, cz BK631 1, cz BK631 2, cz BK632 0, cz BK632 1⟩ (fun hHeld => ?_); refine with_tabW laws_FnExactAfter.tab8 laws_FnExactAfter.bits8 (fun HT_ HW_ => ?_)
      generalize w53.drew = w54 at BK630 BK631 BK632 HB hHeld ⊢
      refine ta 0 26 ?_
      refine ta 2 28 ?_
      refine ta 4 30 ?_
      refine join_ (σ := Value × Value × Value × Nat) 1 #[true, true, true, true, true, true, true, true, false] (fun s_ => [(27, .agg #[s_.1, .int .i64 t638]), (29, .agg #[.int .i64 t639, .int .i64 t640, .int .i64 t641]), (31, .agg #[.int .i64 t642, s_.2.1]), (32, .agg #[s_.2.2.1, .int .i64 t649]), (8, .pointer (some ⟨s_.2.2.2, 0, none⟩))]) (fun s_ w' => (w'.cell? ⟨gb630, 0, none⟩ = some (.slice A0_0 l0_0.length c0_0) ∧ w'.cell? ⟨gb630, 1, none⟩ = some (.int .i64 a0_1) ∧ w'.cell? ⟨gb631, 0, none⟩ = some (.int .i64 a1_0) ∧ w'.cell? ⟨gb631, 1, none⟩ = some (.int .i64 a1_1) ∧ w'.cell? ⟨gb631, 2, none⟩ = some (.int .i64 a1_2) ∧ w'.cell? ⟨gb632, 0, none⟩ = some (.int .i64 a2_0) ∧ w'.cell? ⟨gb632, 1, none⟩ = some (.slice A2_1 l2_1.length c2_1)) ∧ Aside0 (Kd.R (Kd.int .i64) 3 w' w.heap.size (fun k_ => some k_ ≠ (s_.2.1 : Value).ownBlock ∧ some k_ ≠ (s_.2.2.1 : Value).ownBlock) s_.1 t635) ∧ Aside0 (Kd.R (Kd.int .i64) 3 w' w.heap.size (fun k_ => some k_ ≠ (s_.1 : Value).ownBlock ∧ some k_ ≠ (s_.2.2.1 : Value).ownBlock) s_.2.1 t643) ∧ Aside0 (Kd.R (Kd.int .i64) 3 w' w.heap.size (fun k_ => some k_ ≠ (s_.1 : Value).ownBlock ∧ some k_ ≠ (s_.2.1 : Value).ownBlock) s_.2.2.1 t646) ∧ Aside0 (w'.heap[gb630]? = some (.cells #[.slice A0_0 l0_0.length c0_0, .int .i64 a0_1] 58 (0, 0))) ∧ Aside0 (w'.heap[gb631]? = some (.cells #[.int .i64 a1_0, .int .i64 a1_1, .int .i64 a1_2] 60 (0, 0))) ∧ Aside0 (w'.heap[gb632]? = some (.cells #[.int .i64 a2_0, .slice A2_1 l2_1.length c2_1] 62 (0, 0))) ∧ Aside0 (w'.heap[s_.2.2.2]? = some (.cells #[.slice none 0 0, .int .i64 0] 65 (0, 0))) ∧ Aside0 (w.heap.size ≤ s_.2.2.2) ∧ Aside0 (w.heap.size ≤ s_.2.2.2) ∧ Aside0 (gb630 ≠ s_.2.2.2) ∧ Aside0 (s_.2.2.2 ≠ gb630) ∧ Aside0 (gb631 ≠ s_.2.2.2) ∧ Aside0 (s_.2.2.2 ≠ gb631) ∧ Aside0 (gb632 ≠ s_.2.2.2) ∧ Aside0 (s_.2.2.2 ≠ gb632) ∧ Aside0 (Below w.heap.size w w')) ?_ ?_
      rotate_left
      ·intro hJ1_3_5_6_7
       refine join_ (σ := Value × Value × Value) 2 #[true, true, true, true, true, true, true, false, false] (fun s_ => [(27, .agg #[s_.1, .int .i64 t638]), (29, .agg #[.int .i64 t639, .int .i64 t640, .int .i64 t641]), (31, .agg #[.int .i64 t642, s_.2.1]), (32, .agg #[s_.2.2, .int .i64 t649])]) (fun s_ w' => (w'.cell? ⟨gb630, 0, none⟩ = some (.slice A0_0 l0_0.length c0_0) ∧ w'.cell? ⟨gb630, 1, none⟩ = some (.int .i64 a0_1) ∧ w'.cell? ⟨gb631, 0, none⟩ = some (.int .i64 a1_0) ∧ w'.cell? ⟨gb631, 1, none⟩ = some (.int .i64 a1_1) ∧ w'.cell? ⟨gb631, 2, none⟩ = some (.int .i64 a1_2) ∧ w'.cell? ⟨gb632, 0, none⟩ = some (.int .i64 a2_0) ∧ w'.cell? ⟨gb632, 1, none⟩ = some (.slice A2_1 l2_1.length c2_1)) ∧ Aside0 (Kd.R (Kd.int .i64) 3 w' w.heap.size (fun k_ => some k_ ≠ (s_.2.1 : Value).ownBlock ∧ some k_ ≠ (s_.2.2 : Value).ownBlock) s_.1 t635) ∧ Aside0 (Kd.R (Kd.int .i64) 3 w' w.heap.size (fun k_ => some k_ ≠ (s_.1 : Value).ownBlock ∧ some k_ ≠ (s_.2.2 : Value).ownBlock) s_.2.1 t643) ∧ Aside0 (Kd.R (Kd.int .i64) 3 w' w.heap.size (fun k_ => some k_ ≠ (s_.1 : Value).ownBlock ∧ some k_ ≠ (s_.2.1 : Value).ownBlock) s_.2.2 t646) ∧ Aside0 (w'.heap[gb630]? = some (.cells #[.slice A0_0 l0_0.length c0_0, .int .i64 a0_1] 58 (0, 0))) ∧ Aside0 (w'.heap[gb631]? = some (.cells #[.int .i64 a1_0, .int .i64 a1_1, .int .i64 a1_2] 60 (0, 0))) ∧ Aside0 (w'.heap[gb632]? = some (.cells #[.int .i64 a2_0, .slice A2_1 l2_1.length c2_1] 62 (0, 0))) ∧ Aside0 (Below w.heap.size w w')) ?_ ?_
       rotate_left
       ·intro hJ1_3_5_6
        refine join_ (σ := Value × Value × Nat) 2 #[true, true, true, true, true, true, false, true, false] (fun s_ => [(27, .agg #[s_.1, .int .i64 t638]), (29, .agg #[.int .i64 t639, .int .i64 t640, .int .i64 t641]), (31, .agg #[.int .i64 t642, s_.2.1]), (8, .pointer (some ⟨s_.2.2, 0, none⟩))]) (fun s_ w' => (w'.cell? ⟨gb630, 0, none⟩ = some (.slice A0_0 l0_0.length c0_0) ∧ w'.cell? ⟨gb630, 1, none⟩ = some (.int .i64 a0_1) ∧ w'.cell? ⟨gb631, 0, none⟩ = some (.int .i64 a1_0) ∧ w'.cell? ⟨gb631, 1, none⟩ = some (.int .i64 a1_1) ∧ w'.cell? ⟨gb631, 2, none⟩ = some (.int .i64 a1_2) ∧ w'.cell? ⟨gb632, 0, none⟩ = some (.int .i64 a2_0) ∧ w'.cell? ⟨gb632, 1, none⟩ = some (.slice A2_1 l2_1.length c2_1)) ∧ Aside0 (Kd.R (Kd.int .i64) 3 w' w.heap.size (fun k_ => some k_ ≠ (s_.2.1 : Value).ownBlock) s_.1 t635) ∧ Aside0 (Kd.R (Kd.int .i64) 3 w' w.heap.size (fun k_ => some k_ ≠ (s_.1 : Value).ownBlock) s_.2.1 t643) ∧ Aside0 (w'.heap[gb630]? = some (.cells #[.slice A0_0 l0_0.length c0_0, .int .i64 a0_1] 58 (0, 0))) ∧ Aside0 (w'.heap[gb631]? = some (.cells #[.int .i64 a1_0, .int .i64 a1_1, .int .i64 a1_2] 60 (0, 0))) ∧ Aside0 (w'.heap[gb632]? = some (.cells #[.int .i64 a2_0, .slice A2_1 l2_1.length c2_1] 62 (0, 0))) ∧ Aside0 (w'.heap[s_.2.2]? = some (.cells #[.slice none 0 0, .int .i64 0] 65 (0, 0))) ∧ Aside0 (w.heap.size ≤ s_.2.2) ∧ Aside0 (w.heap.size ≤ s_.2.2) ∧ Aside0 (gb630 ≠ s_.2.2) ∧ Aside0 (s_.2.2 ≠ gb630) ∧ Aside0 (gb631 ≠ s_.2.2) ∧ Aside0 (s_.2.2 ≠ gb631) ∧ Aside0 (gb632 ≠ s_.2.2) ∧ Aside0 (s_.2.2 ≠ gb632) ∧ Aside0 (Below w.heap.size w w')) ?_ ?_
        rotate_left
        ·intro hJ1_3_5_7
         refine join_ (σ := Value × Value) 3 #[true, true, true, true, true, true, false, false, false] (fun s_ => [(27, .agg #[s_.1, .int .i64 t638]), (29, .agg #[.int .i64 t639, .int .i64 t640, .int .i64 t641]), (31, .agg #[.int .i64 t642, s_.2])]) (fun s_ w' => (w'.cell? ⟨gb630, 0, none⟩ = some (.slice A0_0 l0_0.length c0_0) ∧ w'.cell? ⟨gb630, 1, none⟩ = some (.int .i64 a0_1) ∧ w'.cell? ⟨gb631, 0, none⟩ = some (.int .i64 a1_0) ∧ w'.cell? ⟨gb631, 1, none⟩ = some (.int .i64 a1_1) ∧ w'.cell? ⟨gb631, 2, none⟩ = some (.int .i64 a1_2) ∧ w'.cell? ⟨gb632, 0, none⟩ = some (.int .i64 a2_0) ∧ w'.cell? ⟨gb632, 1, none⟩ = some (.slice A2_1 l2_1.length c2_1)) ∧ Aside0 (Kd.R (Kd.int .i64) 3 w' w.heap.size (fun k_ => some k_ ≠ (s_.2 : Value).ownBlock) s_.1 t635) ∧ Aside0 (Kd.R (Kd.int .i64) 3 w' w.heap.size (fun k_ => some k_ ≠ (s_.1 : Value).ownBlock) s_.2 t643) ∧ Aside0 (w'.heap[gb630]? = some (.cells #[.slice A0_0 l0_0.length c0_0, .int .i64 a0_1] 58 (0, 0))) ∧ Aside0 (w'.heap[gb631]? = some (.cells #[.int .i64 a1_0, .int .i64 a1_1, .int .i64 a1_2] 60 (0, 0))) ∧ Aside0 (w'.heap[gb632]? = some (.cells #[.int .i64 a2_0, .slice A2_1 l2_1.length c2_1] 62 (0, 0))) ∧ Aside0 (Below w.heap.size w w')) ?_ ?_
         rotate_left
         ·intro hJ1_3_5
          refine join_ (σ := Value × Nat) 3 #[true, true, true, true, true, false, false, true, false] (fun s_ => [(27, .agg #[s_.1, .int .i64 t638]), (29, .agg #[.int .i64 t639, .int .i64 t640, .int .i64 t641]), (8, .pointer (some ⟨s_.2, 0, none⟩))]) (fun s_ w' => (w'.cell? ⟨gb630, 0, none⟩ = some (.slice A0_0 l0_0.length c0_0) ∧ w'.cell? ⟨gb630, 1, none⟩ = some (.int .i64 a0_1) ∧ w'.cell? ⟨gb631, 0, none⟩ = some (.int .i64 a1_0) ∧ w'.cell? ⟨gb631, 1, none⟩ = some (.int .i64 a1_1) ∧ w'.cell? ⟨gb631, 2, none⟩ = some (.int .i64 a1_2) ∧ w'.cell? ⟨gb632, 0, none⟩ = some (.int .i64 a2_0) ∧ w'.cell? ⟨gb632, 1, none⟩ = some (.slice A2_1 l2_1.length c2_1)) ∧ Aside0 (Kd.R (Kd.int .i64) 3 w' w.heap.size (fun _ => True) s_.1 t635) ∧ Aside0 (w'.heap[gb630]? = some (.cells #[.slice A0_0 l0_0.length c0_0, .int .i64 a0_1] 58 (0, 0))) ∧ Aside0 (w'.heap[gb631]? = some (.cells #[.int .i64 a1_0, .int .i64 a1_1, .int .i64 a1_2] 60 (0, 0))) ∧ Aside0 (w'.heap[gb632]? = some (.cells #[.int .i64 a2_0, .slice A2_1 l2_1.length c2_1] 62 (0, 0))) ∧ Aside0 (w'.heap[s_.2]? = some (.cells #[.slice none 0 0, .int .i64 0] 65 (0, 0))) ∧ Aside0 (w.heap.size ≤ s_.2) ∧ Aside0 (w.heap.size ≤ s_.2) ∧ Aside0 (gb630 ≠ s_.2) ∧ Aside0 (s_.2 ≠ gb630) ∧ Aside0 (gb631 ≠ s_.2) ∧ Aside0 (s_.2 ≠ gb631) ∧ Aside0 (gb632 ≠ s_.2) ∧ Aside0 (s_.2 ≠ gb632) ∧ Aside0 (Below w.heap.size w w')) ?_ ?_
          rotate_left
          ·intro hJ1_3_7
           refine join_ (σ := Value) 4 #[true, true, true, true, true, false, false, false, false] (fun s_ => [(27, .agg #[s_, .int .i64 t638]), (29, .agg #[.int .i64 t639, .int .i64 t640, .int .i64 t641])]) (fun s_ w' => (w'.cell? ⟨gb630, 0, none⟩ = some (.slice A0_0 l0_0.length c0_0) ∧ w'.cell? ⟨gb630, 1, none⟩ = some (.int .i64 a0_1) ∧ w'.cell? ⟨gb631, 0, none⟩ = some (.int .i64 a1_0) ∧ w'.cell? ⟨gb631, 1, none⟩ = some (.int .i64 a1_1) ∧ w'.cell? ⟨gb631, 2, none⟩ = some (.int .i64 a1_2) ∧ w'.cell? ⟨gb632, 0, none⟩ = some (.int .i64 a2_0) ∧ w'.cell? ⟨gb632, 1, none⟩ = some (.slice A2_1 l2_1.length c2_1)) ∧ Aside0 (Kd.R (Kd.int .i64) 3 w' w.heap.size (fun _ => True) s_ t635) ∧ Aside0 (w'.heap[gb630]? = some (.cells #[.slice A0_0 l0_0.length c0_0, .int .i64 a0_1] 58 (0, 0))) ∧ Aside0 (w'.heap[gb631]? = some (.cells #[.int .i64 a1_0, .int .i64 a1_1, .int .i64 a1_2] 60 (0, 0))) ∧ Aside0 (w'.heap[gb632]? = some (.cells #[.int .i64 a2_0, .slice A2_1 l2_1.length c2_1] 62 (0, 0))) ∧ Aside0 (Below w.heap.size w w')) ?_ ?_
           rotate_left
           ·intro hJ1_3
            refine join_ (σ := Value × Nat) 4 #[true, true, true, false, true, false, false, true, false] (fun s_ => [(27, .agg #[s_.1, .int .i64 t638]), (8, .pointer (some ⟨s_.2, 0, none⟩))]) (fun s_ w' => (w'.cell? ⟨gb630, 0, none⟩ = some (.slice A0_0 l0_0.length c0_0) ∧ w'.cell? ⟨gb630, 1, none⟩ = some (.int .i64 a0_1) ∧ w'.cell? ⟨gb631, 0, none⟩ = some (.int .i64 a1_0) ∧ w'.cell? ⟨gb631, 1, none⟩ = some (.int .i64 a1_1) ∧ w'.cell? ⟨gb631, 2, none⟩ = some (.int .i64 a1_2) ∧ w'.cell? ⟨gb632, 0, none⟩ = some (.int .i64 a2_0) ∧ w'.cell? ⟨gb632, 1, none⟩ = some (.slice A2_1 l2_1.length c2_1)) ∧ Aside0 (Kd.R (Kd.int .i64) 3 w' w.heap.size (fun _ => True) s_.1 t635) ∧ Aside0 (w'.heap[gb630]? = some (.cells #[.slice A0_0 l0_0.length c0_0, .int .i64 a0_1] 58 (0, 0))) ∧ Aside0 (w'.heap[gb631]? = some (.cells #[.int .i64 a1_0, .int .i64 a1_1, .int .i64 a1_2] 60 (0, 0))) ∧ Aside0 (w'.heap[gb632]? = some (.cells #[.int .i64 a2_0, .slice A2_1 l2_1.length c2_1] 62 (0, 0))) ∧ Aside0 (w'.heap[s_.2]? = some (.cells #[.slice none 0 0, .int .i64 0] 65 (0, 0))) ∧ Aside0 (w.heap.size ≤ s_.2) ∧ Aside0 (w.heap.size ≤ s_.2) ∧ Aside0 (gb630 ≠ s_.2) ∧ Aside0 (s_.2 ≠ gb630) ∧ Aside0 (gb631 ≠ s_.2) ∧ Aside0 (s_.2 ≠ gb631) ∧ Aside0 (gb632 ≠ s_.2) ∧ Aside0 (s_.2 ≠ gb632) ∧ Aside0 (Below w.heap.size w w')) ?_ ?_
            rotate_left
            ·intro hJ1_7
             refine join_ (σ := Value) 5 #[true, true, true, false, true, false, false, false, false] (fun s_ => [(27, .agg #[s_, .int .i64 t638])]) (fun s_ w' => (w'.cell? ⟨gb630, 0, none⟩ = some (.slice A0_0 l0_0.length c0_0) ∧ w'.cell? ⟨gb630, 1, none⟩ = some (.int .i64 a0_1) ∧ w'.cell? ⟨gb631, 0, none⟩ = some (.int .i64 a1_0) ∧ w'.cell? ⟨gb631, 1, none⟩ = some (.int .i64 a1_1) ∧ w'.cell? ⟨gb631, 2, none⟩ = some (.int .i64 a1_2) ∧ w'.cell? ⟨gb632, 0, none⟩ = some (.int .i64 a2_0) ∧ w'.cell? ⟨gb632, 1, none⟩ = some (.slice A2_1 l2_1.length c2_1)) ∧ Aside0 (Kd.R (Kd.int .i64) 3 w' w.heap.size (fun _ => True) s_ t635) ∧ Aside0 (w'.heap[gb630]? = some (.cells #[.slice A0_0 l0_0.length c0_0, .int .i64 a0_1] 58 (0, 0))) ∧ Aside0 (w'.heap[gb631]? = some (.cells #[.int .i64 a1_0, .int .i64 a1_1, .int .i64 a1_2] 60 (0, 0))) ∧ Aside0 (w'.heap[gb632]? = some (.cells #[.int .i64 a2_0, .slice A2_1 l2_1.length c2_1] 62 (0, 0))) ∧ Aside0 (Below w.heap.size w w')) ?_ ?_
             rotate_left
             ·intro hJ1
              refine join_ (σ := Nat) 5 #[true, false, true, false, true, false, false, true, false] (fun s_ => [(8, .pointer (some ⟨s_, 0, none⟩))]) (fun s_ w' => (w'.cell? ⟨gb630, 0, none⟩ = some (.slice A0_0 l0_0.length c0_0) ∧ w'.cell? ⟨gb630, 1, none⟩ = some (.int .i64 a0_1) ∧ w'.cell? ⟨gb631, 0, none⟩ = some (.int .i64 a1_0) ∧ w'.cell? ⟨gb631, 1, none⟩ = some (.int .i64 a1_1) ∧ w'.cell? ⟨gb631, 2, none⟩ = some (.int .i64 a1_2) ∧ w'.cell? ⟨gb632, 0, none⟩ = some (.int .i64 a2_0) ∧ w'.cell? ⟨gb632, 1, none⟩ = some (.slice A2_1 l2_1.length c2_1)) ∧ Aside0 (w'.heap[gb630]? = some (.cells #[.slice A0_0 l0_0.length c0_0, .int .i64 a0_1] 58 (0, 0))) ∧ Aside0 (w'.heap[gb631]? = some (.cells #[.int .i64 a1_0, .int .i64 a1_1, .int .i64 a1_2] 60 (0, 0))) ∧ Aside0 (w'.heap[gb632]? = some (.cells #[.int .i64 a2_0, .slice A2_1 l2_1.length c2_1] 62 (0, 0))) ∧ Aside0 (w'.heap[s_]? = some (.cells #[.slice none 0 0, .int .i64 0] 65 (0, 0))) ∧ Aside0 (w.heap.size ≤ s_) ∧ Aside0 (w.heap.size ≤ s_) ∧ Aside0 (gb630 ≠ s_) ∧ Aside0 (s_ ≠ gb630) ∧ Aside0 (gb631 ≠ s_) ∧ Aside0 (s_ ≠ gb631) ∧ Aside0 (gb632 ≠ s_) ∧ Aside0 (s_ ≠ gb632) ∧ Aside0 (Below w.heap.size w w')) ?_ ?_
              rotate_left
              ·intro hJ7
               refine two_ (i := 1) (j := 7) (Ni := some 27) (Nj := some 8) #[true, true, true, false, true, false, false, false, false] #[true, false, true, false, true, false, false, true, false] rfl rfl rfl rfl (two_of HT_.out (by kernel_rfl)) (by decide) (by decide) (fun K hK => ?_) (fun K hK => ?_)
               ·skip
                refine gS Try.func35 #[.agg #[.slice A0_0 l0_0.length c0_0, .int .i64 a0_1]] ?_
                with_reducible refine (laws_toRows.calls k _ _ l0_0 a0_1 t635 t638 _ ?side1 ?side2 A25.out).mono ?_
                (case side1 => exact kc HR0_0 HB)
                (case side2 => exact HC0_0.out)
                rintro e w55 ⟨v636, rfl, ho0, hb⟩
                refine ⟨_, rfl, ?_⟩
                have HO637 := Aside0.mk (Kd.R_lower ho0 (below_size (tb HB)))
                replace BK630 := bb BK630 hb
                replace BK631 := bb BK631 hb
                replace BK632 := bb BK632 hb
                replace HB := bs HB hb
                (try clear hb)
                (try clear hb2)
                (try clear hk)
                (try clear hi)
                (try clear ho0)
                refine hK.out _ _ ⟨cz BK630 0, cz BK630 1, cz BK631 0, cz BK631 1, cz BK631 2, cz BK632 0, cz BK632 1⟩ (fun hHeld => ?_)
                clear hK K
                refine nm 27 ?_
                exact norm_ np (hJ1 (v636) _ ⟨hHeld, ⟨kr HO637.out⟩, ⟨bk BK630⟩, ⟨bk BK631⟩, ⟨bk BK632⟩, ⟨tb HB⟩⟩)
               ·skip
                refine bxs (N := 8) (cs := #[.slice none 0 0, .int .i64 0]) (t := 65) ?_
                intro gb650 hg w55 hbox hb
                have BK650 := Aside0.mk (hbox)
                have GW650 := Aside0.mk (ge_ hg HB)
                have GE650 := Aside0.mk (ge_ hg HB)
                replace HB := bs HB hb
                have NB630_650 := Aside0.mk (nl_ hg BK630)
                have NB650_630 := Aside0.mk (ng_ hg BK630)
                replace BK630 := bb BK630 hb
                have NB631_650 := Aside0.mk (nl_ hg BK631)
                have NB650_631 := Aside0.mk (ng_ hg BK631)
                replace BK631 := bb BK631 hb
                have NB632_650 := Aside0.mk (nl_ hg BK632)
                have NB650_632 := Aside0.mk (ng_ hg BK632)
                replace BK632 := bb BK632 hb
                clear hb hbox hg
                refine hK.out _ _ ⟨cz BK630 0, cz BK630 1, cz BK631 0, cz BK631 1, cz BK631 2, cz BK632 0, cz BK632 1⟩ (fun hHeld => ?_)
                clear hK K
                refine nm 8 ?_
                exact norm_ np (hJ7 (gb650) _ ⟨hHeld, ⟨bk BK630⟩, ⟨bk BK631⟩, ⟨bk BK632⟩, ⟨bk BK650⟩, GW650, GE650, NB630_650, NB650_630, NB631_650, NB650_631, NB632_650, NB650_632, ⟨tb HB⟩⟩)
              ·skip
               clear BK630 BK631 BK632 HB
               rintro gb650 w56 ⟨hHeld, BK630, BK631, BK632, BK650, GW650, GE650, NB630_650, NB650_630, NB631_650, NB650_631, NB632_650, NB650_632, HB⟩
               refine nmp ?_
               refine one_ (i := 1) (N := some 27) #[true, true, true, false, true, false, false, true, false] rfl rfl (one_of HT_.out (by kernel_rfl)) (by decide) (fun K hK => ?_)
               refine gS Try.func35 #[.agg #[.slice A0_0 l0_0.length c0_0, .int .i64 a0_1]] ?_
               with_reducible refine (laws_toRows.calls k _ _ l0_0 a0_1 t635 t638 _ ?side1 ?side2 A25.out).mono ?_
               (case side1 => exact kc HR0_0 HB)
               (case side2 => exact HC0_0.out)
               rintro e w57 ⟨v636, rfl, ho0, hb⟩
               refine ⟨_, rfl, ?_⟩
               have HO637 := Aside0.mk (Kd.R_lower ho0 (below_size (tb HB)))
               replace BK630 := bb BK630 hb
               replace BK631 := bb BK631 hb
               replace BK632 := bb BK632 hb
               replace BK650 := bb BK650 hb
               replace HB := bs HB hb
               (try clear hb)
               (try clear hb2)
               (try clear hk)
               (try clear hi)
               (try clear ho0)
               refine hK.out _ _ ⟨cz BK630 0, cz BK630 1, cz BK631 0, cz BK631 1, cz BK631 2, cz BK632 0, cz BK632 1⟩ (fun hHeld => ?_)
               clear hK K
               refine nm 27 ?_
               exact norm_ np (hJ1_7 (v636, gb650) _ ⟨hHeld, ⟨kr HO637.out⟩, ⟨bk BK630⟩, ⟨bk BK631⟩, ⟨bk BK632⟩, ⟨bk BK650⟩, GW650, GE650, NB630_650, NB650_630, NB631_650, NB650_631, NB632_650, NB650_632, ⟨tb HB⟩⟩)
             ·skip
              clear BK630 BK631 BK632 HB
              rintro v636 w56 ⟨hHeld, HO637, BK630, BK631, BK632, HB⟩
              refine nmp ?_
              refine two_ (i := 3) (j := 7) (Ni := some 29) (Nj := some 8) #[true, true, true, true, true, false, false, false, false] #[true, true, true, false, true, false, false, true, false] rfl rfl rfl rfl (two_of HT_.out (by kernel_rfl)) (by decide) (by decide) (fun K hK => ?_) (fun K hK => ?_)
              ·skip
               refine gS Try.func36 #[.agg #[.int .i64 a1_0, .int .i64 a1_1, .int .i64 a1_2]] ?_
               with_reducible refine (laws_toOp.calls a1_0 a1_1 a1_2 t639 t640 t641 _ A26.out).mono ?_
               rintro e w57 ⟨rfl, hb⟩
               refine ⟨_, rfl, ?_⟩
               replace HO637 := rb HO637 hb
               replace BK630 := bb BK630 hb
               replace BK631 := bb BK631 hb
               replace BK632 := bb BK632 hb
               replace HB := bs HB hb
               (try clear hb)
               (try clear hb2)
               (try clear hk)
               (try clear hi)
               refine hK.out _ _ ⟨cz BK630 0, cz BK630 1, cz BK631 0, cz BK631 1, cz BK631 2, cz BK632 0, cz BK632 1⟩ (fun hHeld => ?_)
               clear hK K
               refine nm 29 ?_
               exact norm_ np (hJ1_3 (v636) _ ⟨hHeld, ⟨kr HO637.out⟩, ⟨bk BK630⟩, ⟨bk BK631⟩, ⟨bk BK632⟩, ⟨tb HB⟩⟩)
              ·skip
               refine bxs (N := 8) (cs := #[.slice none 0 0, .int .i64 0]) (t := 65) ?_
               intro gb650 hg w57 hbox hb
               replace HO637 := rb HO637 hb
               have BK650 := Aside0.mk (hbox)
               have GW650 := Aside0.mk (ge_ hg HB)
               have GE650 := Aside0.mk (ge_ hg HB)
               replace HB := bs HB hb
               have NB630_650 := Aside0.mk (nl_ hg BK630)
               have NB650_630 := Aside0.mk (ng_ hg BK630)
               replace BK630 := bb BK630 hb
               have NB631_650 := Aside0.mk (nl_ hg BK631)
               have NB650_631 := Aside0.mk (ng_ hg BK631)
               replace BK631 := bb BK631 hb
               have NB632_650 := Aside0.mk (nl_ hg BK632)
               have NB650_632 := Aside0.mk (ng_ hg BK632)
               replace BK632 := bb BK632 hb
               clear hb hbox hg
               refine hK.out _ _ ⟨cz BK630 0, cz BK630 1, cz BK631 0, cz BK631 1, cz BK631 2, cz BK632 0, cz BK632 1⟩ (fun hHeld => ?_)
               clear hK K
               refine nm 8 ?_
               exact norm_ np (hJ1_7 (v636, gb650) _ ⟨hHeld, ⟨kr HO637.out⟩, ⟨bk BK630⟩, ⟨bk BK631⟩, ⟨bk BK632⟩, ⟨bk BK650⟩, GW650, GE650, NB630_650, NB650_630, NB631_650, NB650_631, NB632_650, NB650_632, ⟨tb HB⟩⟩)
            ·skip
             clear BK630 BK631 BK632 HB
             rintro ⟨v636, gb650⟩ w57 ⟨hHeld, HO637, BK630, BK631, BK632, BK650, GW650, GE650, NB630_650, NB650_630, NB631_650, NB650_631, NB632_650, NB650_632, HB⟩
             dsimp only at HO637 BK650 GW650 GE650 NB630_650 NB650_630 NB631_650 NB650_631 NB632_650 NB650_632
             refine nmp ?_
             refine one_ (i := 3) (N := some 29) #[true, true, true, true, true, false, false, true, false] rfl rfl (one_of HT_.out (by kernel_rfl)) (by decide) (fun K hK => ?_)
             refine gS Try.func36 #[.agg #[.int .i64 a1_0, .int .i64 a1_1, .int .i64 a1_2]] ?_
             with_reducible refine (laws_toOp.calls a1_0 a1_1 a1_2 t639 t640 t641 _ A26.out).mono ?_
             rintro e w58 ⟨rfl, hb⟩
             refine ⟨_, rfl, ?_⟩
             replace HO637 := rb HO637 hb
             replace BK630 := bb BK630 hb
             replace BK631 := bb BK631 hb
             replace BK632 := bb BK632 hb
             replace BK650 := bb BK650 hb
             replace HB := bs HB hb
             (try clear hb)
             (try clear hb2)
             (try clear hk)
             (try clear hi)
             refine hK.out _ _ ⟨cz BK630 0, cz BK630 1, cz BK631 0, cz BK631 1, cz BK631 2, cz BK632 0, cz BK632 1⟩ (fun hHeld => ?_)
             clear hK K
             refine nm 29 ?_
             exact norm_ np (hJ1_3_7 (v636, gb650) _ ⟨hHeld, ⟨kr HO637.out⟩, ⟨bk BK630⟩, ⟨bk BK631⟩, ⟨bk BK632⟩, ⟨bk BK650⟩, GW650, GE650, NB630_650, NB650_630, NB631_650, NB650_631, NB632_650, NB650_632, ⟨tb HB⟩⟩)
           ·skip
            clear BK630 BK631 BK632 HB
            rintro v636 w57 ⟨hHeld, HO637, BK630, BK631, BK632, HB⟩
            refine nmp ?_
            refine two_ (i := 5) (j := 7) (Ni := some 31) (Nj := some 8) #[true, true, true, true, true, true, false, false, false] #[true, true, true, true, true, false, false, true, false] rfl rfl rfl rfl (two_of HT_.out (by kernel_rfl)) (by decide) (by decide) (fun K hK => ?_) (fun K hK => ?_)
            ·skip
             refine gS Try.func37 #[.agg #[.int .i64 a2_0, .slice A2_1 l2_1.length c2_1]] ?_
             with_reducible refine (laws_toRes.calls k a2_0 _ _ l2_1 t642 t643 _ ?side1 ?side2 A27.out).mono ?_
             (case side1 => exact kc HR2_1 HB)
             (case side2 => exact HC2_1.out)
             rintro e w58 ⟨v644, rfl, ho0, hb⟩
             refine ⟨_, rfl, ?_⟩
             have HO645 := Aside0.mk (Kd.R_lower (Kd.R_new' ho0 (Kd.R_lt (kr HO637.out))) (below_size (tb HB)))
             replace HO637 := Aside0.mk (Kd.R_elder' (kr HO637.out) (Kd.R_base ho0) hb)
             replace BK630 := bb BK630 hb
             replace BK631 := bb BK631 hb
             replace BK632 := bb BK632 hb
             replace HB := bs HB hb
             (try clear hb)
             (try clear hb2)
             (try clear hk)
             (try clear hi)
             (try clear ho0)
             refine hK.out _ _ ⟨cz BK630 0, cz BK630 1, cz BK631 0, cz BK631 1, cz BK631 2, cz BK632 0, cz BK632 1⟩ (fun hHeld => ?_)
             clear hK K
             refine nm 31 ?_
             exact norm_ np (hJ1_3_5 (v636, v644) _ ⟨hHeld, ⟨kr (Kd.R_mono HO637.out (fun _ hk => hk.2))⟩, ⟨kr (Kd.R_mono HO645.out (fun _ hk => hk.2))⟩, ⟨bk BK630⟩, ⟨bk BK631⟩, ⟨bk BK632⟩, ⟨tb HB⟩⟩)
            ·skip
             refine bxs (N := 8) (cs := #[.slice none 0 0, .int .i64 0]) (t := 65) ?_
             intro gb650 hg w58 hbox hb
             replace HO637 := rb HO637 hb
             have BK650 := Aside0.mk (hbox)
             have GW650 := Aside0.mk (ge_ hg HB)
             have GE650 := Aside0.mk (ge_ hg HB)
             replace HB := bs HB hb
             have NB630_650 := Aside0.mk (nl_ hg BK630)
             have NB650_630 := Aside0.mk (ng_ hg BK630)
             replace BK630 := bb BK630 hb
             have NB631_650 := Aside0.mk (nl_ hg BK631)
             have NB650_631 := Aside0.mk (ng_ hg BK631)
             replace BK631 := bb BK631 hb
             have NB632_650 := Aside0.mk (nl_ hg BK632)
             have NB650_632 := Aside0.mk (ng_ hg BK632)
             replace BK632 := bb BK632 hb
             clear hb hbox hg
             refine hK.out _ _ ⟨cz BK630 0, cz BK630 1, cz BK631 0, cz BK631 1, cz BK631 2, cz BK632 0, cz BK632 1⟩ (fun hHeld => ?_)
             clear hK K
             refine nm 8 ?_
             exact norm_ np (hJ1_3_7 (v636, gb650) _ ⟨hHeld, ⟨kr HO637.out⟩, ⟨bk BK630⟩, ⟨bk BK631⟩, ⟨bk BK632⟩, ⟨bk BK650⟩, GW650, GE650, NB630_650, NB650_630, NB631_650, NB650_631, NB632_650, NB650_632, ⟨tb HB⟩⟩)
          ·skip
           clear BK630 BK631 BK632 HB
           rintro ⟨v636, gb650⟩ w58 ⟨hHeld, HO637, BK630, BK631, BK632, BK650, GW650, GE650, NB630_650, NB650_630, NB631_650, NB650_631, NB632_650, NB650_632, HB⟩
           dsimp only at HO637 BK650 GW650 GE650 NB630_650 NB650_630 NB631_650 NB650_631 NB632_650 NB650_632
           refine nmp ?_
           refine one_ (i := 5) (N := some 31) #[true, true, true, true, true, true, false, true, false] rfl rfl (one_of HT_.out (by kernel_rfl)) (by decide) (fun K hK => ?_)
           refine gS Try.func37 #[.agg #[.int .i64 a2_0, .slice A2_1 l2_1.length c2_1]] ?_
           with_reducible refine (laws_toRes.calls k a2_0 _ _ l2_1 t642 t643 _ ?side1 ?side2 A27.out).mono ?_
           (case side1 => exact kc HR2_1 HB)
           (case side2 => exact HC2_1.out)
           rintro e w59 ⟨v644, rfl, ho0, hb⟩
           refine ⟨_, rfl, ?_⟩
           have HO645 := Aside0.mk (Kd.R_lower (Kd.R_new' ho0 (Kd.R_lt (kr HO637.out))) (below_size (tb HB)))
           replace HO637 := Aside0.mk (Kd.R_elder' (kr HO637.out) (Kd.R_base ho0) hb)
           replace BK630 := bb BK630 hb
           replace BK631 := bb BK631 hb
           replace BK632 := bb BK632 hb
           replace BK650 := bb BK650 hb
           replace HB := bs HB hb
           (try clear hb)
           (try clear hb2)
           (try clear hk)
           (try clear hi)
           (try clear ho0)
           refine hK.out _ _ ⟨cz BK630 0, cz BK630 1, cz BK631 0, cz BK631 1, cz BK631 2, cz BK632 0, cz BK632 1⟩ (fun hHeld => ?_)
           clear hK K
           refine nm 31 ?_
           exact norm_ np (hJ1_3_5_7 (v636, v644, gb650) _ ⟨hHeld, ⟨kr (Kd.R_mono HO637.out (fun _ hk => hk.2))⟩, ⟨kr (Kd.R_mono HO645.out (fun _ hk => hk.2))⟩, ⟨bk BK630⟩, ⟨bk BK631⟩, ⟨bk BK632⟩, ⟨bk BK650⟩, GW650, GE650, NB630_650, NB650_630, NB631_650, NB650_631, NB632_650, NB650_632, ⟨tb HB⟩⟩)
         ·skip
          clear BK630 BK631 BK632 HB
          rintro ⟨v636, v644⟩ w58 ⟨hHeld, HO637, HO645, BK630, BK631, BK632, HB⟩
          dsimp only at HO637 HO645
          obtain ⟨Ao59, co59, eo59⟩ := Kd.R_slice HO637.out
          (first | subst eo59 | (injection eo59 with f1_ f2_ f3_; have f4_ := f1_.symm; have f5_ := f3_.symm; clear f1_ f2_ f3_; subst f4_; subst f5_))
          obtain ⟨Ao60, co60, eo60⟩ := Kd.R_slice HO645.out
          (first | subst eo60 | (injection eo60 with f1_ f2_ f3_; have f4_ := f1_.symm; have f5_ := f3_.symm; clear f1_ f2_ f3_; subst f4_; subst f5_))
          refine nmp ?_
          refine two_ (i := 6) (j := 7) (Ni := some 32) (Nj := some 8) #[true, true, true, true, true, true, true, false, false] #[true, true, true, true, true, true, false, true, false] rfl rfl rfl rfl (two_of HT_.out (by kernel_rfl)) (by decide) (by decide) (fun K hK => ?_) (fun K hK => ?_)
          ·skip
           refine gS Try.func34 #[.agg #[.slice Ao59 t635.length co59, .int .i64 t638], .agg #[.int .i64 t639, .int .i64 t640, .int .i64 t641], .agg #[.int .i64 t642, .slice Ao60 t643.length co60]] ?_
           with_reducible refine (spec_After.calls k _ _ t635 t638 t639 t640 t641 t642 _ _ t643 t646 t649 _ ?side1 ?side2 ?side3 ?side4 A28.out).mono ?_
           (case side1 => repeat (first | exact (Kd.R_reads' HO637.out).2.2 | (with_reducible refine Kd.C_alloc ?_ _) | (with_reducible refine Kd.C_drewN ?_ _) | (with_reducible refine Kd.C_drew ?_)))
           (case side2 => exact (Kd.R_reads' HO637.out).2.1)
           (case side3 => repeat (first | exact (Kd.R_reads' HO645.out).2.2 | (with_reducible refine Kd.C_alloc ?_ _) | (with_reducible refine Kd.C_drewN ?_ _) | (with_reducible refine Kd.C_drew ?_)))
           (case side4 => exact (Kd.R_reads' HO645.out).2.1)
           rintro e w61 ⟨v647, rfl, ho0, hb⟩
           refine ⟨_, rfl, ?_⟩
           have HO648 := Aside0.mk (Kd.R_lower (Kd.R_new' (Kd.R_new' ho0 (Kd.R_lt (kr HO637.out))) (Kd.R_lt (kr HO645.out))) (below_size (tb HB)))
           replace HO637 := Aside0.mk (Kd.R_elder' (kr HO637.out) (Kd.R_base ho0) hb)
           replace HO645 := Aside0.mk (Kd.R_elder' (kr HO645.out) (Kd.R_base ho0) hb)
           replace BK630 := bb BK630 hb
           replace BK631 := bb BK631 hb
           replace BK632 := bb BK632 hb
           replace HB := bs HB hb
           (try clear hb)
           (try clear hb2)
           (try clear hk)
           (try clear hi)
           (try clear ho0)
           refine hK.out _ _ ⟨cz BK630 0, cz BK630 1, cz BK631 0, cz BK631 1, cz BK631 2, cz BK632 0, cz BK632 1⟩ (fun hHeld => ?_)
           clear hK K
           refine nm 32 ?_
           exact norm_ np (hJ1_3_5_6 (.slice Ao59 t635.length co59, .slice Ao60 t643.length co60, v647) _ ⟨hHeld, ⟨kr HO637.out⟩, ⟨kr HO645.out⟩, ⟨kr (Kd.R_mono HO648.out (fun _ hk => ⟨hk.1.2, hk.2⟩))⟩, ⟨bk BK630⟩, ⟨bk BK631⟩, ⟨bk BK632⟩, ⟨tb HB⟩⟩)
          ·skip
           refine bxs (N := 8) (cs := #[.slice none 0 0, .int .i64 0]) (t := 65) ?_
           intro gb650 hg w59 hbox hb
           replace HO637 := rb HO637 hb
           replace HO645 := rb HO645 hb
           have BK650 := Aside0.mk (hbox)
           have GW650 := Aside0.mk (ge_ hg HB)
           have GE650 := Aside0.mk (ge_ hg HB)
           replace HB := bs HB hb
           have NB630_650 := Aside0.mk (nl_ hg BK630)
           have NB650_630 := Aside0.mk (ng_ hg BK630)
           replace BK630 := bb BK630 hb
           have NB631_650 := Aside0.mk (nl_ hg BK631)
           have NB650_631 := Aside0.mk (ng_ hg BK631)
           replace BK631 := bb BK631 hb
           have NB632_650 := Aside0.mk (nl_ hg BK632)
           have NB650_632 := Aside0.mk (ng_ hg BK632)
           replace BK632 := bb BK632 hb
           clear hb hbox hg
           refine hK.out _ _ ⟨cz BK630 0, cz BK630 1, cz BK631 0, cz BK631 1, cz BK631 2, cz BK632 0, cz BK632 1⟩ (fun hHeld => ?_)
           clear hK K
           refine nm 8 ?_
           exact norm_ np (hJ1_3_5_7 (.slice Ao59 t635.length co59, .slice Ao60 t643.length co60, gb650) _ ⟨hHeld, ⟨kr HO637.out⟩, ⟨kr HO645.out⟩, ⟨bk BK630⟩, ⟨bk BK631⟩, ⟨bk BK632⟩, ⟨bk BK650⟩, GW650, GE650, NB630_650, NB650_630, NB631_650, NB650_631, NB632_650, NB650_632, ⟨tb HB⟩⟩)
        ·skip
         clear BK630 BK631 BK632 HB
         rintro ⟨v636, v644, gb650⟩ w59 ⟨hHeld, HO637, HO645, BK630, BK631, BK632, BK650, GW650, GE650, NB630_650, NB650_630, NB631_650, NB650_631, NB632_650, NB650_632, HB⟩
         dsimp only at HO637 HO645 BK650 GW650 GE650 NB630_650 NB650_630 NB631_650 NB650_631 NB632_650 NB650_632
         obtain ⟨Ao60, co60, eo60⟩ := Kd.R_slice HO637.out
         (first | subst eo60 | (injection eo60 with f1_ f2_ f3_; have f4_ := f1_.symm; have f5_ := f3_.symm; clear f1_ f2_ f3_; subst f4_; subst f5_))
         obtain ⟨Ao61, co61, eo61⟩ := Kd.R_slice HO645.out
         (first | subst eo61 | (injection eo61 with f1_ f2_ f3_; have f4_ := f1_.symm; have f5_ := f3_.symm; clear f1_ f2_ f3_; subst f4_; subst f5_))
         refine nmp ?_
         refine one_ (i := 6) (N := some 32) #[true, true, true, true, true, true, true, true, false] rfl rfl (one_of HT_.out (by kernel_rfl)) (by decide) (fun K hK => ?_)
         refine gS Try.func34 #[.agg #[.slice Ao60 t635.length co60, .int .i64 t638], .agg #[.int .i64 t639, .int .i64 t640, .int .i64 t641], .agg #[.int .i64 t642, .slice Ao61 t643.length co61]] ?_
         with_reducible refine (spec_After.calls k _ _ t635 t638 t639 t640 t641 t642 _ _ t643 t646 t649 _ ?side1 ?side2 ?side3 ?side4 A28.out).mono ?_
         (case side1 => repeat (first | exact (Kd.R_reads' HO637.out).2.2 | (with_reducible refine Kd.C_alloc ?_ _) | (with_reducible refine Kd.C_drewN ?_ _) | (with_reducible refine Kd.C_drew ?_)))
         (case side2 => exact (Kd.R_reads' HO637.out).2.1)
         (case side3 => repeat (first | exact (Kd.R_reads' HO645.out).2.2 | (with_reducible refine Kd.C_alloc ?_ _) | (with_reducible refine Kd.C_drewN ?_ _) | (with_reducible refine Kd.C_drew ?_)))
         (case side4 => exact (Kd.R_reads' HO645.out).2.1)
         rintro e w62 ⟨v647, rfl, ho0, hb⟩
         refine ⟨_, rfl, ?_⟩
         have HO648 := Aside0.mk (Kd.R_lower (Kd.R_new' (Kd.R_new' ho0 (Kd.R_lt (kr HO637.out))) (Kd.R_lt (kr HO645.out))) (below_size (tb HB)))
         replace HO637 := Aside0.mk (Kd.R_elder' (kr HO637.out) (Kd.R_base ho0) hb)
         replace HO645 := Aside0.mk (Kd.R_elder' (kr HO645.out) (Kd.R_base ho0) hb)
         replace BK630 := bb BK630 hb
         replace BK631 := bb BK631 hb
         replace BK632 := bb BK632 hb
         replace BK650 := bb BK650 hb
         replace HB := bs HB hb
         (try clear hb)
         (try clear hb2)
         (try clear hk)
         (try clear hi)
         (try clear ho0)
         refine hK.out _ _ ⟨cz BK630 0, cz BK630 1, cz BK631 0, cz BK631 1, cz BK631 2, cz BK632 0, cz BK632 1⟩ (fun hHeld => ?_)
         clear hK K
         refine nm 32 ?_
         exact norm_ np (hJ1_3_5_6_7 (.slice Ao60 t635.length co60, .slice Ao61 t643.length co61, v647, gb650) _ ⟨hHeld, ⟨kr HO637.out⟩, ⟨kr HO645.out⟩, ⟨kr (Kd.R_mono HO648.out (fun _ hk => ⟨hk.1.2, hk.2⟩))⟩, ⟨bk BK630⟩, ⟨bk BK631⟩, ⟨bk BK632⟩, ⟨bk BK650⟩, GW650, GE650, NB630_650, NB650_630, NB631_650, NB650_631, NB632_650, NB650_632, ⟨tb HB⟩⟩)
       ·skip
        clear BK630 BK631 BK632 HB
        rintro ⟨v636, v644, v647⟩ w61 ⟨hHeld, HO637, HO645, HO648, BK630, BK631, BK632, HB⟩
        dsimp only at HO637 HO645 HO648
        refine nmp ?_
        refine one_ (i := 7) (N := some 8) #[true, true, true, true, true, true, true, true, false] rfl rfl (one_of HT_.out (by kernel_rfl)) (by decide) (fun K hK => ?_)
        refine bxs (N := 8) (cs := #[.slice none 0 0, .int .i64 0]) (t := 65) ?_
        intro gb650 hg w62 hbox hb
        replace HO637 := rb HO637 hb
        replace HO645 := rb HO645 hb
        replace HO648 := rb HO648 hb
        have BK650 := Aside0.mk (hbox)
        have GW650 := Aside0.mk (ge_ hg HB)
        have GE650 := Aside0.mk (ge_ hg HB)
        replace HB := bs HB hb
        have NB630_650 := Aside0.mk (nl_ hg BK630)
        have NB650_630 := Aside0.mk (ng_ hg BK630)
        replace BK630 := bb BK630 hb
        have NB631_650 := Aside0.mk (nl_ hg BK631)
        have NB650_631 := Aside0.mk (ng_ hg BK631)
        replace BK631 := bb BK631 hb
        have NB632_650 := Aside0.mk (nl_ hg BK632)
        have NB650_632 := Aside0.mk (ng_ hg BK632)
        replace BK632 := bb BK632 hb
        clear hb hbox hg
        refine hK.out _ _ ⟨cz BK630 0, cz BK630 1, cz BK631 0, cz BK631 1, cz BK631 2, cz BK632 0, cz BK632 1⟩ (fun hHeld => ?_)
        clear hK K
        refine nm 8 ?_
        exact norm_ np (hJ1_3_5_6_7 (v636, v644, v647, gb650) _ ⟨hHeld, ⟨kr HO637.out⟩, ⟨kr HO645.out⟩, ⟨kr HO648.out⟩, ⟨bk BK630⟩, ⟨bk BK631⟩, ⟨bk BK632⟩, ⟨bk BK650⟩, GW650, GE650, NB630_650, NB650_630, NB631_650, NB650_631, NB632_650, NB650_632, ⟨tb HB⟩⟩)
      clear BK630 BK631 BK632 HB
      rintro ⟨v636, v644, v647, gb650⟩ w62 ⟨hHeld, HO637, HO645, HO648, BK630, BK631, BK632, BK650, GW650, GE650, NB630_650, NB650_630, NB631_650, NB650_631, NB632_650, NB650_632, HB⟩
      dsimp only at HO637 HO645 HO648 BK650 GW650 GE650 NB630_650 NB650_630 NB631_650 NB650_631 NB632_650 NB650_632
      obtain ⟨Ao63, co63, eo63⟩ := Kd.R_slice HO648.out
      (first | subst eo63 | (injection eo63 with f1_ f2_ f3_; have f4_ := f1_.symm; have f5_ := f3_.symm; clear f1_ f2_ f3_; subst f4_; subst f5_))
      refine nmp ?_
      refine one_ (i := 8) (N := none) #[true, true, true, true, true, true, true, true, true] rfl rfl (one_of HT_.out (by kernel_rfl)) (by decide) (fun K hK => ?_)
      have hs64 : w62.cell? ⟨gb650, 0, none⟩ = some (.slice none 0 0) := cz BK650 0
      have hfs64 := blk_frozen BK650.out 0
      have hns64_0 := NB630_650.out
      have hns64_1 := NB631_650.out
      have hns64_2 := NB632_650.out
      have hms64_0 := NB650_630.out
      have hms64_1 := NB650_631.out
      have hms64_2 := NB650_632.out
      have hs65 : w62.cell? ⟨gb650, 1, none⟩ = some (.int .i64 0) := cz BK650 1
      have hfs65 := blk_frozen BK650.out 1
      have hns65_0 := NB630_650.out
      have hns65_1 := NB631_650.out
      have hns65_2 := NB632_650.out
      have hms65_0 := NB650_630.out
      have hms65_1 := NB650_631.out
      have hms65_2 := NB650_632.out
      refine skip_ (w1 := ?_) (by rfl) rfl ?_ ?_
      rotate_left
      ·go_simp
       rfl
      refine hK.out _ _ ⟨((cell_far (p := ⟨gb650, _, none⟩) NB630_650.out _).trans (((cell_far (p := ⟨gb650, _, none⟩) NB630_650.out _).trans (hHeld.1)))), ((cell_far (p := ⟨gb650, _, none⟩) NB630_650.out _).trans (((cell_far (p := ⟨gb650, _, none⟩) NB630_650.out _).trans (hHeld.2.1)))), ((cell_far (p := ⟨gb650, _, none⟩) NB631_650.out _).trans (((cell_far (p := ⟨gb650, _, none⟩) NB631_650.out _).trans (hHeld.2.2.1)))), ((cell_far (p := ⟨gb650, _, none⟩) NB631_650.out _).trans (((cell_far (p := ⟨gb650, _, none⟩) NB631_650.out _).trans (hHeld.2.2.2.1)))), ((cell_far (p := ⟨gb650, _, none⟩) NB631_650.out _).trans (((cell_far (p := ⟨gb650, _, none⟩) NB631_650.out _).trans (hHeld.2.2.2.2.1)))), ((cell_far (p := ⟨gb650, _, none⟩) NB632_650.out _).trans (((cell_far (p := ⟨gb650, _, none⟩) NB632_650.out _).trans (hHeld.2.2.2.2.2.1)))), ((cell_far (p := ⟨gb650, _, none⟩) NB632_650.out _).trans (((cell_far (p := ⟨gb650, _, none⟩) NB632_650.out _).trans (hHeld.2.2.2.2.2.2))))⟩ (fun hHeld => ?_)
      clear hK K
      refine done_ (done_of HT_.out (by kernel_rfl)) ?_
      have hnb66 := NB630_650.out
      have hnc66 := NB650_630.out
      obtain ⟨hcz67_0, hcz67_1, hfz67_0, hfz67_1⟩ := c2 BK630
      try go_wp2_with (first | ((with_reducible refine gate_callee (f := 35) rfl ?_); refine gL 34 Try.func35 #[.agg #[.slice A0_0 l0_0.length c0_0, .int .i64 a0_1]] ?_; (with_reducible refine (laws_toRows.calls k _ _ l0_0 a0_1 t651 t654 _ ?side1 ?side2 A29.out).mono ?_); (case side1 => exact Kd.C_below HR0_0.out (tb HB)); (case side2 => exact HC0_0.out); rintro e w68 ⟨v652, rfl, ho0, hb⟩; refine ⟨_, rfl, ?_⟩; have HO653 := Aside0.mk (Kd.R_lower (Kd.R_new' (Kd.R_new' (Kd.R_new' ho0 (Kd.R_lt (kr ((Kd.R_mono (Kd.R_far (p := ⟨gb650, 1, none⟩) (Kd.R_far (p := ⟨gb650, 0, none⟩) (Kd.R_types HO637.out BK650.out (by decide)) (fun _ hk => hk.2) (.slice Ao63 t646.length co63)) (fun _ hk => hk.2) (.int .i64 t649)) (fun _ h_ => h_.1)))))) (Kd.R_lt (kr ((Kd.R_mono (Kd.R_far (p := ⟨gb650, 1, none⟩) (Kd.R_far (p := ⟨gb650, 0, none⟩) (Kd.R_types HO645.out BK650.out (by decide)) (fun _ hk => hk.2) (.slice Ao63 t646.length co63)) (fun _ hk => hk.2) (.int .i64 t649)) (fun _ h_ => h_.1)))))) (Kd.R_lt (kr ((Kd.R_mono (Kd.R_far (p := ⟨gb650, 1, none⟩) (Kd.R_far (p := ⟨gb650, 0, none⟩) (Kd.R_types HO648.out BK650.out (by decide)) (fun _ hk => hk.2) (.slice Ao63 t646.length co63)) (fun _ hk => hk.2) (.int .i64 t649)) (fun _ h_ => h_.1)))))) (below_size (tb HB))); replace HO637 := Aside0.mk (Kd.R_elder' (kr ((Kd.R_mono (Kd.R_far (p := ⟨gb650, 1, none⟩) (Kd.R_far (p := ⟨gb650, 0, none⟩) (Kd.R_types HO637.out BK650.out (by decide)) (fun _ hk => hk.2) (.slice Ao63 t646.length co63)) (fun _ hk => hk.2) (.int .i64 t649)) (fun _ h_ => h_.1)))) (Kd.R_base ho0) hb); replace HO645 := Aside0.mk (Kd.R_elder' (kr ((Kd.R_mono (Kd.R_far (p := ⟨gb650, 1, none⟩) (Kd.R_far (p := ⟨gb650, 0, none⟩) (Kd.R_types HO645.out BK650.out (by decide)) (fun _ hk => hk.2) (.slice Ao63 t646.length co63)) (fun _ hk => hk.2) (.int .i64 t649)) (fun _ h_ => h_.1)))) (Kd.R_base ho0) hb); replace HO648 := Aside0.mk (Kd.R_elder' (kr ((Kd.R_mono (Kd.R_far (p := ⟨gb650, 1, none⟩) (Kd.R_far (p := ⟨gb650, 0, none⟩) (Kd.R_types HO648.out BK650.out (by decide)) (fun _ hk => hk.2) (.slice Ao63 t646.length co63)) (fun _ hk => hk.2) (.int .i64 t649)) (fun _ h_ => h_.1)))) (Kd.R_base ho0) hb); replace BK630 := Aside0.mk (blk_below (g := gb630) (o := .cells #[.slice A0_0 l0_0.length c0_0, .int .i64 a0_1] 58 (0, 0)) (by (with_reducible repeat (first | refine blk_drewN ?_ _ | refine blk_drew ?_ | refine blk_alloc ?_ _)); refine blk_far ?_ NB630_650.out _; (with_reducible repeat (first | refine blk_drewN ?_ _ | refine blk_drew ?_ | refine blk_alloc ?_ _)); refine blk_far ?_ NB630_650.out _; (with_reducible repeat (first | refine blk_drewN ?_ _ | refine blk_drew ?_ | refine blk_alloc ?_ _)); exact BK630.out) hb); replace BK631 := Aside0.mk (blk_below (g := gb631) (o := .cells #[.int .i64 a1_0, .int .i64 a1_1, .int .i64 a1_2] 60 (0, 0)) (by (with_reducible repeat (first | refine blk_drewN ?_ _ | refine blk_drew ?_ | refine blk_alloc ?_ _)); refine blk_far ?_ NB631_650.out _; (with_reducible repeat (first | refine blk_drewN ?_ _ | refine blk_drew ?_ | refine blk_alloc ?_ _)); refine blk_far ?_ NB631_650.out _; (with_reducible repeat (first | refine blk_drewN ?_ _ | refine blk_drew ?_ | refine blk_alloc ?_ _)); exact BK631.out) hb); replace BK632 := Aside0.mk (blk_below (g := gb632) (o := .cells #[.int .i64 a2_0, .slice A2_1 l2_1.length c2_1] 62 (0, 0)) (by (with_reducible repeat (first | refine blk_drewN ?_ _ | refine blk_drew ?_ | refine blk_alloc ?_ _)); refine blk_far ?_ NB632_650.out _; (with_reducible repeat (first | refine blk_drewN ?_ _ | refine blk_drew ?_ | refine blk_alloc ?_ _)); refine blk_far ?_ NB632_650.out _; (with_reducible repeat (first | refine blk_drewN ?_ _ | refine blk_drew ?_ | refine blk_alloc ?_ _)); exact BK632.out) hb); replace BK650 := Aside0.mk (blk_below (g := gb650) (o := .cells #[.slice Ao63 t646.length co63, .int .i64 t649] 65 (0, 0)) (by (with_reducible repeat (first | refine blk_drewN ?_ _ | refine blk_drew ?_ | refine blk_alloc ?_ _)); refine blk_put (cs := #[.slice Ao63 t646.length co63, .int .i64 0]) ?_ 1 _ rfl; (with_reducible repeat (first | refine blk_drewN ?_ _ | refine blk_drew ?_ | refine blk_alloc ?_ _)); refine blk_put (cs := #[.slice none 0 0, .int .i64 0]) ?_ 0 _ rfl; (with_reducible repeat (first | refine blk_drewN ?_ _ | refine blk_drew ?_ | refine blk_alloc ?_ _)); exact BK650.out) hb); replace HB := bs HB hb; (try clear hb); (try clear hb2); (try clear hk); (try clear hi); (try clear ho0)) | ((with_reducible refine gate_dst (N := 9) rfl ?_); refine bx (N := 9) (cs := #[.slice none 0 0, .int .i64 0]) (t := 65) ?_; intro gb655 hg w69 hbox hb; replace HO637 := rb HO637 hb; replace HO645 := rb HO645 hb; replace HO648 := rb HO648 hb; replace HO653 := rb HO653 hb; have BK655 := Aside0.mk (hbox); have GW655 := Aside0.mk (ge_ hg HB); have GE655 := Aside0.mk (ge_ hg HB); replace HB := bs HB hb; have NB630_655 := Aside0.mk (nl_ hg BK630); have NB655_630 := Aside0.mk (ng_ hg BK630); replace BK630 := bb BK630 hb; have NB631_655 := Aside0.mk (nl_ hg BK631); have NB655_631 := Aside0.mk (ng_ hg BK631); replace BK631 := bb BK631 hb; have NB632_655 := Aside0.mk (nl_ hg BK632); have NB655_632 := Aside0.mk (ng_ hg BK632); replace BK632 := bb BK632 hb; have NB650_655 := Aside0.mk (nl_ hg BK650); have NB655_650 := Aside0.mk (ng_ hg BK650); replace BK650 := bb BK650 hb; clear hb hbox hg; obtain ⟨Ao70, co70, eo70⟩ := Kd.R_slice HO653.out; subst eo70; have hnb71 := NB655_630.out; have hnc71 := NB630_655.out; have hnb72 := NB655_631.out; have hnc72 := NB631_655.out; have hnb73 := NB655_632.out; have hnc73 := NB632_655.out; have hnb74 := NB655_650.out; have hnc74 := NB650_655.out; obtain ⟨hcz75_0, hcz75_1, hfz75_0, hfz75_1⟩ := c2 BK655; have hnb76 := NB632_650.out; have hnc76 := NB650_632.out; obtain ⟨hcz77_0, hcz77_1, hfz77_0, hfz77_1⟩ := c2 BK632) | ((with_reducible refine gate_callee (f := 37) rfl ?_); refine gL 36 Try.func37 #[.agg #[.int .i64 a2_0, .slice A2_1 l2_1.length c2_1]] ?_; (with_reducible refine (laws_toRes.calls k a2_0 _ _ l2_1 t656 t657 _ ?side1 ?side2 A30.out).mono ?_); (case side1 => exact Kd.C_below HR2_1.out (tb HB)); (case side2 => exact HC2_1.out); rintro e w78 ⟨v658, rfl, ho0, hb⟩; refine ⟨_, rfl, ?_⟩; have HO659 := Aside0.mk (Kd.R_lower (Kd.R_new' (Kd.R_new' (Kd.R_new' (Kd.R_new' ho0 (Kd.R_lt (kr ((Kd.R_mono (Kd.R_far (p := ⟨gb655, 1, none⟩) (Kd.R_far (p := ⟨gb655, 0, none⟩) (Kd.R_types HO637.out BK655.out (by decide)) (fun _ hk => hk.2) (.slice Ao70 t651.length co70)) (fun _ hk => hk.2) (.int .i64 t654)) (fun _ h_ => h_.1)))))) (Kd.R_lt (kr ((Kd.R_mono (Kd.R_far (p := ⟨gb655, 1, none⟩) (Kd.R_far (p := ⟨gb655, 0, none⟩) (Kd.R_types HO645.out BK655.out (by decide)) (fun _ hk => hk.2) (.slice Ao70 t651.length co70)) (fun _ hk => hk.2) (.int .i64 t654)) (fun _ h_ => h_.1)))))) (Kd.R_lt (kr ((Kd.R_mono (Kd.R_far (p := ⟨gb655, 1, none⟩) (Kd.R_far (p := ⟨gb655, 0, none⟩) (Kd.R_types HO648.out BK655.out (by decide)) (fun _ hk => hk.2) (.slice Ao70 t651.length co70)) (fun _ hk => hk.2) (.int .i64 t654)) (fun _ h_ => h_.1)))))) (Kd.R_lt (kr ((Kd.R_mono (Kd.R_far (p := ⟨gb655, 1, none⟩) (Kd.R_far (p := ⟨gb655, 0, none⟩) (Kd.R_types HO653.out BK655.out (by decide)) (fun _ hk => hk.2) (.slice Ao70 t651.length co70)) (fun _ hk => hk.2) (.int .i64 t654)) (fun _ h_ => h_.1)))))) (below_size (tb HB))); replace HO637 := Aside0.mk (Kd.R_elder' (kr ((Kd.R_mono (Kd.R_far (p := ⟨gb655, 1, none⟩) (Kd.R_far (p := ⟨gb655, 0, none⟩) (Kd.R_types HO637.out BK655.out (by decide)) (fun _ hk => hk.2) (.slice Ao70 t651.length co70)) (fun _ hk => hk.2) (.int .i64 t654)) (fun _ h_ => h_.1)))) (Kd.R_base ho0) hb); replace HO645 := Aside0.mk (Kd.R_elder' (kr ((Kd.R_mono (Kd.R_far (p := ⟨gb655, 1, none⟩) (Kd.R_far (p := ⟨gb655, 0, none⟩) (Kd.R_types HO645.out BK655.out (by decide)) (fun _ hk => hk.2) (.slice Ao70 t651.length co70)) (fun _ hk => hk.2) (.int .i64 t654)) (fun _ h_ => h_.1)))) (Kd.R_base ho0) hb); replace HO648 := Aside0.mk (Kd.R_elder' (kr ((Kd.R_mono (Kd.R_far (p := ⟨gb655, 1, none⟩) (Kd.R_far (p := ⟨gb655, 0, none⟩) (Kd.R_types HO648.out BK655.out (by decide)) (fun _ hk => hk.2) (.slice Ao70 t651.length co70)) (fun _ hk => hk.2) (.int .i64 t654)) (fun _ h_ => h_.1)))) (Kd.R_base ho0) hb); replace HO653 := Aside0.mk (Kd.R_elder' (kr ((Kd.R_mono (Kd.R_far (p := ⟨gb655, 1, none⟩) (Kd.R_far (p := ⟨gb655, 0, none⟩) (Kd.R_types HO653.out BK655.out (by decide)) (fun _ hk => hk.2) (.slice Ao70 t651.length co70)) (fun _ hk => hk.2) (.int .i64 t654)) (fun _ h_ => h_.1)))) (Kd.R_base ho0) hb); replace BK630 := Aside0.mk (blk_below (g := gb630) (o := .cells #[.slice A0_0 l0_0.length c0_0, .int .i64 a0_1] 58 (0, 0)) (by (with_reducible repeat (first | refine blk_drewN ?_ _ | refine blk_drew ?_ | refine blk_alloc ?_ _)); refine blk_far ?_ NB630_655.out _; (with_reducible repeat (first | refine blk_drewN ?_ _ | refine blk_drew ?_ | refine blk_alloc ?_ _)); refine blk_far ?_ NB630_655.out _; (with_reducible repeat (first | refine blk_drewN ?_ _ | refine blk_drew ?_ | refine blk_alloc ?_ _)); exact BK630.out) hb); replace BK631 := Aside0.mk (blk_below (g := gb631) (o := .cells #[.int .i64 a1_0, .int .i64 a1_1, .int .i64 a1_2] 60 (0, 0)) (by (with_reducible repeat (first | refine blk_drewN ?_ _ | refine blk_drew ?_ | refine blk_alloc ?_ _)); refine blk_far ?_ NB631_655.out _; (with_reducible repeat (first | refine blk_drewN ?_ _ | refine blk_drew ?_ | refine blk_alloc ?_ _)); refine blk_far ?_ NB631_655.out _; (with_reducible repeat (first | refine blk_drewN ?_ _ | refine blk_drew ?_ | refine blk_alloc ?_ _)); exact BK631.out) hb); replace BK632 := Aside0.mk (blk_below (g := gb632) (o := .cells #[.int .i64 a2_0, .slice A2_1 l2_1.length c2_1] 62 (0, 0)) (by (with_reducible repeat (first | refine blk_drewN ?_ _ | refine blk_drew ?_ | refine blk_alloc ?_ _)); refine blk_far ?_ NB632_655.out _; (with_reducible repeat (first | refine blk_drewN ?_ _ | refine blk_drew ?_ | refine blk_alloc ?_ _)); refine blk_far ?_ NB632_655.out _; (with_reducible repeat (first | refine blk_drewN ?_ _ | refine blk_drew ?_ | refine blk_alloc ?_ _)); exact BK632.out) hb); replace BK650 := Aside0.mk (blk_below (g := gb650) (o := .cells #[.slice Ao63 t646.length co63, .int .i64 t649] 65 (0, 0)) (by (with_reducible repeat (first | refine blk_drewN ?_ _ | refine blk_drew ?_ | refine blk_alloc ?_ _)); refine blk_far ?_ NB650_655.out _; (with_reducible repeat (first | refine blk_drewN ?_ _ | refine blk_drew ?_ | refine blk_alloc ?_ _)); refine blk_far ?_ NB650_655.out _; (with_reducible repeat (first | refine blk_drewN ?_ _ | refine blk_drew ?_ | refine blk_alloc ?_ _)); exact BK650.out) hb); replace BK655 := Aside0.mk (blk_below (g := gb655) (o := .cells #[.slice Ao70 t651.length co70, .int .i64 t654] 65 (0, 0)) (by (with_reducible repeat (first | refine blk_drewN ?_ _ | refine blk_drew ?_ | refine blk_alloc ?_ _)); refine blk_put (cs := #[.slice Ao70 t651.length co70, .int .i64 0]) ?_ 1 _ rfl; (with_reducible repeat (first | refine blk_drewN ?_ _ | refine blk_drew ?_ | refine blk_alloc ?_ _)); refine blk_put (cs := #[.slice none 0 0, .int .i64 0]) ?_ 0 _ rfl; (with_reducible repeat (first | refine blk_drewN ?_ _ | refine blk_drew ?_ | refine blk_alloc ?_ _)); exact BK655.out) hb); replace HB := bs HB hb; (try clear hb); (try clear hb2); (try clear hk); (try clear hi); (try clear ho0)) | ((with_reducible refine gate_dst (N := 10) rfl ?_); refine bx (N := 10) (cs := #[.int .i64 0, .slice none 0 0]) (t := 70) ?_; intro gb660 hg w79 hbox hb; replace HO637 := rb HO637 hb; replace HO645 := rb HO645 hb; replace HO648 := rb HO648 hb; replace HO653 := rb HO653 hb; replace HO659 := rb HO659 hb; have BK660 := Aside0.mk (hbox); have GW660 := Aside0.mk (ge_ hg HB); have GE660 := Aside0.mk (ge_ hg HB); replace HB := bs HB hb; have NB630_660 := Aside0.mk (nl_ hg BK630); have NB660_630 := Aside0.mk (ng_ hg BK630); replace BK630 := bb BK630 hb; have NB631_660 := Aside0.mk (nl_ hg BK631); have NB660_631 := Aside0.mk (ng_ hg BK631); replace BK631 := bb BK631 hb; have NB632_660 := Aside0.mk (nl_ hg BK632); have NB660_632 := Aside0.mk (ng_ hg BK632); replace BK632 := bb BK632 hb; have NB650_660 := Aside0.mk (nl_ hg BK650); have NB660_650 := Aside0.mk (ng_ hg BK650); replace BK650 := bb BK650 hb; have NB655_660 := Aside0.mk (nl_ hg BK655); have NB660_655 := Aside0.mk (ng_ hg BK655); replace BK655 := bb BK655 hb; clear hb hbox hg; have hnb80 := NB660_630.out; have hnc80 := NB630_660.out; have hnb81 := NB660_631.out; have hnc81 := NB631_660.out; have hnb82 := NB660_632.out; have hnc82 := NB632_660.out; have hnb83 := NB660_650.out; have hnc83 := NB650_660.out; have hnb84 := NB660_655.out; have hnc84 := NB655_660.out; obtain ⟨hcz85_0, hcz85_1, hfz85_0, hfz85_1⟩ := c2 BK660; obtain ⟨Ao86, co86, eo86⟩ := Kd.R_slice HO659.out; subst eo86))
      have n0_ : Aside0 (Kd.R (Kd.int .i64) 3 ((w79.setCell ⟨gb660, 0, none⟩ (.int .i64 t656)).setCell ⟨gb660, 1, none⟩ (.slice Ao86 t657.length co86)) w.heap.size (fun k_ => some k_ ≠ (v644 : Value).ownBlock ∧ some k_ ≠ (.slice Ao63 t646.length co63 : Value).ownBlock ∧ some k_ ≠ (.slice Ao70 t651.length co70 : Value).ownBlock ∧ some k_ ≠ (.slice Ao86 t657.length co86 : Value).ownBlock) v636 t635) := ⟨by (with_reducible repeat (first | apply Kd.R_alloc | apply Kd.R_drewN | apply Kd.R_drew)); exact Kd.R_mono (Kd.R_far (p := ⟨gb660, 1, none⟩) (Kd.R_far (p := ⟨gb660, 0, none⟩) (Kd.R_types HO637.out BK660.out (by decide)) (fun _ hk => hk.2) (.int .i64 t656)) (fun _ hk => hk.2) (.slice Ao86 t657.length co86)) (fun _ hk => ⟨hk.1.1.1.1, ⟨hk.1.1.1.2, ⟨hk.1.1.2, hk.1.2⟩⟩⟩)⟩
      have n1_ : Aside0 (Kd.R (Kd.int .i64) 3 ((w79.setCell ⟨gb660, 0, none⟩ (.int .i64 t656)).setCell ⟨gb660, 1, none⟩ (.slice Ao86 t657.length co86)) w.heap.size (fun k_ => some k_ ≠ (v636 : Value).ownBlock ∧ some k_ ≠ (.slice Ao63 t646.length co63 : Value).ownBlock ∧ some k_ ≠ (.slice Ao70 t651.length co70 : Value).ownBlock ∧ some k_ ≠ (.slice Ao86 t657.length co86 : Value).ownBlock) v644 t643) := ⟨by (with_reducible repeat (first | apply Kd.R_alloc | apply Kd.R_drewN | apply Kd.R_drew)); exact Kd.R_mono (Kd.R_far (p := ⟨gb660, 1, none⟩) (Kd.R_far (p := ⟨gb660, 0, none⟩) (Kd.R_types HO645.out BK660.out (by decide)) (fun _ hk => hk.2) (.int .i64 t656)) (fun _ hk => hk.2) (.slice Ao86 t657.length co86)) (fun _ hk => ⟨hk.1.1.1.1, ⟨hk.1.1.1.2, ⟨hk.1.1.2, hk.1.2⟩⟩⟩)⟩
      have n2_ : Aside0 (Kd.R (Kd.int .i64) 3 ((w79.setCell ⟨gb660, 0, none⟩ (.int .i64 t656)).setCell ⟨gb660, 1, none⟩ (.slice Ao86 t657.length co86)) w.heap.size (fun k_ => some k_ ≠ (v636 : Value).ownBlock ∧ some k_ ≠ (v644 : Value).ownBlock ∧ some k_ ≠ (.slice Ao70 t651.length co70 : Value).ownBlock ∧ some k_ ≠ (.slice Ao86 t657.length co86 : Value).ownBlock) (.slice Ao63 t646.length co63) t646) := ⟨by (with_reducible repeat (first | apply Kd.R_alloc | apply Kd.R_drewN | apply Kd.R_drew)); exact Kd.R_mono (Kd.R_far (p := ⟨gb660, 1, none⟩) (Kd.R_far (p := ⟨gb660, 0, none⟩) (Kd.R_types HO648.out BK660.out (by decide)) (fun _ hk => hk.2) (.int .i64 t656)) (fun _ hk => hk.2) (.slice Ao86 t657.length co86)) (fun _ hk => ⟨hk.1.1.1.1, ⟨hk.1.1.1.2, ⟨hk.1.1.2, hk.1.2⟩⟩⟩)⟩
      have n3_ : Aside0 (Kd.R (Kd.int .i64) 3 ((w79.setCell ⟨gb660, 0, none⟩ (.int .i64 t656)).setCell ⟨gb660, 1, none⟩ (.slice Ao86 t657.length co86)) w.heap.size (fun k_ => some k_ ≠ (v636 : Value).ownBlock ∧ some k_ ≠ (v644 : Value).ownBlock ∧ some k_ ≠ (.slice Ao63 t646.length co63 : Value).ownBlock ∧ some k_ ≠ (.slice Ao86 t657.length co86 : Value).ownBlock) (.slice Ao70 t651.length co70) t651) := ⟨by (with_reducible repeat (first | apply Kd.R_alloc | apply Kd.R_drewN | apply Kd.R_drew)); exact Kd.R_mono (Kd.R_far (p := ⟨gb660, 1, none⟩) (Kd.R_far (p := ⟨gb660, 0, none⟩) (Kd.R_types HO653.out BK660.out (by decide)) (fun _ hk => hk.2) (.int .i64 t656)) (fun _ hk => hk.2) (.slice Ao86 t657.length co86)) (fun _ hk => ⟨hk.1.1.1.1.2, ⟨hk.1.1.1.2, ⟨hk.1.1.2, hk.1.2⟩⟩⟩)⟩
      have n4_ : Aside0 (Kd.R (Kd.int .i64) 3 ((w79.setCell ⟨gb660, 0, none⟩ (.int .i64 t656)).setCell ⟨gb660, 1, none⟩ (.slice Ao86 t657.length co86)) w.heap.size (fun k_ => some k_ ≠ (v636 : Value).ownBlock ∧ some k_ ≠ (v644 : Value).ownBlock ∧ some k_ ≠ (.slice Ao63 t646.length co63 : Value).ownBlock ∧ some k_ ≠ (.slice Ao70 t651.length co70 : Value).ownBlock) (.slice Ao86 t657.length co86) t657) := ⟨by (with_reducible repeat (first | apply Kd.R_alloc | apply Kd.R_drewN | apply Kd.R_drew)); exact Kd.R_mono (Kd.R_far (p := ⟨gb660, 1, none⟩) (Kd.R_far (p := ⟨gb660, 0, none⟩) (Kd.R_types HO659.out BK660.out (by decide)) (fun _ hk => hk.2) (.int .i64 t656)) (fun _ hk => hk.2) (.slice Ao86 t657.length co86)) (fun _ hk => ⟨hk.1.1.1.1.2, ⟨hk.1.1.1.2, ⟨hk.1.1.2, hk.1.2⟩⟩⟩)⟩
      have n5_ : Aside0 (((w79.setCell ⟨gb660, 0, none⟩ (.int .i64 t656)).setCell ⟨gb660, 1, none⟩ (.slice Ao86 t657.length co86)).heap[gb630]? = some (.cells #[.slice A0_0 l0_0.length c0_0, .int .i64 a0_1] 58 (0, 0))) := ⟨by (with_reducible repeat (first | refine blk_drewN ?_ _ | refine blk_drew ?_ | refine blk_alloc ?_ _)); refine blk_far ?_ NB630_660.out _; (with_reducible repeat (first | refine blk_drewN ?_ _ | refine blk_drew ?_ | refine blk_alloc ?_ _)); refine blk_far ?_ NB630_660.out _; (with_reducible repeat (first | refine blk_drewN ?_ _ | refine blk_drew ?_ | refine blk_alloc ?_ _)); exact BK630.out⟩
      have n6_ : Aside0 (((w79.setCell ⟨gb660, 0, none⟩ (.int .i64 t656)).setCell ⟨gb660, 1, none⟩ (.slice Ao86 t657.length co86)).heap[gb631]? = some (.cells #[.int .i64 a1_0, .int .i64 a1_1, .int .i64 a1_2] 60 (0, 0))) := ⟨by (with_reducible repeat (first | refine blk_drewN ?_ _ | refine blk_drew ?_ | refine blk_alloc ?_ _)); refine blk_far ?_ NB631_660.out _; (with_reducible repeat (first | refine blk_drewN ?_ _ | refine blk_drew ?_ | refine blk_alloc ?_ _)); refine blk_far ?_ NB631_660.out _; (with_reducible repeat (first | refine blk_drewN ?_ _ | refine blk_drew ?_ | refine blk_alloc ?_ _)); exact BK631.out⟩
      have n7_ : Aside0 (((w79.setCell ⟨gb660, 0, none⟩ (.int .i64 t656)).setCell ⟨gb660, 1, none⟩ (.slice Ao86 t657.length co86)).heap[gb632]? = some (.cells #[.int .i64 a2_0, .slice A2_1 l2_1.length c2_1] 62 (0, 0))) := ⟨by (with_reducible repeat (first | refine blk_drewN ?_ _ | refine blk_drew ?_ | refine blk_alloc ?_ _)); refine blk_far ?_ NB632_660.out _; (with_reducible repeat (first | refine blk_drewN ?_ _ | refine blk_drew ?_ | refine blk_alloc ?_ _)); refine blk_far ?_ NB632_660.out _; (with_reducible repeat (first | refine blk_drewN ?_ _ | refine blk_drew ?_ | refine blk_alloc ?_ _)); exact BK632.out⟩
      have n8_ : Aside0 (((w79.setCell ⟨gb660, 0, none⟩ (.int .i64 t656)).setCell ⟨gb660, 1, none⟩ (.slice Ao86 t657.length co86)).heap[gb650]? = some (.cells #[.slice Ao63 t646.length co63, .int .i64 t649] 65 (0, 0))) := ⟨by (with_reducible repeat (first | refine blk_drewN ?_ _ | refine blk_drew ?_ | refine blk_alloc ?_ _)); refine blk_far ?_ NB650_660.out _; (with_reducible repeat (first | refine blk_drewN ?_ _ | refine blk_drew ?_ | refine blk_alloc ?_ _)); refine blk_far ?_ NB650_660.out _; (with_reducible repeat (first | refine blk_drewN ?_ _ | refine blk_drew ?_ | refine blk_alloc ?_ _)); exact BK650.out⟩
      have n9_ : Aside0 (((w79.setCell ⟨gb660, 0, none⟩ (.int .i64 t656)).setCell ⟨gb660, 1, none⟩ (.slice Ao86 t657.length co86)).heap[gb655]? = some (.cells #[.slice Ao70 t651.length co70, .int .i64 t654] 65 (0, 0))) := ⟨by (with_reducible repeat (first | refine blk_drewN ?_ _ | refine blk_drew ?_ | refine blk_alloc ?_ _)); refine blk_far ?_ NB655_660.out _; (with_reducible repeat (first | refine blk_drewN ?_ _ | refine blk_drew ?_ | refine blk_alloc ?_ _)); refine blk_far ?_ NB655_660.out _; (with_reducible repeat (first | refine blk_drewN ?_ _ | refine blk_drew ?_ | refine blk_alloc ?_ _)); exact BK655.out⟩
      have n10_ : Aside0 (((w79.setCell ⟨gb660, 0, none⟩ (.int .i64 t656)).setCell ⟨gb660, 1, none⟩ (.slice Ao86 t657.length co86)).heap[gb660]? = some (.cells #[.int .i64 t656, .slice Ao86 t657.length co86] 70 (0, 0))) := ⟨by (with_reducible repeat (first | refine blk_drewN ?_ _ | refine blk_drew ?_ | refine blk_alloc ?_ _)); refine blk_put (cs := #[.int .i64 t656, .slice none 0 0]) ?_ 1 _ rfl; (with_reducible repeat (first | refine blk_drewN ?_ _ | refine blk_drew ?_ | refine blk_alloc ?_ _)); refine blk_put (cs := #[.int .i64 0, .slice none 0 0]) ?_ 0 _ rfl; (with_reducible repeat (first | refine blk_drewN ?_ _ | refine blk_drew ?_ | refine blk_alloc ?_ _)); exact BK660.out⟩
      have n11_ : Aside0 (Below w.heap.size w ((w79.setCell ⟨gb660, 0, none⟩ (.int .i64 t656)).setCell ⟨gb660, 1, none⟩ (.slice Ao86 t657.length co86))) := ⟨tb HB⟩
      (try clear HO637)
      (try clear HO645)
      (try clear HO648)
      (try clear HO653)
      (try clear HO659)
      (try clear BK630)
      (try clear BK631)
      (try clear BK632)
      (try clear BK650)
      (try clear BK655)
      (try clear BK660)
      (try clear HB)
      generalize ((w79.setCell ⟨gb660, 0, none⟩ (.int .i64 t656)).setCell ⟨gb660, 1, none⟩ (.slice Ao86 t657.length co86)) = w87 at n0_ n1_ n2_ n3_ n4_ n5_ n6_ n7_ n8_ n9_ n10_ n11_ ⊢
      have HO637 := n0_
      have HO645 := n1_
      have HO648 := n2_
      have HO653 := n3_
      have HO659 := n4_
      have BK630 := n5_
      have BK631 := n6_
      have BK632 := n7_
      have BK650 := n8_
      have BK655 := n9_
      have BK660 := n10_
      have HB := n11_
      clear n0_ n1_ n2_ n3_ n4_ n5_ n6_ n7_ n8_ n9_ n10_ n11_
      replace HO637 := rd_ HO637
      replace HO645 := rd_ HO645
      replace HO648 := rd_ HO648
      replace HO653 := rd_ HO653
      replace HO659 := rd_ HO659
      replace BK630 := bd BK630
      replace BK631 := bd BK631
      replace BK632 := bd BK632
      replace BK650 := bd BK650
      replace BK655 := bd BK655
      replace BK660 := bd BK660
      replace HB := Aside0.mk (below_drew1 HB.out)
      refine start_ (n := 7) (S := fun w' => w'.cell? ⟨gb655, 0, none⟩ = some (.slice Ao70 t651.length co70) ∧ w'.cell? ⟨gb655, 1, none⟩ = some (.int .i64 t654) ∧ w'.cell? ⟨gb631, 0, none⟩ = some (.int .i64 a1_0) ∧ w'.cell? ⟨gb631, 1, none⟩ = some (.int .i64 a1_1) ∧ w'.cell? ⟨gb631, 2, none⟩ = some (.int .i64 a1_2) ∧ w'.cell? ⟨gb660, 0, none⟩ = some (.int .i64 t656) ∧ w'.cell? ⟨gb660, 1, none⟩ = some (.slice Ao86 t657.length co86)) (ds := []) #[false, false, false, false, false, false, false] (by kernel_rfl) rfl rfl ⟨cz BK655 0, cz BK655 1, cz BK631 0, cz BK631 1, cz BK631 2, cz BK660 0, cz BK660 1⟩ (fun hHeld => ?_)
      generalize w87.drew = w88 at HO637 HO645 HO648 HO653 HO659 BK630 BK631 BK632 BK650 BK655 BK660 HB hHeld ⊢
      refine ta 0 37 ?_
      refine ta 1 38 ?_
      refine ta 3 40 ?_
      refine join_ (σ := Value × Nat) 1 #[true, true, true, true, true, true, false] (fun s_ => [(39, .agg #[.int .i64 t661, .int .i64 t662, .int .i64 t663]), (41, .agg #[s_.1, .int .i64 t667]), (11, .pointer (some ⟨s_.2, 0, none⟩))]) (fun s_ w' => (w'.cell? ⟨gb655, 0, none⟩ = some (.slice Ao70 t651.length co70) ∧ w'.cell? ⟨gb655, 1, none⟩ = some (.int .i64 t654) ∧ w'.cell? ⟨gb631, 0, none⟩ = some (.int .i64 a1_0) ∧ w'.cell? ⟨gb631, 1, none⟩ = some (.int .i64 a1_1) ∧ w'.cell? ⟨gb631, 2, none⟩ = some (.int .i64 a1_2) ∧ w'.cell? ⟨gb660, 0, none⟩ = some (.int .i64 t656) ∧ w'.cell? ⟨gb660, 1, none⟩ = some (.slice Ao86 t657.length co86)) ∧ Aside0 (Kd.R (Kd.int .i64) 3 w' w.heap.size (fun k_ => some k_ ≠ (v644 : Value).ownBlock ∧ some k_ ≠ (.slice Ao63 t646.length co63 : Value).ownBlock ∧ some k_ ≠ (.slice Ao70 t651.length co70 : Value).ownBlock ∧ some k_ ≠ (.slice Ao86 t657.length co86 : Value).ownBlock ∧ some k_ ≠ (s_.1 : Value).ownBlock) v636 t635) ∧ Aside0 (Kd.R (Kd.int .i64) 3 w' w.heap.size (fun k_ => some k_ ≠ (v636 : Value).ownBlock ∧ some k_ ≠ (.slice Ao63 t646.length co63 : Value).ownBlock ∧ some k_ ≠ (.slice Ao70 t651.length co70 : Value).ownBlock ∧ some k_ ≠ (.slice Ao86 t657.length co86 : Value).ownBlock ∧ some k_ ≠ (s_.1 : Value).ownBlock) v644 t643) ∧ Aside0 (Kd.R (Kd.int .i64) 3 w' w.heap.size (fun k_ => some k_ ≠ (v636 : Value).ownBlock ∧ some k_ ≠ (v644 : Value).ownBlock ∧ some k_ ≠ (.slice Ao70 t651.length co70 : Value).ownBlock ∧ some k_ ≠ (.slice Ao86 t657.length co86 : Value).ownBlock ∧ some k_ ≠ (s_.1 : Value).ownBlock) (.slice Ao63 t646.length co63) t646) ∧ Aside0 (Kd.R (Kd.int .i64) 3 w' w.heap.size (fun k_ => some k_ ≠ (v636 : Value).ownBlock ∧ some k_ ≠ (v644 : Value).ownBlock ∧ some k_ ≠ (.slice Ao63 t646.length co63 : Value).ownBlock ∧ some k_ ≠ (.slice Ao86 t657.length co86 : Value).ownBlock ∧ some k_ ≠ (s_.1 : Value).ownBlock) (.slice Ao70 t651.length co70) t651) ∧ Aside0 (Kd.R (Kd.int .i64) 3 w' w.heap.size (fun k_ => some k_ ≠ (v636 : Value).ownBlock ∧ some k_ ≠ (v644 : Value).ownBlock ∧ some k_ ≠ (.slice Ao63 t646.length co63 : Value).ownBlock ∧ some k_ ≠ (.slice Ao70 t651.length co70 : Value).ownBlock ∧ some k_ ≠ (s_.1 : Value).ownBlock) (.slice Ao86 t657.length co86) t657) ∧ Aside0 (Kd.R (Kd.int .i64) 3 w' w.heap.size (fun k_ => some k_ ≠ (v636 : Value).ownBlock ∧ some k_ ≠ (v644 : Value).ownBlock ∧ some k_ ≠ (.slice Ao63 t646.length co63 : Value).ownBlock ∧ some k_ ≠ (.slice Ao70 t651.length co70 : Value).ownBlock ∧ some k_ ≠ (.slice Ao86 t657.length co86 : Value).ownBlock) s_.1 t664) ∧ Aside0 (w'.heap[gb630]? = some (.cells #[.slice A0_0 l0_0.length c0_0, .int .i64 a0_1] 58 (0, 0))) ∧ Aside0 (w'.heap[gb631]? = some (.cells #[.int .i64 a1_0, .int .i64 a1_1, .int .i64 a1_2] 60 (0, 0))) ∧ Aside0 (w'.heap[gb632]? = some (.cells #[.int .i64 a2_0, .slice A2_1 l2_1.length c2_1] 62 (0, 0))) ∧ Aside0 (w'.heap[gb650]? = some (.cells #[.slice Ao63 t646.length co63, .int .i64 t649] 65 (0, 0))) ∧ Aside0 (w'.heap[gb655]? = some (.cells #[.slice Ao70 t651.length co70, .int .i64 t654] 65 (0, 0))) ∧ Aside0 (w'.heap[gb660]? = some (.cells #[.int .i64 t656, .slice Ao86 t657.length co86] 70 (0, 0))) ∧ Aside0 (w'.heap[s_.2]? = some (.cells #[.slice none 0 0, .int .i64 0] 65 (0, 0))) ∧ Aside0 (w.heap.size ≤ s_.2) ∧ Aside0 (w.heap.size ≤ s_.2) ∧ Aside0 (gb630 ≠ s_.2) ∧ Aside0 (s_.2 ≠ gb630) ∧ Aside0 (gb631 ≠ s_.2) ∧ Aside0 (s_.2 ≠ gb631) ∧ Aside0 (gb632 ≠ s_.2) ∧ Aside0 (s_.2 ≠ gb632) ∧ Aside0 (gb650 ≠ s_.2) ∧ Aside0 (s_.2 ≠ gb650) ∧ Aside0 (gb655 ≠ s_.2) ∧ Aside0 (s_.2 ≠ gb655) ∧ Aside0 (gb660 ≠ s_.2) ∧ Aside0 (s_.2 ≠ gb660) ∧ Aside0 (Below w.heap.size w w')) ?_ ?_
      rotate_left
      ·intro hCont
       refine two_ (i := 2) (j := 5) (Ni := some 39) (Nj := some 11) #[true, true, true, true, false, false, false] #[true, true, false, true, false, true, false] rfl rfl rfl rfl (by kernel_rfl) (by decide) (by decide) (fun K hK => ?_) (fun K hK => ?_)
       ·skip
        refine gS Try.func36 #[.agg #[.int .i64 a1_0, .int .i64 a1_1, .int .i64 a1_2]] ?_
        with_reducible refine (laws_toOp.calls a1_0 a1_1 a1_2 t661 t662 t663 _ A31.out).mono ?_
        rintro e w89 ⟨rfl, hb⟩
        refine ⟨_, rfl, ?_⟩
        replace HO637 := rb HO637 hb
        replace HO645 := rb HO645 hb
        replace HO648 := rb HO648 hb
        replace HO653 := rb HO653 hb
        replace HO659 := rb HO659 hb
        replace BK630 := bb BK630 hb
        replace BK631 := bb BK631 hb
        replace BK632 := bb BK632 hb
        replace BK650 := bb BK650 hb
        replace BK655 := bb BK655 hb
        replace BK660 := bb BK660 hb
        replace HB := bs HB hb
        (try clear hb)
        (try clear hb2)
        (try clear hk)
        (try clear hi)
        refine hK.out _ _ ⟨cz BK655 0, cz BK655 1, cz BK631 0, cz BK631 1, cz BK631 2, cz BK660 0, cz BK660 1⟩ (fun hHeld => ?_)
        clear hK K
        refine nm 39 ?_
        refine two_ (i := 4) (j := 5) (Ni := some 41) (Nj := some 11) #[true, true, true, true, true, false, false] #[true, true, true, true, false, true, false] rfl rfl rfl rfl (by kernel_rfl) (by decide) (by decide) (fun K hK => ?_) (fun K hK => ?_)
        ·skip
         refine gS Try.func38 #[.agg #[.slice Ao70 t651.length co70, .int .i64 t654], .agg #[.int .i64 t661, .int .i64 t662, .int .i64 t663], .agg #[.int .i64 t656, .slice Ao86 t657.length co86]] ?_
         with_reducible refine (impl_After.calls k _ _ t651 t654 t661 t662 t663 t656 _ _ t657 t664 t667 _ ?side1 ?side2 ?side3 ?side4 A32.out).mono ?_
         (case side1 => repeat (first | exact (Kd.R_reads' HO653.out).2.2 | (with_reducible refine Kd.C_alloc ?_ _) | (with_reducible refine Kd.C_drewN ?_ _) | (with_reducible refine Kd.C_drew ?_)))
         (case side2 => exact (Kd.R_reads' HO653.out).2.1)
         (case side3 => repeat (first | exact (Kd.R_reads' HO659.out).2.2 | (with_reducible refine Kd.C_alloc ?_ _) | (with_reducible refine Kd.C_drewN ?_ _) | (with_reducible refine Kd.C_drew ?_)))
         (case side4 => exact (Kd.R_reads' HO659.out).2.1)
         rintro e w90 ⟨v665, rfl, ho0, hb⟩
         refine ⟨_, rfl, ?_⟩
         have HO666 := Aside0.mk (Kd.R_lower (Kd.R_new' (Kd.R_new' (Kd.R_new' (Kd.R_new' (Kd.R_new' ho0 (Kd.R_lt (kr HO637.out))) (Kd.R_lt (kr HO645.out))) (Kd.R_lt (kr HO648.out))) (Kd.R_lt (kr HO653.out))) (Kd.R_lt (kr HO659.out))) (below_size (tb HB)))
         replace HO637 := Aside0.mk (Kd.R_elder' (kr HO637.out) (Kd.R_base ho0) hb)
         replace HO645 := Aside0.mk (Kd.R_elder' (kr HO645.out) (Kd.R_base ho0) hb)
         replace HO648 := Aside0.mk (Kd.R_elder' (kr HO648.out) (Kd.R_base ho0) hb)
         replace HO653 := Aside0.mk (Kd.R_elder' (kr HO653.out) (Kd.R_base ho0) hb)
         replace HO659 := Aside0.mk (Kd.R_elder' (kr HO659.out) (Kd.R_base ho0) hb)
         replace BK630 := bb BK630 hb
         replace BK631 := bb BK631 hb
         replace BK632 := bb BK632 hb
         replace BK650 := bb BK650 hb
         replace BK655 := bb BK655 hb
         replace BK660 := bb BK660 hb
         replace HB := bs HB hb
         (try clear hb)
         (try clear hb2)
         (try clear hk)
         (try clear hi)
         (try clear ho0)
         refine hK.out _ _ ⟨cz BK655 0, cz BK655 1, cz BK631 0, cz BK631 1, cz BK631 2, cz BK660 0, cz BK660 1⟩ (fun hHeld => ?_)
         clear hK K
         refine nm 41 ?_
         refine one_ (i := 5) (N := some 11) #[true, true, true, true, true, true, false] rfl rfl (by kernel_rfl) (by decide) (fun K hK => ?_)
         refine bxs (N := 11) (cs := #[.slice none 0 0, .int .i64 0]) (t := 65) ?_
         intro gb668 hg w91 hbox hb
         replace HO637 := rb HO637 hb
         replace HO645 := rb HO645 hb
         replace HO648 := rb HO648 hb
         replace HO653 := rb HO653 hb
         replace HO659 := rb HO659 hb
         replace HO666 := rb HO666 hb
         have BK668 := Aside0.mk (hbox)
         have GW668 := Aside0.mk (ge_ hg HB)
         have GE668 := Aside0.mk (ge_ hg HB)
         replace HB := bs HB hb
         have NB630_668 := Aside0.mk (nl_ hg BK630)
         have NB668_630 := Aside0.mk (ng_ hg BK630)
         replace BK630 := bb BK630 hb
         have NB631_668 := Aside0.mk (nl_ hg BK631)
         have NB668_631 := Aside0.mk (ng_ hg BK631)
         replace BK631 := bb BK631 hb
         have NB632_668 := Aside0.mk (nl_ hg BK632)
         have NB668_632 := Aside0.mk (ng_ hg BK632)
         replace BK632 := bb BK632 hb
         have NB650_668 := Aside0.mk (nl_ hg BK650)
         have NB668_650 := Aside0.mk (ng_ hg BK650)
         replace BK650 := bb BK650 hb
         have NB655_668 := Aside0.mk (nl_ hg BK655)
         have NB668_655 := Aside0.mk (ng_ hg BK655)
         replace BK655 := bb BK655 hb
         have NB660_668 := Aside0.mk (nl_ hg BK660)
         have NB668_660 := Aside0.mk (ng_ hg BK660)
         replace BK660 := bb BK660 hb
         clear hb hbox hg
         refine hK.out _ _ ⟨cz BK655 0, cz BK655 1, cz BK631 0, cz BK631 1, cz BK631 2, cz BK660 0, cz BK660 1⟩ (fun hHeld => ?_)
         clear hK K
         refine nm 11 ?_
         exact norm_ (by simp only [putAll, Act.put, sA, sB, sC]) (hCont (v665, gb668) _ ⟨hHeld, ⟨kr (Kd.R_mono HO637.out (fun _ hk => ⟨hk.1.1, ⟨hk.1.2.1, ⟨hk.1.2.2.1, ⟨hk.1.2.2.2, hk.2⟩⟩⟩⟩))⟩, ⟨kr (Kd.R_mono HO645.out (fun _ hk => ⟨hk.1.1, ⟨hk.1.2.1, ⟨hk.1.2.2.1, ⟨hk.1.2.2.2, hk.2⟩⟩⟩⟩))⟩, ⟨kr (Kd.R_mono HO648.out (fun _ hk => ⟨hk.1.1, ⟨hk.1.2.1, ⟨hk.1.2.2.1, ⟨hk.1.2.2.2, hk.2⟩⟩⟩⟩))⟩, ⟨kr (Kd.R_mono HO653.out (fun _ hk => ⟨hk.1.1, ⟨hk.1.2.1, ⟨hk.1.2.2.1, ⟨hk.1.2.2.2, hk.2⟩⟩⟩⟩))⟩, ⟨kr (Kd.R_mono HO659.out (fun _ hk => ⟨hk.1.1, ⟨hk.1.2.1, ⟨hk.1.2.2.1, ⟨hk.1.2.2.2, hk.2⟩⟩⟩⟩))⟩, ⟨kr (Kd.R_mono HO666.out (fun _ hk => ⟨hk.1.1.1.1.2, ⟨hk.1.1.1.2, ⟨hk.1.1.2, ⟨hk.1.2, hk.2⟩⟩⟩⟩))⟩, ⟨bk BK630⟩, ⟨bk BK631⟩, ⟨bk BK632⟩, ⟨bk BK650⟩, ⟨bk BK655⟩, ⟨bk BK660⟩, ⟨bk BK668⟩, GW668, GE668, NB630_668, NB668_630, NB631_668, NB668_631, NB632_668, NB668_632, NB650_668, NB668_650, NB655_668, NB668_655, NB660_668, NB668_660, ⟨tb HB⟩⟩)
        ·skip
         refine bxs (N := 11) (cs := #[.slice none 0 0, .int .i64 0]) (t := 65) ?_
         intro gb668 hg w90 hbox hb
         replace HO637 := rb HO637 hb
         replace HO645 := rb HO645 hb
         replace HO648 := rb HO648 hb
         replace HO653 := rb HO653 hb
         replace HO659 := rb HO659 hb
         have BK668 := Aside0.mk (hbox)
         have GW668 := Aside0.mk (ge_ hg HB)
         have GE668 := Aside0.mk (ge_ hg HB)
         replace HB := bs HB hb
         have NB630_668 := Aside0.mk (nl_ hg BK630)
         have NB668_630 := Aside0.mk (ng_ hg BK630)
         replace BK630 := bb BK630 hb
         have NB631_668 := Aside0.mk (nl_ hg BK631)
         have NB668_631 := Aside0.mk (ng_ hg BK631)
         replace BK631 := bb BK631 hb
         have NB632_668 := Aside0.mk (nl_ hg BK632)
         have NB668_632 := Aside0.mk (ng_ hg BK632)
         replace BK632 := bb BK632 hb
         have NB650_668 := Aside0.mk (nl_ hg BK650)
         have NB668_650 := Aside0.mk (ng_ hg BK650)
         replace BK650 := bb BK650 hb
         have NB655_668 := Aside0.mk (nl_ hg BK655)
         have NB668_655 := Aside0.mk (ng_ hg BK655)
         replace BK655 := bb BK655 hb
         have NB660_668 := Aside0.mk (nl_ hg BK660)
         have NB668_660 := Aside0.mk (ng_ hg BK660)
         replace BK660 := bb BK660 hb
         clear hb hbox hg
         refine hK.out _ _ ⟨cz BK655 0, cz BK655 1, cz BK631 0, cz BK631 1, cz BK631 2, cz BK660 0, cz BK660 1⟩ (fun hHeld => ?_)
         clear hK K
         refine nm 11 ?_
         refine one_ (i := 4) (N := some 41) #[true, true, true, true, true, true, false] rfl rfl (by kernel_rfl) (by decide) (fun K hK => ?_)
         refine gS Try.func38 #[.agg #[.slice Ao70 t651.length co70, .int .i64 t654], .agg #[.int .i64 t661, .int .i64 t662, .int .i64 t663], .agg #[.int .i64 t656, .slice Ao86 t657.length co86]] ?_
         with_reducible refine (impl_After.calls k _ _ t651 t654 t661 t662 t663 t656 _ _ t657 t664 t667 _ ?side1 ?side2 ?side3 ?side4 A32.out).mono ?_
         (case side1 => repeat (first | exact (Kd.R_reads' HO653.out).2.2 | (with_reducible refine Kd.C_alloc ?_ _) | (with_reducible refine Kd.C_drewN ?_ _) | (with_reducible refine Kd.C_drew ?_)))
         (case side2 => exact (Kd.R_reads' HO653.out).2.1)
         (case side3 => repeat (first | exact (Kd.R_reads' HO659.out).2.2 | (with_reducible refine Kd.C_alloc ?_ _) | (with_reducible refine Kd.C_drewN ?_ _) | (with_reducible refine Kd.C_drew ?_)))
         (case side4 => exact (Kd.R_reads' HO659.out).2.1)
         rintro e w91 ⟨v665, rfl, ho0, hb⟩
         refine ⟨_, rfl, ?_⟩
         have HO666 := Aside0.mk (Kd.R_lower (Kd.R_new' (Kd.R_new' (Kd.R_new' (Kd.R_new' (Kd.R_new' ho0 (Kd.R_lt (kr HO637.out))) (Kd.R_lt (kr HO645.out))) (Kd.R_lt (kr HO648.out))) (Kd.R_lt (kr HO653.out))) (Kd.R_lt (kr HO659.out))) (below_size (tb HB)))
         replace HO637 := Aside0.mk (Kd.R_elder' (kr HO637.out) (Kd.R_base ho0) hb)
         replace HO645 := Aside0.mk (Kd.R_elder' (kr HO645.out) (Kd.R_base ho0) hb)
         replace HO648 := Aside0.mk (Kd.R_elder' (kr HO648.out) (Kd.R_base ho0) hb)
         replace HO653 := Aside0.mk (Kd.R_elder' (kr HO653.out) (Kd.R_base ho0) hb)
         replace HO659 := Aside0.mk (Kd.R_elder' (kr HO659.out) (Kd.R_base ho0) hb)
         replace BK630 := bb BK630 hb
         replace BK631 := bb BK631 hb
         replace BK632 := bb BK632 hb
         replace BK650 := bb BK650 hb
         replace BK655 := bb BK655 hb
         replace BK660 := bb BK660 hb
         replace BK668 := bb BK668 hb
         replace HB := bs HB hb
         (try clear hb)
         (try clear hb2)
         (try clear hk)
         (try clear hi)
         (try clear ho0)
         refine hK.out _ _ ⟨cz BK655 0, cz BK655 1, cz BK631 0, cz BK631 1, cz BK631 2, cz BK660 0, cz BK660 1⟩ (fun hHeld => ?_)
         clear hK K
         refine nm 41 ?_
         exact norm_ (by simp only [putAll, Act.put, sA, sB, sC]) (hCont (v665, gb668) _ ⟨hHeld, ⟨kr (Kd.R_mono HO637.out (fun _ hk => ⟨hk.1.1, ⟨hk.1.2.1, ⟨hk.1.2.2.1, ⟨hk.1.2.2.2, hk.2⟩⟩⟩⟩))⟩, ⟨kr (Kd.R_mono HO645.out (fun _ hk => ⟨hk.1.1, ⟨hk.1.2.1, ⟨hk.1.2.2.1, ⟨hk.1.2.2.2, hk.2⟩⟩⟩⟩))⟩, ⟨kr (Kd.R_mono HO648.out (fun _ hk => ⟨hk.1.1, ⟨hk.1.2.1, ⟨hk.1.2.2.1, ⟨hk.1.2.2.2, hk.2⟩⟩⟩⟩))⟩, ⟨kr (Kd.R_mono HO653.out (fun _ hk => ⟨hk.1.1, ⟨hk.1.2.1, ⟨hk.1.2.2.1, ⟨hk.1.2.2.2, hk.2⟩⟩⟩⟩))⟩, ⟨kr (Kd.R_mono HO659.out (fun _ hk => ⟨hk.1.1, ⟨hk.1.2.1, ⟨hk.1.2.2.1, ⟨hk.1.2.2.2, hk.2⟩⟩⟩⟩))⟩, ⟨kr (Kd.R_mono HO666.out (fun _ hk => ⟨hk.1.1.1.1.2, ⟨hk.1.1.1.2, ⟨hk.1.1.2, ⟨hk.1.2, hk.2⟩⟩⟩⟩))⟩, ⟨bk BK630⟩, ⟨bk BK631⟩, ⟨bk BK632⟩, ⟨bk BK650⟩, ⟨bk BK655⟩, ⟨bk BK660⟩, ⟨bk BK668⟩, GW668, GE668, NB630_668, NB668_630, NB631_668, NB668_631, NB632_668, NB668_632, NB650_668, NB668_650, NB655_668, NB668_655, NB660_668, NB668_660, ⟨tb HB⟩⟩)
       ·skip
        refine bxs (N := 11) (cs := #[.slice none 0 0, .int .i64 0]) (t := 65) ?_
        intro gb668 hg w89 hbox hb
        replace HO637 := rb HO637 hb
        replace HO645 := rb HO645 hb
        replace HO648 := rb HO648 hb
        replace HO653 := rb HO653 hb
        replace HO659 := rb HO659 hb
        have BK668 := Aside0.mk (hbox)
        have GW668 := Aside0.mk (ge_ hg HB)
        have GE668 := Aside0.mk (ge_ hg HB)
        replace HB := bs HB hb
        have NB630_668 := Aside0.mk (nl_ hg BK630)
        have NB668_630 := Aside0.mk (ng_ hg BK630)
        replace BK630 := bb BK630 hb
        have NB631_668 := Aside0.mk (nl_ hg BK631)
        have NB668_631 := Aside0.mk (ng_ hg BK631)
        replace BK631 := bb BK631 hb
        have NB632_668 := Aside0.mk (nl_ hg BK632)
        have NB668_632 := Aside0.mk (ng_ hg BK632)
        replace BK632 := bb BK632 hb
        have NB650_668 := Aside0.mk (nl_ hg BK650)
        have NB668_650 := Aside0.mk (ng_ hg BK650)
        replace BK650 := bb BK650 hb
        have NB655_668 := Aside0.mk (nl_ hg BK655)
        have NB668_655 := Aside0.mk (ng_ hg BK655)
        replace BK655 := bb BK655 hb
        have NB660_668 := Aside0.mk (nl_ hg BK660)
        have NB668_660 := Aside0.mk (ng_ hg BK660)
        replace BK660 := bb BK660 hb
        clear hb hbox hg
        refine hK.out _ _ ⟨cz BK655 0, cz BK655 1, cz BK631 0, cz BK631 1, cz BK631 2, cz BK660 0, cz BK660 1⟩ (fun hHeld => ?_)
        clear hK K
        refine nm 11 ?_
        refine one_ (i := 2) (N := some 39) #[true, true, true, true, false, true, false] rfl rfl (by kernel_rfl) (by decide) (fun K hK => ?_)
        refine gS Try.func36 #[.agg #[.int .i64 a1_0, .int .i64 a1_1, .int .i64 a1_2]] ?_
        with_reducible refine (laws_toOp.calls a1_0 a1_1 a1_2 t661 t662 t663 _ A31.out).mono ?_
        rintro e w90 ⟨rfl, hb⟩
        refine ⟨_, rfl, ?_⟩
        replace HO637 := rb HO637 hb
        replace HO645 := rb HO645 hb
        replace HO648 := rb HO648 hb
        replace HO653 := rb HO653 hb
        replace HO659 := rb HO659 hb
        replace BK630 := bb BK630 hb
        replace BK631 := bb BK631 hb
        replace BK632 := bb BK632 hb
        replace BK650 := bb BK650 hb
        replace BK655 := bb BK655 hb
        replace BK660 := bb BK660 hb
        replace BK668 := bb BK668 hb
        replace HB := bs HB hb
        (try clear hb)
        (try clear hb2)
        (try clear hk)
        (try clear hi)
        refine hK.out _ _ ⟨cz BK655 0, cz BK655 1, cz BK631 0, cz BK631 1, cz BK631 2, cz BK660 0, cz BK660 1⟩ (fun hHeld => ?_)
        clear hK K
        refine nm 39 ?_
        refine one_ (i := 4) (N := some 41) #[true, true, true, true, true, true, false] rfl rfl (by kernel_rfl) (by decide) (fun K hK => ?_)
        refine gS Try.func38 #[.agg #[.slice Ao70 t651.length co70, .int .i64 t654], .agg #[.int .i64 t661, .int .i64 t662, .int .i64 t663], .agg #[.int .i64 t656, .slice Ao86 t657.length co86]] ?_
        with_reducible refine (impl_After.calls k _ _ t651 t654 t661 t662 t663 t656 _ _ t657 t664 t667 _ ?side1 ?side2 ?side3 ?side4 A32.out).mono ?_
        (case side1 => repeat (first | exact (Kd.R_reads' HO653.out).2.2 | (with_reducible refine Kd.C_alloc ?_ _) | (with_reducible refine Kd.C_drewN ?_ _) | (with_reducible refine Kd.C_drew ?_)))
        (case side2 => exact (Kd.R_reads' HO653.out).2.1)
        (case side3 => repeat (first | exact (Kd.R_reads' HO659.out).2.2 | (with_reducible refine Kd.C_alloc ?_ _) | (with_reducible refine Kd.C_drewN ?_ _) | (with_reducible refine Kd.C_drew ?_)))
        (case side4 => exact (Kd.R_reads' HO659.out).2.1)
        rintro e w91 ⟨v665, rfl, ho0, hb⟩
        refine ⟨_, rfl, ?_⟩
        have HO666 := Aside0.mk (Kd.R_lower (Kd.R_new' (Kd.R_new' (Kd.R_new' (Kd.R_new' (Kd.R_new' ho0 (Kd.R_lt (kr HO637.out))) (Kd.R_lt (kr HO645.out))) (Kd.R_lt (kr HO648.out))) (Kd.R_lt (kr HO653.out))) (Kd.R_lt (kr HO659.out))) (below_size (tb HB)))
        replace HO637 := Aside0.mk (Kd.R_elder' (kr HO637.out) (Kd.R_base ho0) hb)
        replace HO645 := Aside0.mk (Kd.R_elder' (kr HO645.out) (Kd.R_base ho0) hb)
        replace HO648 := Aside0.mk (Kd.R_elder' (kr HO648.out) (Kd.R_base ho0) hb)
        replace HO653 := Aside0.mk (Kd.R_elder' (kr HO653.out) (Kd.R_base ho0) hb)
        replace HO659 := Aside0.mk (Kd.R_elder' (kr HO659.out) (Kd.R_base ho0) hb)
        replace BK630 := bb BK630 hb
        replace BK631 := bb BK631 hb
        replace BK632 := bb BK632 hb
        replace BK650 := bb BK650 hb
        replace BK655 := bb BK655 hb
        replace BK660 := bb BK660 hb
        replace BK668 := bb BK668 hb
        replace HB := bs HB hb
        (try clear hb)
        (try clear hb2)
        (try clear hk)
        (try clear hi)
        (try clear ho0)
        refine hK.out _ _ ⟨cz BK655 0, cz BK655 1, cz BK631 0, cz BK631 1, cz BK631 2, cz BK660 0, cz BK660 1⟩ (fun hHeld => ?_)
        clear hK K
        refine nm 41 ?_
        exact norm_ (by simp only [putAll, Act.put, sA, sB, sC]) (hCont (v665, gb668) _ ⟨hHeld, ⟨kr (Kd.R_mono HO637.out (fun _ hk => ⟨hk.1.1, ⟨hk.1.2.1, ⟨hk.1.2.2.1, ⟨hk.1.2.2.2, hk.2⟩⟩⟩⟩))⟩, ⟨kr (Kd.R_mono HO645.out (fun _ hk => ⟨hk.1.1, ⟨hk.1.2.1, ⟨hk.1.2.2.1, ⟨hk.1.2.2.2, hk.2⟩⟩⟩⟩))⟩, ⟨kr (Kd.R_mono HO648.out (fun _ hk => ⟨hk.1.1, ⟨hk.1.2.1, ⟨hk.1.2.2.1, ⟨hk.1.2.2.2, hk.2⟩⟩⟩⟩))⟩, ⟨kr (Kd.R_mono HO653.out (fun _ hk => ⟨hk.1.1, ⟨hk.1.2.1, ⟨hk.1.2.2.1, ⟨hk.1.2.2.2, hk.2⟩⟩⟩⟩))⟩, ⟨kr (Kd.R_mono HO659.out (fun _ hk => ⟨hk.1.1, ⟨hk.1.2.1, ⟨hk.1.2.2.1, ⟨hk.1.2.2.2, hk.2⟩⟩⟩⟩))⟩, ⟨kr (Kd.R_mono HO666.out (fun _ hk => ⟨hk.1.1.1.1.2, ⟨hk.1.1.1.2, ⟨hk.1.1.2, ⟨hk.1.2, hk.2⟩⟩⟩⟩))⟩, ⟨bk BK630⟩, ⟨bk BK631⟩, ⟨bk BK632⟩, ⟨bk BK650⟩, ⟨bk BK655⟩, ⟨bk BK660⟩, ⟨bk BK668⟩, GW668, GE668, NB630_668, NB668_630, NB631_668, NB668_631, NB632_668, NB668_632, NB650_668, NB668_650, NB655_668, NB668_655, NB660_668, NB668_660, ⟨tb HB⟩⟩)
      clear HO637 HO645 HO648 HO653 HO659 BK630 BK631 BK632 BK650 BK655 BK660 HB
      rintro ⟨v665, gb668⟩ w92 ⟨hHeld, HO637, HO645, HO648, HO653, HO659, HO666, BK630, BK631, BK632, BK650, BK655, BK660, BK668, GW668, GE668, NB630_668, NB668_630, NB631_668, NB668_631, NB632_668, NB668_632, NB650_668, NB668_650, NB655_668, NB668_655, NB660_668, NB668_660, HB⟩
      dsimp only at HO637 HO645 HO648 HO653 HO659 HO666 BK668 GW668 GE668 NB630_668 NB668_630 NB631_668 NB668_631 NB632_668 NB668_632 NB650_668 NB668_650 NB655_668 NB668_655 NB660_668 NB668_660
      obtain ⟨Ao93, co93, eo93⟩ := Kd.R_slice HO666.out
      (first | subst eo93 | (injection eo93 with f1_ f2_ f3_; have f4_ := f1_.symm; have f5_ := f3_.symm; clear f1_ f2_ f3_; subst f4_; subst f5_))
      refine nmp ?_
      refine one_ (i := 6) (N := none) #[true, true, true, true, true, true, true] rfl rfl (by kernel_rfl) (by decide) (fun K hK => ?_)
      have hs94 : w92.cell? ⟨gb668, 0, none⟩ = some (.slice none 0 0) := cz BK668 0
      have hfs94 := blk_frozen BK668.out 0
      have hns94_0 := NB630_668.out
      have hns94_1 := NB631_668.out
      have hns94_2 := NB632_668.out
      have hns94_3 := NB650_668.out
      have hns94_4 := NB655_668.out
      have hns94_5 := NB660_668.out
      have hms94_0 := NB668_630.out
      have hms94_1 := NB668_631.out
      have hms94_2 := NB668_632.out
      have hms94_3 := NB668_650.out
      have hms94_4 := NB668_655.out
      have hms94_5 := NB668_660.out
      have hs95 : w92.cell? ⟨gb668, 1, none⟩ = some (.int .i64 0) := cz BK668 1
      have hfs95 := blk_frozen BK668.out 1
      have hns95_0 := NB630_668.out
      have hns95_1 := NB631_668.out
      have hns95_2 := NB632_668.out
      have hns95_3 := NB650_668.out
      have hns95_4 := NB655_668.out
      have hns95_5 := NB660_668.out
      have hms95_0 := NB668_630.out
      have hms95_1 := NB668_631.out
      have hms95_2 := NB668_632.out
      have hms95_3 := NB668_650.out
      have hms95_4 := NB668_655.out
      have hms95_5 := NB668_660.out
      refine skip_ (w1 := ?_) (by rfl) rfl ?_ ?_
      rotate_left
      ·go_simp
       rfl
      refine hK.out _ _ ⟨((cell_far (p := ⟨gb668, _, none⟩) NB655_668.out _).trans (((cell_far (p := ⟨gb668, _, none⟩) NB655_668.out _).trans (hHeld.1)))), ((cell_far (p := ⟨gb668, _, none⟩) NB655_668.out _).trans (((cell_far (p := ⟨gb668, _, none⟩) NB655_668.out _).trans (hHeld.2.1)))), ((cell_far (p := ⟨gb668, _, none⟩) NB631_668.out _).trans (((cell_far (p := ⟨gb668, _, none⟩) NB631_668.out _).trans (hHeld.2.2.1)))), ((cell_far (p := ⟨gb668, _, none⟩) NB631_668.out _).trans (((cell_far (p := ⟨gb668, _, none⟩) NB631_668.out _).trans (hHeld.2.2.2.1)))), ((cell_far (p := ⟨gb668, _, none⟩) NB631_668.out _).trans (((cell_far (p := ⟨gb668, _, none⟩) NB631_668.out _).trans (hHeld.2.2.2.2.1)))), ((cell_far (p := ⟨gb668, _, none⟩) NB660_668.out _).trans (((cell_far (p := ⟨gb668, _, none⟩) NB660_668.out _).trans (hHeld.2.2.2.2.2.1)))), ((cell_far (p := ⟨gb668, _, none⟩) NB660_668.out _).trans (((cell_far (p := ⟨gb668, _, none⟩) NB660_668.out _).trans (hHeld.2.2.2.2.2.2))))⟩ (fun hHeld => ?_)
      clear hK K
      refine done_ (by kernel_rfl) ?_
      have hnb96 := NB668_630.out
      have hnc96 := NB630_668.out
      have hnb97 := NB668_631.out
      have hnc97 := NB631_668.out
      have hnb98 := NB668_632.out
      have hnc98 := NB632_668.out
      have hnb99 := NB668_650.out
      have hnc99 := NB650_668.out
      have hnb100 := NB668_655.out
      have hnc100 := NB655_668.out
      have hnb101 := NB668_660.out
      have hnc101 := NB660_668.out
      obtain ⟨hcz102_0, hcz102_1, hfz102_0, hfz102_1⟩ := c2 BK668
      have hnb103 := NB650_631.out
      have hnc103 := NB631_650.out
      obtain ⟨hcz104_0, hcz104_1, hfz104_0, hfz104_1⟩ := c2 BK650
      try go_wp2_with (first | ((with_reducible refine gate_callee (f := 39) rfl ?_); refine gL 44 Try.func39 #[.agg #[.slice Ao93 t664.length co93, .int .i64 t667], .agg #[.slice Ao63 t646.length co63, .int .i64 t649]] ?_; (with_reducible refine (laws_eqRows.calls k _ _ t664 t667 _ _ t646 t649 true _ ?side1 ?side2 ?side3 ?side4 A33.out).mono ?_); (case side1 => refine (Kd.R_reads' (e := 3) (base := w.heap.size) (ok := fun k_ => (some k_ ≠ (v636 : Value).ownBlock ∧ (some k_ ≠ (v644 : Value).ownBlock ∧ (some k_ ≠ (.slice Ao63 t646.length co63 : Value).ownBlock ∧ (some k_ ≠ (.slice Ao70 t651.length co70 : Value).ownBlock ∧ some k_ ≠ (.slice Ao86 t657.length co86 : Value).ownBlock))))) (n := t664.length) (c := co93) ?_).2.2; exact (kr ((Kd.R_mono (Kd.R_far (p := ⟨gb668, 1, none⟩) (Kd.R_far (p := ⟨gb668, 0, none⟩) (Kd.R_types HO666.out BK668.out (by decide)) (fun _ hk => hk.2) (.slice Ao93 t664.length co93)) (fun _ hk => hk.2) (.int .i64 t667)) (fun _ h_ => h_.1))))); (case side2 => exact (Kd.R_reads' HO666.out).2.1); (case side3 => refine (Kd.R_reads' (e := 3) (base := w.heap.size) (ok := fun k_ => (some k_ ≠ (v636 : Value).ownBlock ∧ (some k_ ≠ (v644 : Value).ownBlock ∧ (some k_ ≠ (.slice Ao70 t651.length co70 : Value).ownBlock ∧ (some k_ ≠ (.slice Ao86 t657.length co86 : Value).ownBlock ∧ some k_ ≠ (.slice Ao93 t664.length co93 : Value).ownBlock))))) (n := t646.length) (c := co63) ?_).2.2; exact (kr ((Kd.R_mono (Kd.R_far (p := ⟨gb668, 1, none⟩) (Kd.R_far (p := ⟨gb668, 0, none⟩) (Kd.R_types HO648.out BK668.out (by decide)) (fun _ hk => hk.2) (.slice Ao93 t664.length co93)) (fun _ hk => hk.2) (.int .i64 t667)) (fun _ h_ => h_.1))))); (case side4 => exact (Kd.R_reads' HO648.out).2.1); rintro e w105 ⟨rfl, hb⟩; refine ⟨_, rfl, ?_⟩; replace HO637 := Aside0.mk (Kd.R_below (kr ((Kd.R_mono (Kd.R_far (p := ⟨gb668, 1, none⟩) (Kd.R_far (p := ⟨gb668, 0, none⟩) (Kd.R_types HO637.out BK668.out (by decide)) (fun _ hk => hk.2) (.slice Ao93 t664.length co93)) (fun _ hk => hk.2) (.int .i64 t667)) (fun _ h_ => h_.1)))) hb); replace HO645 := Aside0.mk (Kd.R_below (kr ((Kd.R_mono (Kd.R_far (p := ⟨gb668, 1, none⟩) (Kd.R_far (p := ⟨gb668, 0, none⟩) (Kd.R_types HO645.out BK668.out (by decide)) (fun _ hk => hk.2) (.slice Ao93 t664.length co93)) (fun _ hk => hk.2) (.int .i64 t667)) (fun _ h_ => h_.1)))) hb); replace HO648 := Aside0.mk (Kd.R_below (kr ((Kd.R_mono (Kd.R_far (p := ⟨gb668, 1, none⟩) (Kd.R_far (p := ⟨gb668, 0, none⟩) (Kd.R_types HO648.out BK668.out (by decide)) (fun _ hk => hk.2) (.slice Ao93 t664.length co93)) (fun _ hk => hk.2) (.int .i64 t667)) (fun _ h_ => h_.1)))) hb); replace HO653 := Aside0.mk (Kd.R_below (kr ((Kd.R_mono (Kd.R_far (p := ⟨gb668, 1, none⟩) (Kd.R_far (p := ⟨gb668, 0, none⟩) (Kd.R_types HO653.out BK668.out (by decide)) (fun _ hk => hk.2) (.slice Ao93 t664.length co93)) (fun _ hk => hk.2) (.int .i64 t667)) (fun _ h_ => h_.1)))) hb); replace HO659 := Aside0.mk (Kd.R_below (kr ((Kd.R_mono (Kd.R_far (p := ⟨gb668, 1, none⟩) (Kd.R_far (p := ⟨gb668, 0, none⟩) (Kd.R_types HO659.out BK668.out (by decide)) (fun _ hk => hk.2) (.slice Ao93 t664.length co93)) (fun _ hk => hk.2) (.int .i64 t667)) (fun _ h_ => h_.1)))) hb); replace HO666 := Aside0.mk (Kd.R_below (kr ((Kd.R_mono (Kd.R_far (p := ⟨gb668, 1, none⟩) (Kd.R_far (p := ⟨gb668, 0, none⟩) (Kd.R_types HO666.out BK668.out (by decide)) (fun _ hk => hk.2) (.slice Ao93 t664.length co93)) (fun _ hk => hk.2) (.int .i64 t667)) (fun _ h_ => h_.1)))) hb); replace BK630 := Aside0.mk (blk_below (g := gb630) (o := .cells #[.slice A0_0 l0_0.length c0_0, .int .i64 a0_1] 58 (0, 0)) (by (with_reducible repeat (first | refine blk_drewN ?_ _ | refine blk_drew ?_ | refine blk_alloc ?_ _)); refine blk_far ?_ NB630_668.out _; (with_reducible repeat (first | refine blk_drewN ?_ _ | refine blk_drew ?_ | refine blk_alloc ?_ _)); refine blk_far ?_ NB630_668.out _; (with_reducible repeat (first | refine blk_drewN ?_ _ | refine blk_drew ?_ | refine blk_alloc ?_ _)); exact BK630.out) hb); replace BK631 := Aside0.mk (blk_below (g := gb631) (o := .cells #[.int .i64 a1_0, .int .i64 a1_1, .int .i64 a1_2] 60 (0, 0)) (by (with_reducible repeat (first | refine blk_drewN ?_ _ | refine blk_drew ?_ | refine blk_alloc ?_ _)); refine blk_far ?_ NB631_668.out _; (with_reducible repeat (first | refine blk_drewN ?_ _ | refine blk_drew ?_ | refine blk_alloc ?_ _)); refine blk_far ?_ NB631_668.out _; (with_reducible repeat (first | refine blk_drewN ?_ _ | refine blk_drew ?_ | refine blk_alloc ?_ _)); exact BK631.out) hb); replace BK632 := Aside0.mk (blk_below (g := gb632) (o := .cells #[.int .i64 a2_0, .slice A2_1 l2_1.length c2_1] 62 (0, 0)) (by (with_reducible repeat (first | refine blk_drewN ?_ _ | refine blk_drew ?_ | refine blk_alloc ?_ _)); refine blk_far ?_ NB632_668.out _; (with_reducible repeat (first | refine blk_drewN ?_ _ | refine blk_drew ?_ | refine blk_alloc ?_ _)); refine blk_far ?_ NB632_668.out _; (with_reducible repeat (first | refine blk_drewN ?_ _ | refine blk_drew ?_ | refine blk_alloc ?_ _)); exact BK632.out) hb); replace BK650 := Aside0.mk (blk_below (g := gb650) (o := .cells #[.slice Ao63 t646.length co63, .int .i64 t649] 65 (0, 0)) (by (with_reducible repeat (first | refine blk_drewN ?_ _ | refine blk_drew ?_ | refine blk_alloc ?_ _)); refine blk_far ?_ NB650_668.out _; (with_reducible repeat (first | refine blk_drewN ?_ _ | refine blk_drew ?_ | refine blk_alloc ?_ _)); refine blk_far ?_ NB650_668.out _; (with_reducible repeat (first | refine blk_drewN ?_ _ | refine blk_drew ?_ | refine blk_alloc ?_ _)); exact BK650.out) hb); replace BK655 := Aside0.mk (blk_below (g := gb655) (o := .cells #[.slice Ao70 t651.length co70, .int .i64 t654] 65 (0, 0)) (by (with_reducible repeat (first | refine blk_drewN ?_ _ | refine blk_drew ?_ | refine blk_alloc ?_ _)); refine blk_far ?_ NB655_668.out _; (with_reducible repeat (first | refine blk_drewN ?_ _ | refine blk_drew ?_ | refine blk_alloc ?_ _)); refine blk_far ?_ NB655_668.out _; (with_reducible repeat (first | refine blk_drewN ?_ _ | refine blk_drew ?_ | refine blk_alloc ?_ _)); exact BK655.out) hb); replace BK660 := Aside0.mk (blk_below (g := gb660) (o := .cells #[.int .i64 t656, .slice Ao86 t657.length co86] 70 (0, 0)) (by (with_reducible repeat (first | refine blk_drewN ?_ _ | refine blk_drew ?_ | refine blk_alloc ?_ _)); refine blk_far ?_ NB660_668.out _; (with_reducible repeat (first | refine blk_drewN ?_ _ | refine blk_drew ?_ | refine blk_alloc ?_ _)); refine blk_far ?_ NB660_668.out _; (with_reducible repeat (first | refine blk_drewN ?_ _ | refine blk_drew ?_ | refine blk_alloc ?_ _)); exact BK660.out) hb); replace BK668 := Aside0.mk (blk_below (g := gb668) (o := .cells #[.slice Ao93 t664.length co93, .int .i64 t667] 65 (0, 0)) (by (with_reducible repeat (first | refine blk_drewN ?_ _ | refine blk_drew ?_ | refine blk_alloc ?_ _)); refine blk_put (cs := #[.slice Ao93 t664.length co93, .int .i64 0]) ?_ 1 _ rfl; (with_reducible repeat (first | refine blk_drewN ?_ _ | refine blk_drew ?_ | refine blk_alloc ?_ _)); refine blk_put (cs := #[.slice none 0 0, .int .i64 0]) ?_ 0 _ rfl; (with_reducible repeat (first | refine blk_drewN ?_ _ | refine blk_drew ?_ | refine blk_alloc ?_ _)); exact BK668.out) hb); replace HB := bs HB hb; (try clear hb); (try clear hb2); (try clear hk); (try clear hi)))
      replace HO637 := rd_ HO637
      replace HO645 := rd_ HO645
      replace HO648 := rd_ HO648
      replace HO653 := rd_ HO653
      replace HO659 := rd_ HO659
      replace HO666 := rd_ HO666
      replace BK630 := bd BK630
      replace BK631 := bd BK631
      replace BK632 := bd BK632
      replace BK650 := bd BK650
      replace BK655 := bd BK655
      replace BK660 := bd BK660
      replace BK668 := bd BK668
      replace HB := Aside0.mk (below_drew1 HB.out)
      refine start_ (n := 5) (S := fun w' => w'.cell? ⟨gb655, 0, none⟩ = some (.slice Ao70 t651.length co70) ∧ w'.cell? ⟨gb655, 1, none⟩ = some (.int .i64 t654) ∧ w'.cell? ⟨gb630, 0, none⟩ = some (.slice A0_0 l0_0.length c0_0) ∧ w'.cell? ⟨gb630, 1, none⟩ = some (.int .i64 a0_1)) (ds := []) #[false, false, false, false, false] (by kernel_rfl) rfl rfl ⟨cz BK655 0, cz BK655 1, cz BK630 0, cz BK630 1⟩ (fun hHeld => ?_)
      generalize w105.drew = w106 at HO637 HO645 HO648 HO653 HO659 HO666 BK630 BK631 BK632 BK650 BK655 BK660 BK668 HB hHeld ⊢
      refine ta 0 46 ?_
      refine ta 1 47 ?_
      refine one_ (i := 2) (N := some 48) #[true, true, true, false, false] rfl rfl (by kernel_rfl) (by decide) (fun K hK => ?_)
      refine gS Try.func35 #[.agg #[.slice A0_0 l0_0.length c0_0, .int .i64 a0_1]] ?_
      with_reducible refine (laws_toRows.calls k _ _ l0_0 a0_1 t670 t673 _ ?side1 ?side2 A35.out).mono ?_
      (case side1 => exact kc HR0_0 HB)
      (case side2 => exact HC0_0.out)
      rintro e w107 ⟨v671, rfl, ho0, hb⟩
      refine ⟨_, rfl, ?_⟩
      have HO672 := Aside0.mk (Kd.R_lower (Kd.R_new' (Kd.R_new' (Kd.R_new' (Kd.R_new' (Kd.R_new' (Kd.R_new' ho0 (Kd.R_lt (kr HO637.out))) (Kd.R_lt (kr HO645.out))) (Kd.R_lt (kr HO648.out))) (Kd.R_lt (kr HO653.out))) (Kd.R_lt (kr HO659.out))) (Kd.R_lt (kr HO666.out))) (below_size (tb HB)))
      replace HO637 := Aside0.mk (Kd.R_elder' (kr HO637.out) (Kd.R_base ho0) hb)
      replace HO645 := Aside0.mk (Kd.R_elder' (kr HO645.out) (Kd.R_base ho0) hb)
      replace HO648 := Aside0.mk (Kd.R_elder' (kr HO648.out) (Kd.R_base ho0) hb)
      replace HO653 := Aside0.mk (Kd.R_elder' (kr HO653.out) (Kd.R_base ho0) hb)
      replace HO659 := Aside0.mk (Kd.R_elder' (kr HO659.out) (Kd.R_base ho0) hb)
      replace HO666 := Aside0.mk (Kd.R_elder' (kr HO666.out) (Kd.R_base ho0) hb)
      replace BK630 := bb BK630 hb
      replace BK631 := bb BK631 hb
      replace BK632 := bb BK632 hb
      replace BK650 := bb BK650 hb
      replace BK655 := bb BK655 hb
      replace BK660 := bb BK660 hb
      replace BK668 := bb BK668 hb
      replace HB := bs HB hb
      (try clear hb)
      (try clear hb2)
      (try clear hk)
      (try clear hi)
      (try clear ho0)
      obtain ⟨Ao108, co108, eo108⟩ := Kd.R_slice HO672.out
      (first | subst eo108 | (injection eo108 with f1_ f2_ f3_; have f4_ := f1_.symm; have f5_ := f3_.symm; clear f1_ f2_ f3_; subst f4_; subst f5_))
      refine hK.out _ _ ⟨cz BK655 0, cz BK655 1, cz BK630 0, cz BK630 1⟩ (fun hHeld => ?_)
      clear hK K
      refine nm 48 ?_
      refine one_ (i := 3) (N := some 49) #[true, true, true, true, false] rfl rfl (by kernel_rfl) (by decide) (fun K hK => ?_)
      refine gS Try.func39 #[.agg #[.slice Ao70 t651.length co70, .int .i64 t654], .agg #[.slice Ao108 t670.length co108, .int .i64 t673]] ?_
      with_reducible refine (laws_eqRows.calls k _ _ t651 t654 _ _ t670 t673 true _ ?side1 ?side2 ?side3 ?side4 A36.out).mono ?_
      (case side1 => repeat (first | exact (Kd.R_reads' HO653.out).2.2 | (with_reducible refine Kd.C_alloc ?_ _) | (with_reducible refine Kd.C_drewN ?_ _) | (with_reducible refine Kd.C_drew ?_)))
      (case side2 => exact (Kd.R_reads' HO653.out).2.1)
      (case side3 => repeat (first | exact (Kd.R_reads' HO672.out).2.2 | (with_reducible refine Kd.C_alloc ?_ _) | (with_reducible refine Kd.C_drewN ?_ _) | (with_reducible refine Kd.C_drew ?_)))
      (case side4 => exact (Kd.R_reads' HO672.out).2.1)
      rintro e w109 ⟨rfl, hb⟩
      refine ⟨_, rfl, ?_⟩
      replace HO637 := rb HO637 hb
      replace HO645 := rb HO645 hb
      replace HO648 := rb HO648 hb
      replace HO653 := rb HO653 hb
      replace HO659 := rb HO659 hb
      replace HO666 := rb HO666 hb
      replace HO672 := rb HO672 hb
      replace BK630 := bb BK630 hb
      replace BK631 := bb BK631 hb
      replace BK632 := bb BK632 hb
      replace BK650 := bb BK650 hb
      replace BK655 := bb BK655 hb
      replace BK660 := bb BK660 hb
      replace BK668 := bb BK668 hb
      replace HB := bs HB hb
      (try clear hb)
      (try clear hb2)
      (try clear hk)
      (try clear hi)
      refine hK.out _ _ ⟨cz BK655 0, cz BK655 1, cz BK630 0, cz BK630 1⟩ (fun hHeld => ?_)
      clear hK K
      refine nm 49 ?_
      refine pu 4 50 ?_
      refine done_ (by kernel_rfl) ?_
      try go_wp2
      replace HO637 := rd_ HO637
      replace HO645 := rd_ HO645
      replace HO648 := rd_ HO648
      replace HO653 := rd_ HO653
      replace HO659 := rd_ HO659
      replace HO666 := rd_ HO666
      replace HO672 := rd_ HO672
      replace BK630 := bd BK630
      replace BK631 := bd BK631
      replace BK632 := bd BK632
      replace BK650 := bd BK650
      replace BK655 := bd BK655
      replace BK660 := bd BK660
      replace BK668 := bd BK668
      replace HB := Aside0.mk (below_drew1 HB.out)
      refine start_ (n := 5) (S := fun w' => w'.cell? ⟨gb660, 0, none⟩ = some (.int .i64 t656) ∧ w'.cell? ⟨gb660, 1, none⟩ = some (.slice Ao86 t657.length co86) ∧ w'.cell? ⟨gb632, 0, none⟩ = some (.int .i64 a2_0) ∧ w'.cell? ⟨gb632, 1, none⟩ = some (.slice A2_1 l2_1.length c2_1)) (ds := []) #[false, false, false, false, false] (by kernel_rfl) rfl rfl ⟨cz BK660 0, cz BK660 1, cz BK632 0, cz BK632 1⟩ (fun hHeld => ?_)
      generalize w109.drew = w110 at HO637 HO645 HO648 HO653 HO659 HO666 HO672 BK630 BK631 BK632 BK650 BK655 BK660 BK668 HB hHeld ⊢
      refine ta 0 51 ?_
      refine ta 1 52 ?_
      refine one_ (i := 2) (N := some 53) #[true, true, true, false, false] rfl rfl (by kernel_rfl) (by decide) (fun K hK => ?_)
      refine gS Try.func37 #[.agg #[.int .i64 a2_0, .slice A2_1 l2_1.length c2_1]] ?_
      with_reducible refine (laws_toRes.calls k a2_0 _ _ l2_1 t675 t676 _ ?side1 ?side2 A38.out).mono ?_
      (case side1 => exact kc HR2_1 HB)
      (case side2 => exact HC2_1.out)
      rintro e w111 ⟨v677, rfl, ho0, hb⟩
      refine ⟨_, rfl, ?_⟩
      have HO678 := Aside0.mk (Kd.R_lower (Kd.R_new' (Kd.R_new' (Kd.R_new' (Kd.R_new' (Kd.R_new' (Kd.R_new' (Kd.R_new' ho0 (Kd.R_lt (kr HO637.out))) (Kd.R_lt (kr HO645.out))) (Kd.R_lt (kr HO648.out))) (Kd.R_lt (kr HO653.out))) (Kd.R_lt (kr HO659.out))) (Kd.R_lt (kr HO666.out))) (Kd.R_lt (kr HO672.out))) (below_size (tb HB)))
      replace HO637 := Aside0.mk (Kd.R_elder' (kr HO637.out) (Kd.R_base ho0) hb)
      replace HO645 := Aside0.mk (Kd.R_elder' (kr HO645.out) (Kd.R_base ho0) hb)
      replace HO648 := Aside0.mk (Kd.R_elder' (kr HO648.out) (Kd.R_base ho0) hb)
      replace HO653 := Aside0.mk (Kd.R_elder' (kr HO653.out) (Kd.R_base ho0) hb)
      replace HO659 := Aside0.mk (Kd.R_elder' (kr HO659.out) (Kd.R_base ho0) hb)
      replace HO666 := Aside0.mk (Kd.R_elder' (kr HO666.out) (Kd.R_base ho0) hb)
      replace HO672 := Aside0.mk (Kd.R_elder' (kr HO672.out) (Kd.R_base ho0) hb)
      replace BK630 := bb BK630 hb
      replace BK631 := bb BK631 hb
      replace BK632 := bb BK632 hb
      replace BK650 := bb BK650 hb
      replace BK655 := bb BK655 hb
      replace BK660 := bb BK660 hb
      replace BK668 := bb BK668 hb
      replace HB := bs HB hb
      (try clear hb)
      (try clear hb2)
      (try clear hk)
      (try clear hi)
      (try clear ho0)
      obtain ⟨Ao112, co112, eo112⟩ := Kd.R_slice HO678.out
      (first | subst eo112 | (injection eo112 with f1_ f2_ f3_; have f4_ := f1_.symm; have f5_ := f3_.symm; clear f1_ f2_ f3_; subst f4_; subst f5_))
      refine hK.out _ _ ⟨cz BK660 0, cz BK660 1, cz BK632 0, cz BK632 1⟩ (fun hHeld => ?_)
      clear hK K
      refine nm 53 ?_
      refine one_ (i := 3) (N := some 54) #[true, true, true, true, false] rfl rfl (by kernel_rfl) (by decide) (fun K hK => ?_)
      refine gS Try.func40 #[.agg #[.int .i64 t656, .slice Ao86 t657.length co86], .agg #[.int .i64 t675, .slice Ao112 t676.length co112]] ?_
      with_reducible refine (laws_eqRes.calls k t656 _ _ t657 t675 _ _ t676 true _ ?side1 ?side2 ?side3 ?side4 A39.out).mono ?_
      (case side1 => repeat (first | exact (Kd.R_reads' HO659.out).2.2 | (with_reducible refine Kd.C_alloc ?_ _) | (with_reducible refine Kd.C_drewN ?_ _) | (with_reducible refine Kd.C_drew ?_)))
      (case side2 => exact (Kd.R_reads' HO659.out).2.1)
      (case side3 => repeat (first | exact (Kd.R_reads' HO678.out).2.2 | (with_reducible refine Kd.C_alloc ?_ _) | (with_reducible refine Kd.C_drewN ?_ _) | (with_reducible refine Kd.C_drew ?_)))
      (case side4 => exact (Kd.R_reads' HO678.out).2.1)
      rintro e w113 ⟨rfl, hb⟩
      refine ⟨_, rfl, ?_⟩
      replace HO637 := rb HO637 hb
      replace HO645 := rb HO645 hb
      replace HO648 := rb HO648 hb
      replace HO653 := rb HO653 hb
      replace HO659 := rb HO659 hb
      replace HO666 := rb HO666 hb
      replace HO672 := rb HO672 hb
      replace HO678 := rb HO678 hb
      replace BK630 := bb BK630 hb
      replace BK631 := bb BK631 hb
      replace BK632 := bb BK632 hb
      replace BK650 := bb BK650 hb
      replace BK655 := bb BK655 hb
      replace BK660 := bb BK660 hb
      replace BK668 := bb BK668 hb
      replace HB := bs HB hb
      (try clear hb)
      (try clear hb2)
      (try clear hk)
      (try clear hi)
      refine hK.out _ _ ⟨cz BK660 0, cz BK660 1, cz BK632 0, cz BK632 1⟩ (fun hHeld => ?_)
      clear hK K
      refine nm 54 ?_
      refine pu 4 55 ?_
      refine done_ (by kernel_rfl) ?_
      obtain ⟨hcz114_0, hcz114_1, hfz114_0, hfz114_1⟩ := c2 BK655
      go_upto_region 21 with (first | ((with_reducible refine gate_callee (f := 41) rfl ?_); refine gL 58 Try.func41 #[.agg #[.slice Ao70 t651.length co70, .int .i64 t654], .int .i64 1] ?_; (with_reducible refine (laws_markRows.calls k (fun k_ => some k_ = (.slice Ao70 t651.length co70 : Value).ownBlock) (.slice Ao70 t651.length co70) t651 t654 1 t680 t681 w _ ?side1 ?side2 A41.out).mono ?_); (case side1 => repeat (first | (with_reducible first | exact HB.out | apply below_alloc | apply pw_below_drewN | apply below_drew1 | refine below_set ?_ GE630.out | refine below_set ?_ GE631.out | refine below_set ?_ GE632.out | refine below_set ?_ GE650.out | refine below_set ?_ GE655.out | refine below_set ?_ GE660.out | refine below_set ?_ GE668.out) | exact HB.out)); (case side2 => exact Kd.R_tight rfl HO653.out); rintro e w115 ⟨rfl, hy0, hb, hkp⟩; refine ⟨_, rfl, ?_⟩; replace BK630 := Aside0.mk (blk_kept (bk BK630) hkp (fun hs_ => (fun e_ => (Kd.R_ne HO653.out BK630.out (by decide)) e_) hs_)); replace BK631 := Aside0.mk (blk_kept (bk BK631) hkp (fun hs_ => (fun e_ => (Kd.R_ne HO653.out BK631.out (by decide)) e_) hs_)); replace BK632 := Aside0.mk (blk_kept (bk BK632) hkp (fun hs_ => (fun e_ => (Kd.R_ne HO653.out BK632.out (by decide)) e_) hs_)); replace HO637 := Aside0.mk (Kd.R_mono (ok' := fun k_ => some k_ ≠ (v644 : Value).ownBlock ∧ some k_ ≠ (.slice Ao63 t646.length co63 : Value).ownBlock ∧ some k_ ≠ (.slice Ao70 t651.length co70 : Value).ownBlock ∧ some k_ ≠ (.slice Ao86 t657.length co86 : Value).ownBlock ∧ some k_ ≠ (.slice Ao93 t664.length co93 : Value).ownBlock ∧ some k_ ≠ (.slice Ao108 t670.length co108 : Value).ownBlock ∧ some k_ ≠ (.slice Ao112 t676.length co112 : Value).ownBlock) (Kd.R_keptB (HO637.out) hkp (fun k_ hk_ hs_ => (hk_.1.1.2.2.1) hs_)) (fun k_ hk_ => ⟨hk_.1.1.1.1, hk_.1.1.1.2.1, hk_.1.1.1.2.2.1, hk_.1.1.1.2.2.2.1, hk_.1.1.1.2.2.2.2, hk_.1.1.2, hk_.1.2⟩)); replace HO645 := Aside0.mk (Kd.R_mono (ok' := fun k_ => some k_ ≠ (v636 : Value).ownBlock ∧ some k_ ≠ (.slice Ao63 t646.length co63 : Value).ownBlock ∧ some k_ ≠ (.slice Ao70 t651.length co70 : Value).ownBlock ∧ some k_ ≠ (.slice Ao86 t657.length co86 : Value).ownBlock ∧ some k_ ≠ (.slice Ao93 t664.length co93 : Value).ownBlock ∧ some k_ ≠ (.slice Ao108 t670.length co108 : Value).ownBlock ∧ some k_ ≠ (.slice Ao112 t676.length co112 : Value).ownBlock) (Kd.R_keptB (HO645.out) hkp (fun k_ hk_ hs_ => (hk_.1.1.2.2.1) hs_)) (fun k_ hk_ => ⟨hk_.1.1.1.1, hk_.1.1.1.2.1, hk_.1.1.1.2.2.1, hk_.1.1.1.2.2.2.1, hk_.1.1.1.2.2.2.2, hk_.1.1.2, hk_.1.2⟩)); replace HO648 := Aside0.mk (Kd.R_mono (ok' := fun k_ => some k_ ≠ (v636 : Value).ownBlock ∧ some k_ ≠ (v644 : Value).ownBlock ∧ some k_ ≠ (.slice Ao70 t651.length co70 : Value).ownBlock ∧ some k_ ≠ (.slice Ao86 t657.length co86 : Value).ownBlock ∧ some k_ ≠ (.slice Ao93 t664.length co93 : Value).ownBlock ∧ some k_ ≠ (.slice Ao108 t670.length co108 : Value).ownBlock ∧ some k_ ≠ (.slice Ao112 t676.length co112 : Value).ownBlock) (Kd.R_keptB (HO648.out) hkp (fun k_ hk_ hs_ => (hk_.1.1.2.2.1) hs_)) (fun k_ hk_ => ⟨hk_.1.1.1.1, hk_.1.1.1.2.1, hk_.1.1.1.2.2.1, hk_.1.1.1.2.2.2.1, hk_.1.1.1.2.2.2.2, hk_.1.1.2, hk_.1.2⟩)); replace BK650 := Aside0.mk (blk_kept (bk BK650) hkp (fun hs_ => (fun e_ => (Kd.R_ne HO653.out BK650.out (by decide)) e_) hs_)); replace BK655 := Aside0.mk (blk_kept (bk BK655) hkp (fun hs_ => (fun e_ => (Kd.R_ne HO653.out BK655.out (by decide)) e_) hs_)); replace HO659 := Aside0.mk (Kd.R_mono (ok' := fun k_ => some k_ ≠ (v636 : Value).ownBlock ∧ some k_ ≠ (v644 : Value).ownBlock ∧ some k_ ≠ (.slice Ao63 t646.length co63 : Value).ownBlock ∧ some k_ ≠ (.slice Ao70 t651.length co70 : Value).ownBlock ∧ some k_ ≠ (.slice Ao93 t664.length co93 : Value).ownBlock ∧ some k_ ≠ (.slice Ao108 t670.length co108 : Value).ownBlock ∧ some k_ ≠ (.slice Ao112 t676.length co112 : Value).ownBlock) (Kd.R_keptB (HO659.out) hkp (fun k_ hk_ hs_ => (hk_.1.1.2.2.2.1) hs_)) (fun k_ hk_ => ⟨hk_.1.1.1.1, hk_.1.1.1.2.1, hk_.1.1.1.2.2.1, hk_.1.1.1.2.2.2.1, hk_.1.1.1.2.2.2.2, hk_.1.1.2, hk_.1.2⟩)); replace BK660 := Aside0.mk (blk_kept (bk BK660) hkp (fun hs_ => (fun e_ => (Kd.R_ne HO653.out BK660.out (by decide)) e_) hs_)); replace HO666 := Aside0.mk (Kd.R_mono (ok' := fun k_ => some k_ ≠ (v636 : Value).ownBlock ∧ some k_ ≠ (v644 : Value).ownBlock ∧ some k_ ≠ (.slice Ao63 t646.length co63 : Value).ownBlock ∧ some k_ ≠ (.slice Ao70 t651.length co70 : Value).ownBlock ∧ some k_ ≠ (.slice Ao86 t657.length co86 : Value).ownBlock ∧ some k_ ≠ (.slice Ao108 t670.length co108 : Value).ownBlock ∧ some k_ ≠ (.slice Ao112 t676.length co112 : Value).ownBlock) (Kd.R_keptB (HO666.out) hkp (fun k_ hk_ hs_ => (hk_.1.1.2.2.2.1) hs_)) (fun k_ hk_ => ⟨hk_.1.1.1.1, hk_.1.1.1.2.1, hk_.1.1.1.2.2.1, hk_.1.1.1.2.2.2.1, hk_.1.1.1.2.2.2.2, hk_.1.1.2, hk_.1.2⟩)); replace BK668 := Aside0.mk (blk_kept (bk BK668) hkp (fun hs_ => (fun e_ => (Kd.R_ne HO653.out BK668.out (by decide)) e_) hs_)); replace HO653 := Aside0.mk (Kd.R_reok rfl hy0 (fun k_ e_ => HO653.out.1 k_ e_)); replace HO672 := Aside0.mk (Kd.R_mono (ok' := fun k_ => some k_ ≠ (v636 : Value).ownBlock ∧ some k_ ≠ (v644 : Value).ownBlock ∧ some k_ ≠ (.slice Ao63 t646.length co63 : Value).ownBlock ∧ some k_ ≠ (.slice Ao70 t651.length co70 : Value).ownBlock ∧ some k_ ≠ (.slice Ao86 t657.length co86 : Value).ownBlock ∧ some k_ ≠ (.slice Ao93 t664.length co93 : Value).ownBlock ∧ some k_ ≠ (.slice Ao112 t676.length co112 : Value).ownBlock) (Kd.R_keptB (HO672.out) hkp (fun k_ hk_ hs_ => (hk_.1.1.1.2) hs_)) (fun k_ hk_ => ⟨hk_.1.1.1.1.1.1.1.2, hk_.1.1.1.1.1.1.2, hk_.1.1.1.1.1.2, hk_.1.1.1.1.2, hk_.1.1.1.2, hk_.1.1.2, hk_.1.2⟩)); replace HO678 := Aside0.mk (Kd.R_mono (ok' := fun k_ => some k_ ≠ (v636 : Value).ownBlock ∧ some k_ ≠ (v644 : Value).ownBlock ∧ some k_ ≠ (.slice Ao63 t646.length co63 : Value).ownBlock ∧ some k_ ≠ (.slice Ao70 t651.length co70 : Value).ownBlock ∧ some k_ ≠ (.slice Ao86 t657.length co86 : Value).ownBlock ∧ some k_ ≠ (.slice Ao93 t664.length co93 : Value).ownBlock ∧ some k_ ≠ (.slice Ao108 t670.length co108 : Value).ownBlock) (Kd.R_keptB (HO678.out) hkp (fun k_ hk_ hs_ => (hk_.1.1.1.2) hs_)) (fun k_ hk_ => ⟨hk_.1.1.1.1.1.1.1.2, hk_.1.1.1.1.1.1.2, hk_.1.1.1.1.1.2, hk_.1.1.1.1.2, hk_.1.1.1.2, hk_.1.1.2, hk_.1.2⟩)); replace HB := Aside0.mk (hb); (try clear hb); (try clear hkp); (try clear hy0); obtain ⟨hcz116_0, hcz116_1, hfz116_0, hfz116_1⟩ := c2 BK660) | ((with_reducible refine gate_callee (f := 42) rfl ?_); refine gL 61 Try.func42 #[.agg #[.int .i64 t656, .slice Ao86 t657.length co86], .int .i64 t680] ?_; (with_reducible refine (laws_markRes.calls k t656 (fun k_ => some k_ = (.slice Ao86 t657.length co86 : Value).ownBlock) (.slice Ao86 t657.length co86) t657 t680 t682 t683 w _ ?side1 ?side2 A42.out).mono ?_); (case side1 => repeat (first | (with_reducible first | exact HB.out | apply below_alloc | apply pw_below_drewN | apply below_drew1 | refine below_set ?_ GE630.out | refine below_set ?_ GE631.out | refine below_set ?_ GE632.out | refine below_set ?_ GE650.out | refine below_set ?_ GE655.out | refine below_set ?_ GE660.out | refine below_set ?_ GE668.out) | exact HB.out)); (case side2 => exact Kd.R_tight rfl HO659.out); rintro e w117 ⟨rfl, hy0, hb, hkp⟩; refine ⟨_, rfl, ?_⟩; replace BK630 := Aside0.mk (blk_kept (bk BK630) hkp (fun hs_ => (fun e_ => (Kd.R_ne HO659.out BK630.out (by decide)) e_) hs_)); replace BK631 := Aside0.mk (blk_kept (bk BK631) hkp (fun hs_ => (fun e_ => (Kd.R_ne HO659.out BK631.out (by decide)) e_) hs_)); replace BK632 := Aside0.mk (blk_kept (bk BK632) hkp (fun hs_ => (fun e_ => (Kd.R_ne HO659.out BK632.out (by decide)) e_) hs_)); replace HO637 := Aside0.mk (Kd.R_mono (ok' := fun k_ => some k_ ≠ (v644 : Value).ownBlock ∧ some k_ ≠ (.slice Ao63 t646.length co63 : Value).ownBlock ∧ some k_ ≠ (.slice Ao70 t651.length co70 : Value).ownBlock ∧ some k_ ≠ (.slice Ao86 t657.length co86 : Value).ownBlock ∧ some k_ ≠ (.slice Ao93 t664.length co93 : Value).ownBlock ∧ some k_ ≠ (.slice Ao108 t670.length co108 : Value).ownBlock ∧ some k_ ≠ (.slice Ao112 t676.length co112 : Value).ownBlock) (Kd.R_keptB (HO637.out) hkp (fun k_ hk_ hs_ => (hk_.2.2.2.1) hs_)) (fun k_ hk_ => ⟨hk_.1.1, hk_.1.2.1, hk_.1.2.2.1, hk_.1.2.2.2.1, hk_.1.2.2.2.2.1, hk_.1.2.2.2.2.2.1, hk_.1.2.2.2.2.2.2⟩)); replace HO645 := Aside0.mk (Kd.R_mono (ok' := fun k_ => some k_ ≠ (v636 : Value).ownBlock ∧ some k_ ≠ (.slice Ao63 t646.length co63 : Value).ownBlock ∧ some k_ ≠ (.slice Ao70 t651.length co70 : Value).ownBlock ∧ some k_ ≠ (.slice Ao86 t657.length co86 : Value).ownBlock ∧ some k_ ≠ (.slice Ao93 t664.length co93 : Value).ownBlock ∧ some k_ ≠ (.slice Ao108 t670.length co108 : Value).ownBlock ∧ some k_ ≠ (.slice Ao112 t676.length co112 : Value).ownBlock) (Kd.R_keptB (HO645.out) hkp (fun k_ hk_ hs_ => (hk_.2.2.2.1) hs_)) (fun k_ hk_ => ⟨hk_.1.1, hk_.1.2.1, hk_.1.2.2.1, hk_.1.2.2.2.1, hk_.1.2.2.2.2.1, hk_.1.2.2.2.2.2.1, hk_.1.2.2.2.2.2.2⟩)); replace HO648 := Aside0.mk (Kd.R_mono (ok' := fun k_ => some k_ ≠ (v636 : Value).ownBlock ∧ some k_ ≠ (v644 : Value).ownBlock ∧ some k_ ≠ (.slice Ao70 t651.length co70 : Value).ownBlock ∧ some k_ ≠ (.slice Ao86 t657.length co86 : Value).ownBlock ∧ some k_ ≠ (.slice Ao93 t664.length co93 : Value).ownBlock ∧ some k_ ≠ (.slice Ao108 t670.length co108 : Value).ownBlock ∧ some k_ ≠ (.slice Ao112 t676.length co112 : Value).ownBlock) (Kd.R_keptB (HO648.out) hkp (fun k_ hk_ hs_ => (hk_.2.2.2.1) hs_)) (fun k_ hk_ => ⟨hk_.1.1, hk_.1.2.1, hk_.1.2.2.1, hk_.1.2.2.2.1, hk_.1.2.2.2.2.1, hk_.1.2.2.2.2.2.1, hk_.1.2.2.2.2.2.2⟩)); replace BK650 := Aside0.mk (blk_kept (bk BK650) hkp (fun hs_ => (fun e_ => (Kd.R_ne HO659.out BK650.out (by decide)) e_) hs_)); replace HO653 := Aside0.mk (Kd.R_mono (ok' := fun k_ => some k_ ≠ (v636 : Value).ownBlock ∧ some k_ ≠ (v644 : Value).ownBlock ∧ some k_ ≠ (.slice Ao63 t646.length co63 : Value).ownBlock ∧ some k_ ≠ (.slice Ao86 t657.length co86 : Value).ownBlock ∧ some k_ ≠ (.slice Ao93 t664.length co93 : Value).ownBlock ∧ some k_ ≠ (.slice Ao108 t670.length co108 : Value).ownBlock ∧ some k_ ≠ (.slice Ao112 t676.length co112 : Value).ownBlock) (Kd.R_keptB (HO653.out) hkp (fun k_ hk_ hs_ => (hk_.1.1.2.2.2.1) hs_)) (fun k_ hk_ => ⟨hk_.1.1.1.1, hk_.1.1.1.2.1, hk_.1.1.1.2.2.1, hk_.1.1.1.2.2.2.1, hk_.1.1.1.2.2.2.2, hk_.1.1.2, hk_.1.2⟩)); replace BK655 := Aside0.mk (blk_kept (bk BK655) hkp (fun hs_ => (fun e_ => (Kd.R_ne HO659.out BK655.out (by decide)) e_) hs_)); replace BK660 := Aside0.mk (blk_kept (bk BK660) hkp (fun hs_ => (fun e_ => (Kd.R_ne HO659.out BK660.out (by decide)) e_) hs_)); replace HO666 := Aside0.mk (Kd.R_mono (ok' := fun k_ => some k_ ≠ (v636 : Value).ownBlock ∧ some k_ ≠ (v644 : Value).ownBlock ∧ some k_ ≠ (.slice Ao63 t646.length co63 : Value).ownBlock ∧ some k_ ≠ (.slice Ao70 t651.length co70 : Value).ownBlock ∧ some k_ ≠ (.slice Ao86 t657.length co86 : Value).ownBlock ∧ some k_ ≠ (.slice Ao108 t670.length co108 : Value).ownBlock ∧ some k_ ≠ (.slice Ao112 t676.length co112 : Value).ownBlock) (Kd.R_keptB (HO666.out) hkp (fun k_ hk_ hs_ => (hk_.2.2.2.2.1) hs_)) (fun k_ hk_ => ⟨hk_.1.1, hk_.1.2.1, hk_.1.2.2.1, hk_.1.2.2.2.1, hk_.1.2.2.2.2.1, hk_.1.2.2.2.2.2.1, hk_.1.2.2.2.2.2.2⟩)); replace BK668 := Aside0.mk (blk_kept (bk BK668) hkp (fun hs_ => (fun e_ => (Kd.R_ne HO659.out BK668.out (by decide)) e_) hs_)); replace HO659 := Aside0.mk (Kd.R_reok rfl hy0 (fun k_ e_ => HO659.out.1 k_ e_)); replace HO672 := Aside0.mk (Kd.R_mono (ok' := fun k_ => some k_ ≠ (v636 : Value).ownBlock ∧ some k_ ≠ (v644 : Value).ownBlock ∧ some k_ ≠ (.slice Ao63 t646.length co63 : Value).ownBlock ∧ some k_ ≠ (.slice Ao70 t651.length co70 : Value).ownBlock ∧ some k_ ≠ (.slice Ao86 t657.length co86 : Value).ownBlock ∧ some k_ ≠ (.slice Ao93 t664.length co93 : Value).ownBlock ∧ some k_ ≠ (.slice Ao112 t676.length co112 : Value).ownBlock) (Kd.R_keptB (HO672.out) hkp (fun k_ hk_ hs_ => (hk_.2.2.2.2.1) hs_)) (fun k_ hk_ => ⟨hk_.1.1, hk_.1.2.1, hk_.1.2.2.1, hk_.1.2.2.2.1, hk_.1.2.2.2.2.1, hk_.1.2.2.2.2.2.1, hk_.1.2.2.2.2.2.2⟩)); replace HO678 := Aside0.mk (Kd.R_mono (ok' := fun k_ => some k_ ≠ (v636 : Value).ownBlock ∧ some k_ ≠ (v644 : Value).ownBlock ∧ some k_ ≠ (.slice Ao63 t646.length co63 : Value).ownBlock ∧ some k_ ≠ (.slice Ao70 t651.length co70 : Value).ownBlock ∧ some k_ ≠ (.slice Ao86 t657.length co86 : Value).ownBlock ∧ some k_ ≠ (.slice Ao93 t664.length co93 : Value).ownBlock ∧ some k_ ≠ (.slice Ao108 t670.length co108 : Value).ownBlock) (Kd.R_keptB (HO678.out) hkp (fun k_ hk_ hs_ => (hk_.2.2.2.2.1) hs_)) (fun k_ hk_ => ⟨hk_.1.1, hk_.1.2.1, hk_.1.2.2.1, hk_.1.2.2.2.1, hk_.1.2.2.2.2.1, hk_.1.2.2.2.2.2.1, hk_.1.2.2.2.2.2.2⟩)); replace HB := Aside0.mk (hb); (try clear hb); (try clear hkp); (try clear hy0)))
      (try simp only [Act.put, sA, sB, sC])
      go_cut [69] (fun v69 wc => ∃ (kq : Nat) (x69_42 : Bool), v69 = .bool x69_42 ∧ Aside0 (laws_FnExactAfter.j0 kq x69_42 l0_0 a0_1 a1_0 a1_1 a1_2 a2_0 l2_1 t646 t649 t664 t667 = some r) ∧ Aside0 (kq ≤ k) ∧ Aside0 (Kd.R (Kd.int .i64) 3 wc w.heap.size (fun k_ => some k_ ≠ ((.slice Ao70 t651.length co70) : Value).ownBlock ∧ some k_ ≠ ((.slice Ao86 t657.length co86) : Value).ownBlock ∧ some k_ ≠ ((.slice Ao93 t664.length co93) : Value).ownBlock) (.slice Ao63 t646.length co63) t646) ∧ Aside0 (Kd.R (Kd.int .i64) 3 wc w.heap.size (fun k_ => some k_ ≠ ((.slice Ao63 t646.length co63) : Value).ownBlock ∧ some k_ ≠ ((.slice Ao86 t657.length co86) : Value).ownBlock ∧ some k_ ≠ ((.slice Ao93 t664.length co93) : Value).ownBlock) (.slice Ao70 t651.length co70) t681) ∧ Aside0 (Kd.R (Kd.int .i64) 3 wc w.heap.size (fun k_ => some k_ ≠ ((.slice Ao63 t646.length co63) : Value).ownBlock ∧ some k_ ≠ ((.slice Ao70 t651.length co70) : Value).ownBlock ∧ some k_ ≠ ((.slice Ao93 t664.length co93) : Value).ownBlock) (.slice Ao86 t657.length co86) t683) ∧ Aside0 (Kd.R (Kd.int .i64) 3 wc w.heap.size (fun k_ => some k_ ≠ ((.slice Ao63 t646.length co63) : Value).ownBlock ∧ some k_ ≠ ((.slice Ao70 t651.length co70) : Value).ownBlock ∧ some k_ ≠ ((.slice Ao86 t657.length co86) : Value).ownBlock) (.slice Ao93 t664.length co93) t664) ∧ Aside0 (wc.heap[gb630]? = some (.cells #[(.slice A0_0 l0_0.length c0_0), .int .i64 a0_1] 58 (0, 0))) ∧ Aside0 (wc.heap[gb631]? = some (.cells #[.int .i64 a1_0, .int .i64 a1_1, .int .i64 a1_2] 60 (0, 0))) ∧ Aside0 (wc.heap[gb632]? = some (.cells #[.int .i64 a2_0, (.slice A2_1 l2_1.length c2_1)] 62 (0, 0))) ∧ Aside0 (wc.heap[gb650]? = some (.cells #[(.slice Ao63 t646.length co63), .int .i64 t649] 65 (0, 0))) ∧ Aside0 (wc.heap[gb655]? = some (.cells #[(.slice Ao70 t651.length co70), .int .i64 t654] 65 (0, 0))) ∧ Aside0 (wc.heap[gb660]? = some (.cells #[.int .i64 t656, (.slice Ao86 t657.length co86)] 70 (0, 0))) ∧ Aside0 (wc.heap[gb668]? = some (.cells #[(.slice Ao93 t664.length co93), .int .i64 t667] 65 (0, 0))) ∧ Aside0 (Below w.heap.size w wc))
      case first =>
       have H := HC43.out
       clear HC43
       by_cases c118 : t682 < 0
       ·rw [if_pos c118] at H
        have c118b0 := decide_eq_true c118
        clear c118
        (first | rw [c118b0] | (simp only [i64_w, i32_w]; rw [c118b0]) | skip)
        have H' := Aside0.mk H
        clear H
        go_wp2
        go_meet
        case rel => exact ⟨_, (true), (by first | rfl | (simp; done) | (simp [*]; done)), H', ⟨by first | omega | exact Nat.le_refl _⟩, ⟨by (with_reducible repeat (first | apply Kd.R_alloc | apply Kd.R_drewN | apply Kd.R_drew)); exact Kd.R_mono HO648.out (fun _ hk => ⟨hk.2.2.1, ⟨hk.2.2.2.1, hk.2.2.2.2.1⟩⟩)⟩, ⟨by (with_reducible repeat (first | apply Kd.R_alloc | apply Kd.R_drewN | apply Kd.R_drew)); exact Kd.R_mono HO653.out (fun _ hk => ⟨hk.2.2.1, ⟨hk.2.2.2.1, hk.2.2.2.2.1⟩⟩)⟩, ⟨by (with_reducible repeat (first | apply Kd.R_alloc | apply Kd.R_drewN | apply Kd.R_drew)); exact Kd.R_mono HO659.out (fun _ hk => ⟨hk.2.2.1, ⟨hk.2.2.2.1, hk.2.2.2.2.1⟩⟩)⟩, ⟨by (with_reducible repeat (first | apply Kd.R_alloc | apply Kd.R_drewN | apply Kd.R_drew)); exact Kd.R_mono HO666.out (fun _ hk => ⟨hk.2.2.1, ⟨hk.2.2.2.1, hk.2.2.2.2.1⟩⟩)⟩, ⟨by (with_reducible repeat (first | refine blk_drewN ?_ _ | refine blk_drew ?_ | refine blk_alloc ?_ _)); exact BK630.out⟩, ⟨by (with_reducible repeat (first | refine blk_drewN ?_ _ | refine blk_drew ?_ | refine blk_alloc ?_ _)); exact BK631.out⟩, ⟨by (with_reducible repeat (first | refine blk_drewN ?_ _ | refine blk_drew ?_ | refine blk_alloc ?_ _)); exact BK632.out⟩, ⟨by (with_reducible repeat (first | refine blk_drewN ?_ _ | refine blk_drew ?_ | refine blk_alloc ?_ _)); exact BK650.out⟩, ⟨by (with_reducible repeat (first | refine blk_drewN ?_ _ | refine blk_drew ?_ | refine blk_alloc ?_ _)); exact BK655.out⟩, ⟨by (with_reducible repeat (first | refine blk_drewN ?_ _ | refine blk_drew ?_ | refine blk_alloc ?_ _)); exact BK660.out⟩, ⟨by (with_reducible repeat (first | refine blk_drewN ?_ _ | refine blk_drew ?_ | refine blk_alloc ?_ _)); exact BK668.out⟩, ⟨tb HB⟩⟩
       ·rw [if_neg c118] at H
        have c118b0 := decide_eq_false c118
        clear c118
        (first | rw [c118b0] | (simp only [i64_w, i32_w]; rw [c118b0]) | skip)
        replace H := Option.bind_eq_some_iff.mp H
        obtain ⟨t684, A1190, H⟩ := H
        replace H : (laws_FnExactAfter.j0 k (!t684) l0_0 a0_1 a1_0 a1_1 a1_2 a2_0 l2_1 t646 t649 t664 t667) = some r := H
        have A119 := Aside0.mk A1190
        clear A1190
        have H' := Aside0.mk H
        clear H
        have hnb120 := NB668_630.out
        have hnc120 := NB630_668.out
        have hnb121 := NB668_631.out
        have hnc121 := NB631_668.out
        have hnb122 := NB668_632.out
        have hnc122 := NB632_668.out
        have hnb123 := NB668_650.out
        have hnc123 := NB650_668.out
        have hnb124 := NB668_655.out
        have hnc124 := NB655_668.out
        have hnb125 := NB668_660.out
        have hnc125 := NB660_668.out
        obtain ⟨hcz126_0, hcz126_1, hfz126_0, hfz126_1⟩ := c2 BK668
        have hnb127 := NB650_630.out
        have hnc127 := NB630_650.out
        have hnb128 := NB650_631.out
        have hnc128 := NB631_650.out
        have hnb129 := NB650_632.out
        have hnc129 := NB632_650.out
        have hnb130 := NB650_655.out
        have hnc130 := NB655_650.out
        have hnb131 := NB650_660.out
        have hnc131 := NB660_650.out
        obtain ⟨hcz132_0, hcz132_1, hfz132_0, hfz132_1⟩ := c2 BK650
        go_wp2_with (first | (go_at_call 39; (with_reducible refine (laws_eqRows.calls k _ _ t664 t667 _ _ t646 t649 t684 _ ?side1 ?side2 ?side3 ?side4 A119.out).mono ?_); (case side1 => repeat (first | exact (Kd.R_reads' HO666.out).2.2 | (with_reducible refine Kd.C_alloc ?_ _) | (with_reducible refine Kd.C_drewN ?_ _) | (with_reducible refine Kd.C_drew ?_))); (case side2 => exact (Kd.R_reads' HO666.out).2.1); (case side3 => repeat (first | exact (Kd.R_reads' HO648.out).2.2 | (with_reducible refine Kd.C_alloc ?_ _) | (with_reducible refine Kd.C_drewN ?_ _) | (with_reducible refine Kd.C_drew ?_))); (case side4 => exact (Kd.R_reads' HO648.out).2.1); rintro e w133 ⟨rfl, hb⟩; replace HO637 := rb HO637 hb; replace HO645 := rb HO645 hb; replace HO648 := rb HO648 hb; replace HO653 := rb HO653 hb; replace HO659 := rb HO659 hb; replace HO666 := rb HO666 hb; replace HO672 := rb HO672 hb; replace HO678 := rb HO678 hb; replace BK630 := bb BK630 hb; replace BK631 := bb BK631 hb; replace BK632 := bb BK632 hb; replace BK650 := bb BK650 hb; replace BK655 := bb BK655 hb; replace BK660 := bb BK660 hb; replace BK668 := bb BK668 hb; replace HB := bs HB hb; (try clear hb); (try clear hb2); (try clear hk); (try clear hi)))
        go_meet
        case rel => exact ⟨_, (!t684), (by first | rfl | (simp; done) | (simp [*]; done)), H', ⟨by first | omega | exact Nat.le_refl _⟩, ⟨by (with_reducible repeat (first | apply Kd.R_alloc | apply Kd.R_drewN | apply Kd.R_drew)); exact Kd.R_mono HO648.out (fun _ hk => ⟨hk.2.2.1, ⟨hk.2.2.2.1, hk.2.2.2.2.1⟩⟩)⟩, ⟨by (with_reducible repeat (first | apply Kd.R_alloc | apply Kd.R_drewN | apply Kd.R_drew)); exact Kd.R_mono HO653.out (fun _ hk => ⟨hk.2.2.1, ⟨hk.2.2.2.1, hk.2.2.2.2.1⟩⟩)⟩, ⟨by (with_reducible repeat (first | apply Kd.R_alloc | apply Kd.R_drewN | apply Kd.R_drew)); exact Kd.R_mono HO659.out (fun _ hk => ⟨hk.2.2.1, ⟨hk.2.2.2.1, hk.2.2.2.2.1⟩⟩)⟩, ⟨by (with_reducible repeat (first | apply Kd.R_alloc | apply Kd.R_drewN | apply Kd.R_drew)); exact Kd.R_mono HO666.out (fun _ hk => ⟨hk.2.2.1, ⟨hk.2.2.2.1, hk.2.2.2.2.1⟩⟩)⟩, ⟨by (with_reducible repeat (first | refine blk_drewN ?_ _ | refine blk_drew ?_ | refine blk_alloc ?_ _)); exact BK630.out⟩, ⟨by (with_reducible repeat (first | refine blk_drewN ?_ _ | refine blk_drew ?_ | refine blk_alloc ?_ _)); exact BK631.out⟩, ⟨by (with_reducible repeat (first | refine blk_drewN ?_ _ | refine blk_drew ?_ | refine blk_alloc ?_ _)); exact BK632.out⟩, ⟨by (with_reducible repeat (first | refine blk_drewN ?_ _ | refine blk_drew ?_ | refine blk_alloc ?_ _)); exact BK650.out⟩, ⟨by (with_reducible repeat (first | refine blk_drewN ?_ _ | refine blk_drew ?_ | refine blk_alloc ?_ _)); exact BK655.out⟩, ⟨by (with_reducible repeat (first | refine blk_drewN ?_ _ | refine blk_drew ?_ | refine blk_alloc ?_ _)); exact BK660.out⟩, ⟨by (with_reducible repeat (first | refine blk_drewN ?_ _ | refine blk_drew ?_ | refine blk_alloc ?_ _)); exact BK668.out⟩, ⟨tb HB⟩⟩
      case rest =>
       clear HC43
       try clear c1
       try clear c2
       try clear p2
       try clear c3
       try clear c4
       try clear c9
       try clear c10
       try clear c11
       try clear c12
       try clear c13
       try clear c35
       try clear c37
       try clear c39
       try clear c40
       try clear c41
       try clear c42
       try clear c96
       try clear c97
       try clear c98
       try clear c99
       try clear c100
       try clear c101
       try clear c103
       try clear c118
       try clear c118b0
       try clear c120
       try clear c121
       try clear c122
       try clear c123
       try clear c124
       try clear c125
       try clear c127
       try clear c128
       try clear c129
       try clear c130
       try clear c131
       try clear hcz102_0
       try clear hcz102_1
       try clear hcz104_0
       try clear hcz104_1
       try clear hcz114_0
       try clear hcz114_1
       try clear hcz116_0
       try clear hcz116_1
       try clear hcz126_0
       try clear hcz126_1
       try clear hcz132_0
       try clear hcz132_1
       try clear hfz102_0
       try clear hfz102_1
       try clear hfz104_0
       try clear hfz104_1
       try clear hfz114_0
       try clear hfz114_1
       try clear hfz116_0
       try clear hfz116_1
       try clear hfz126_0
       try clear hfz126_1
       try clear hfz132_0
       try clear hfz132_1
       obtain ⟨kq, x69_42, rfl, HA, HJ42, HO_651000, HO_656000, HO_661001, HO_669000, BK630, BK631, BK632, BK650, BK655, BK660, BK668, HB⟩ := hcut
       have hl656000_42 := (Kd.R_reads' HO_656000.out).1
       rw [hl656000_42] at HO_656000
       (try simp only [hl656000_42])
       (try simp only [hl656000_42] at BK630)
       (try simp only [hl656000_42] at BK631)
       (try simp only [hl656000_42] at BK632)
       (try simp only [hl656000_42] at BK650)
       (try simp only [hl656000_42] at BK655)
       (try simp only [hl656000_42] at BK660)
       (try simp only [hl656000_42] at BK668)
       (try simp only [hl656000_42] at HO_651000)
       (try simp only [hl656000_42] at HO_661001)
       (try simp only [hl656000_42] at HO_669000)
       have hl661001_42 := (Kd.R_reads' HO_661001.out).1
       rw [hl661001_42] at HO_661001
       (try simp only [hl661001_42])
       (try simp only [hl661001_42] at BK630)
       (try simp only [hl661001_42] at BK631)
       (try simp only [hl661001_42] at BK632)
       (try simp only [hl661001_42] at BK650)
       (try simp only [hl661001_42] at BK655)
       (try simp only [hl661001_42] at BK660)
       (try simp only [hl661001_42] at BK668)
       (try simp only [hl661001_42] at HO_651000)
       (try simp only [hl661001_42] at HO_656000)
       (try simp only [hl661001_42] at HO_669000)
       cases kq with
       | zero => exact absurd HA.out (by simp [laws_FnExactAfter.j0])
       | succ kj42 =>
        have H := HA.out
        clear HA
        simp only [laws_FnExactAfter.j0] at H
        by_cases c134 : x69_42 = true
        ·subst c134
         have H1 : (some false) = some r := by rw [if_pos rfl] at H; exact H
         clear H
         have H := H1
         clear H1
         exact absurd (Option.some.inj (H.trans (congrArg some hr_))) (by simp)
        ·replace c134 := Bool.eq_false_iff.mpr c134
         subst c134
         have H1 : ((laws_markRows.f kj42 t664 t667 1).bind fun bt685 => ((laws_heldRows.f kj42 bt685.2 t667 1).bind fun t687 => (if t687 < 0 then (some false) else (if t687 = bt685.1 then ((laws_toRows.f kj42 l0_0 a0_1).bind fun bt688 => ((laws_toOp.f a1_0 a1_1 a1_2).bind fun bt692 => ((laws_toRes.f kj42 a2_0 l2_1).bind fun bt695 => ((impl_After.f kj42 bt688.1 bt688.2 bt692.1 bt692.2.1 bt692.2.2 bt695.1 bt695.2).bind fun bt699 => ((laws_eqRows.f kj42 bt699.1 bt699.2 t646 t649).bind fun t704 => (if t704 = true then ((laws_heldRows.f kj42 bt685.2 t667 1).bind fun t705 => (if t705 < 0 then (some false) else (if t705 = bt685.1 then (some true) else (some false)))) else (some false))))))) else (some false))))) = some r := by rw [if_neg (show ¬ (false = true) by decide)] at H; exact H
         clear H
         have H := H1
         clear H1
         replace H := Option.bind_eq_some_iff.mp H
         obtain ⟨⟨t685, t686⟩, A1350, H⟩ := H
         replace H : ((laws_heldRows.f kj42 t686 t667 1).bind fun t687 => (if t687 < 0 then (some false) else (if t687 = t685 then ((laws_toRows.f kj42 l0_0 a0_1).bind fun bt688 => ((laws_toOp.f a1_0 a1_1 a1_2).bind fun bt692 => ((laws_toRes.f kj42 a2_0 l2_1).bind fun bt695 => ((impl_After.f kj42 bt688.1 bt688.2 bt692.1 bt692.2.1 bt692.2.2 bt695.1 bt695.2).bind fun bt699 => ((laws_eqRows.f kj42 bt699.1 bt699.2 t646 t649).bind fun t704 => (if t704 = true then ((laws_heldRows.f kj42 t686 t667 1).bind fun t705 => (if t705 < 0 then (some false) else (if t705 = t685 then (some true) else (some false)))) else (some false))))))) else (some false)))) = some r := H
         have A135 := Aside0.mk A1350
         clear A1350
         replace H := Option.bind_eq_some_iff.mp H
         obtain ⟨t687, A1360, H⟩ := H
         replace H : (if t687 < 0 then (some false) else (if t687 = t685 then ((laws_toRows.f kj42 l0_0 a0_1).bind fun bt688 => ((laws_toOp.f a1_0 a1_1 a1_2).bind fun bt692 => ((laws_toRes.f kj42 a2_0 l2_1).bind fun bt695 => ((impl_After.f kj42 bt688.1 bt688.2 bt692.1 bt692.2.1 bt692.2.2 bt695.1 bt695.2).bind fun bt699 => ((laws_eqRows.f kj42 bt699.1 bt699.2 t646 t649).bind fun t704 => (if t704 = true then ((laws_heldRows.f kj42 t686 t667 1).bind fun t705 => (if t705 < 0 then (some false) else (if t705 = t685 then (some true) else (some false)))) else (some false))))))) else (some false))) = some r := H
         have A136 := Aside0.mk A1360
         clear A1360
         by_cases c137 : t687 < 0
         ·rw [if_pos c137] at H
          exact absurd (Option.some.inj (H.trans (congrArg some hr_))) (by simp)
         ·rw [if_neg c137] at H
          have c137b0 := decide_eq_false c137
          clear c137
          by_cases c138 : t687 = t685
          ·rw [if_pos c138] at H
           have c138b0 : (t687 == t685) = true := beq_iff_eq.mpr c138
           have c138b1 : (t687 != t685) = false := bne_eq_false_iff_eq.mpr c138
           clear c138
           replace H := Option.bind_eq_some_iff.mp H
           obtain ⟨⟨t688, t691⟩, A1390, H⟩ := H
           replace H : ((laws_toOp.f a1_0 a1_1 a1_2).bind fun bt692 => ((laws_toRes.f kj42 a2_0 l2_1).bind fun bt695 => ((impl_After.f kj42 t688 t691 bt692.1 bt692.2.1 bt692.2.2 bt695.1 bt695.2).bind fun bt699 => ((laws_eqRows.f kj42 bt699.1 bt699.2 t646 t649).bind fun t704 => (if t704 = true then ((laws_heldRows.f kj42 t686 t667 1).bind fun t705 => (if t705 < 0 then (some false) else (if t705 = t685 then (some true) else (some false)))) else (some false)))))) = some r := H
           have A139 := Aside0.mk A1390
           clear A1390
           replace H := Option.bind_eq_some_iff.mp H
           obtain ⟨⟨t692, t693, t694⟩, A1400, H⟩ := H
           replace H : ((laws_toRes.f kj42 a2_0 l2_1).bind fun bt695 => ((impl_After.f kj42 t688 t691 t692 t693 t694 bt695.1 bt695.2).bind fun bt699 => ((laws_eqRows.f kj42 bt699.1 bt699.2 t646 t649).bind fun t704 => (if t704 = true then ((laws_heldRows.f kj42 t686 t667 1).bind fun t705 => (if t705 < 0 then (some false) else (if t705 = t685 then (some true) else (some false)))) else (some false))))) = some r := H
           have A140 := Aside0.mk A1400
           clear A1400
           replace H := Option.bind_eq_some_iff.mp H
           obtain ⟨⟨t695, t696⟩, A1410, H⟩ := H
           replace H : ((impl_After.f kj42 t688 t691 t692 t693 t694 t695 t696).bind fun bt699 => ((laws_eqRows.f kj42 bt699.1 bt699.2 t646 t649).bind fun t704 => (if t704 = true then ((laws_heldRows.f kj42 t686 t667 1).bind fun t705 => (if t705 < 0 then (some false) else (if t705 = t685 then (some true) else (some false)))) else (some false)))) = some r := H
           have A141 := Aside0.mk A1410
           clear A1410
           replace H := Option.bind_eq_some_iff.mp H
           obtain ⟨⟨t699, t702⟩, A1420, H⟩ := H
           replace H : ((laws_eqRows.f kj42 t699 t702 t646 t649).bind fun t704 => (if t704 = true then ((laws_heldRows.f kj42 t686 t667 1).bind fun t705 => (if t705 < 0 then (some false) else (if t705 = t685 then (some true) else (some false)))) else (some false))) = some r := H
           have A142 := Aside0.mk A1420
           clear A1420
           replace H := Option.bind_eq_some_iff.mp H
           obtain ⟨t704, A1430, H⟩ := H
           replace H : (if t704 = true then ((laws_heldRows.f kj42 t686 t667 1).bind fun t705 => (if t705 < 0 then (some false) else (if t705 = t685 then (some true) else (some false)))) else (some false)) = some r := H
           have A143 := Aside0.mk A1430
           clear A1430
           by_cases c144 : t704 = true
           ·subst c144
            have H1 : ((laws_heldRows.f kj42 t686 t667 1).bind fun t705 => (if t705 < 0 then (some false) else (if t705 = t685 then (some true) else (some false)))) = some r := by rw [if_pos rfl] at H; exact H
            clear H
            have H := H1
            clear H1
            replace H := Option.bind_eq_some_iff.mp H
            obtain ⟨t705, A1450, H⟩ := H
            replace H : (if t705 < 0 then (some false) else (if t705 = t685 then (some true) else (some false))) = some r := H
            have A145 := Aside0.mk A1450
            clear A1450
            by_cases c146 : t705 < 0
            ·rw [if_pos c146] at H
             exact absurd (Option.some.inj (H.trans (congrArg some hr_))) (by simp)
            ·rw [if_neg c146] at H
             have c146b0 := decide_eq_false c146
             clear c146
             by_cases c147 : t705 = t685
             ·rw [if_pos c147] at H
              have c147b0 : (t705 == t685) = true := beq_iff_eq.mpr c147
              have c147b1 : (t705 != t685) = false := bne_eq_false_iff_eq.mpr c147
              clear c147
              obtain rfl := Option.some.inj H
              have hnb148 := NB668_630.out
              have hnc148 := NB630_668.out
              have hnb149 := NB668_631.out
              have hnc149 := NB631_668.out
              have hnb150 := NB668_632.out
              have hnc150 := NB632_668.out
              have hnb151 := NB668_650.out
              have hnc151 := NB650_668.out
              have hnb152 := NB668_655.out
              have hnc152 := NB655_668.out
              have hnb153 := NB668_660.out
              have hnc153 := NB660_668.out
              obtain ⟨hcz154_0, hcz154_1, hfz154_0, hfz154_1⟩ := c2 BK668
              try go_wp2_with (first | ((with_reducible refine gate_callee (f := 41) rfl ?_); refine gL 72 Try.func41 #[.agg #[.slice Ao93 t664.length co93, .int .i64 t667], .int .i64 1] ?_; (with_reducible refine (laws_markRows.calls kj42 (fun k_ => some k_ = (.slice Ao93 t664.length co93 : Value).ownBlock) (.slice Ao93 t664.length co93) t664 t667 1 t685 t686 w _ ?side1 ?side2 A135.out).mono ?_); (case side1 => repeat (first | (with_reducible first | exact HB.out | apply below_alloc | apply pw_below_drewN | apply below_drew1 | refine below_set ?_ GE630.out | refine below_set ?_ GE631.out | refine below_set ?_ GE632.out | refine below_set ?_ GE650.out | refine below_set ?_ GE655.out | refine below_set ?_ GE660.out | refine below_set ?_ GE668.out) | exact HB.out)); (case side2 => exact Kd.R_tight rfl HO_669000.out); rintro e w155 ⟨rfl, hy0, hb, hkp⟩; refine ⟨_, rfl, ?_⟩; replace HO_651000 := Aside0.mk (Kd.R_mono (ok' := fun k_ => some k_ ≠ (.slice Ao70 t681.length co70 : Value).ownBlock ∧ some k_ ≠ (.slice Ao86 t683.length co86 : Value).ownBlock ∧ some k_ ≠ (.slice Ao93 t664.length co93 : Value).ownBlock) (Kd.R_keptB (HO_651000.out) hkp (fun k_ hk_ hs_ => (hk_.2.2) hs_)) (fun k_ hk_ => ⟨hk_.1.1, hk_.1.2.1, hk_.1.2.2⟩)); replace HO_656000 := Aside0.mk (Kd.R_mono (ok' := fun k_ => some k_ ≠ (.slice Ao63 t646.length co63 : Value).ownBlock ∧ some k_ ≠ (.slice Ao86 t683.length co86 : Value).ownBlock ∧ some k_ ≠ (.slice Ao93 t664.length co93 : Value).ownBlock) (Kd.R_keptB (HO_656000.out) hkp (fun k_ hk_ hs_ => (hk_.2.2) hs_)) (fun k_ hk_ => ⟨hk_.1.1, hk_.1.2.1, hk_.1.2.2⟩)); replace HO_661001 := Aside0.mk (Kd.R_mono (ok' := fun k_ => some k_ ≠ (.slice Ao63 t646.length co63 : Value).ownBlock ∧ some k_ ≠ (.slice Ao70 t681.length co70 : Value).ownBlock ∧ some k_ ≠ (.slice Ao93 t664.length co93 : Value).ownBlock) (Kd.R_keptB (HO_661001.out) hkp (fun k_ hk_ hs_ => (hk_.2.2) hs_)) (fun k_ hk_ => ⟨hk_.1.1, hk_.1.2.1, hk_.1.2.2⟩)); replace BK630 := Aside0.mk (blk_kept (bk BK630) hkp (fun hs_ => (fun e_ => (Kd.R_ne HO_669000.out BK630.out (by decide)) e_) hs_)); replace BK631 := Aside0.mk (blk_kept (bk BK631) hkp (fun hs_ => (fun e_ => (Kd.R_ne HO_669000.out BK631.out (by decide)) e_) hs_)); replace BK632 := Aside0.mk (blk_kept (bk BK632) hkp (fun hs_ => (fun e_ => (Kd.R_ne HO_669000.out BK632.out (by decide)) e_) hs_)); replace BK650 := Aside0.mk (blk_kept (bk BK650) hkp (fun hs_ => (fun e_ => (Kd.R_ne HO_669000.out BK650.out (by decide)) e_) hs_)); replace BK655 := Aside0.mk (blk_kept (bk BK655) hkp (fun hs_ => (fun e_ => (Kd.R_ne HO_669000.out BK655.out (by decide)) e_) hs_)); replace BK660 := Aside0.mk (blk_kept (bk BK660) hkp (fun hs_ => (fun e_ => (Kd.R_ne HO_669000.out BK660.out (by decide)) e_) hs_)); replace BK668 := Aside0.mk (blk_kept (bk BK668) hkp (fun hs_ => (fun e_ => (Kd.R_ne HO_669000.out BK668.out (by decide)) e_) hs_)); replace HO_669000 := Aside0.mk (Kd.R_reok rfl hy0 (fun k_ e_ => HO_669000.out.1 k_ e_)); replace HB := Aside0.mk (hb); (try clear hb); (try clear hkp); (try clear hy0); obtain ⟨hcz156_0, hcz156_1, hfz156_0, hfz156_1⟩ := c2 BK668) | ((with_reducible refine gate_callee (f := 43) rfl ?_); refine goesL_ (some 75) rfl rfl Try.func43 (by kernel_rfl) rfl #[.agg #[.slice Ao93 t686.length co93, .int .i64 t667], .int .i64 1] rfl (by (try simp only [List.map_toArray, List.map_cons, List.map_nil]); first | done | (rw [show t686.length = t664.length from (Kd.R_reads' HO_669000.out).1.symm] <;> rfl) | rfl | (simp only [List.length_drop, List.length_take]; rfl)) ?_; (with_reducible refine (laws_heldRows.calls kj42 _ _ t686 t667 1 t687 _ ?side1 ?side2 A136.out).mono ?_); (case side1 => repeat (first | exact (Kd.R_reads' HO_669000.out).2.2 | (with_reducible refine Kd.C_alloc ?_ _) | (with_reducible refine Kd.C_drewN ?_ _) | (with_reducible refine Kd.C_drew ?_))); (case side2 => rw [show t686.length = t664.length from (Kd.R_reads' HO_669000.out).1.symm]; exact (Kd.R_reads' HO_669000.out).2.1); rintro e w157 ⟨rfl, hb⟩; refine ⟨_, rfl, ?_⟩; replace HO_651000 := rb HO_651000 hb; replace HO_656000 := rb HO_656000 hb; replace HO_661001 := rb HO_661001 hb; replace HO_669000 := rb HO_669000 hb; replace BK630 := bb BK630 hb; replace BK631 := bb BK631 hb; replace BK632 := bb BK632 hb; replace BK650 := bb BK650 hb; replace BK655 := bb BK655 hb; replace BK660 := bb BK660 hb; replace BK668 := bb BK668 hb; replace HB := bs HB hb; (try clear hb); (try clear hb2); (try clear hk); (try clear hi)))
              replace HO_651000 := rd_ HO_651000
              replace HO_656000 := rd_ HO_656000
              replace HO_661001 := rd_ HO_661001
              replace HO_669000 := rd_ HO_669000
              replace BK630 := bd BK630
              replace BK631 := bd BK631
              replace BK632 := bd BK632
              replace BK650 := bd BK650
              replace BK655 := bd BK655
              replace BK660 := bd BK660
              replace BK668 := bd BK668
              replace HB := Aside0.mk (below_drew1 HB.out)
              refine start_ (n := 9) (S := fun w' => w'.cell? ⟨gb630, 0, none⟩ = some (.slice A0_0 l0_0.length c0_0) ∧ w'.cell? ⟨gb630, 1, none⟩ = some (.int .i64 a0_1) ∧ w'.cell? ⟨gb631, 0, none⟩ = some (.int .i64 a1_0) ∧ w'.cell? ⟨gb631, 1, none⟩ = some (.int .i64 a1_1) ∧ w'.cell? ⟨gb631, 2, none⟩ = some (.int .i64 a1_2) ∧ w'.cell? ⟨gb632, 0, none⟩ = some (.int .i64 a2_0) ∧ w'.cell? ⟨gb632, 1, none⟩ = some (.slice A2_1 l2_1.length c2_1)) (ds := []) #[false, false, false, false, false, false, false, false, false] (by kernel_rfl) rfl rfl ⟨cz BK630 0, cz BK630 1, cz BK631 0, cz BK631 1, cz BK631 2, cz BK632 0, cz BK632 1⟩ (fun hHeld => ?_); refine with_tabW laws_FnExactAfter.tab31 laws_FnExactAfter.bits31 (fun HT_ HW_ => ?_)
              generalize w157.drew = w158 at HO_651000 HO_656000 HO_661001 HO_669000 BK630 BK631 BK632 BK650 BK655 BK660 BK668 HB hHeld ⊢
              refine ta 0 81 ?_
              refine ta 2 83 ?_
              refine ta 4 85 ?_
              refine join_ (σ := Value × Value × Value × Nat) 1 #[true, true, true, true, true, true, true, true, false] (fun s_ => [(82, .agg #[s_.1, .int .i64 t691]), (84, .agg #[.int .i64 t692, .int .i64 t693, .int .i64 t694]), (86, .agg #[.int .i64 t695, s_.2.1]), (87, .agg #[s_.2.2.1, .int .i64 t702]), (15, .pointer (some ⟨s_.2.2.2, 0, none⟩))]) (fun s_ w' => (w'.cell? ⟨gb630, 0, none⟩ = some (.slice A0_0 l0_0.length c0_0) ∧ w'.cell? ⟨gb630, 1, none⟩ = some (.int .i64 a0_1) ∧ w'.cell? ⟨gb631, 0, none⟩ = some (.int .i64 a1_0) ∧ w'.cell? ⟨gb631, 1, none⟩ = some (.int .i64 a1_1) ∧ w'.cell? ⟨gb631, 2, none⟩ = some (.int .i64 a1_2) ∧ w'.cell? ⟨gb632, 0, none⟩ = some (.int .i64 a2_0) ∧ w'.cell? ⟨gb632, 1, none⟩ = some (.slice A2_1 l2_1.length c2_1)) ∧ Aside0 (Kd.R (Kd.int .i64) 3 w' w.heap.size (fun k_ => some k_ ≠ (s_.2.1 : Value).ownBlock ∧ some k_ ≠ (s_.2.2.1 : Value).ownBlock ∧ some k_ ≠ (.slice Ao63 t646.length co63 : Value).ownBlock ∧ some k_ ≠ (.slice Ao70 t681.length co70 : Value).ownBlock ∧ some k_ ≠ (.slice Ao86 t683.length co86 : Value).ownBlock ∧ some k_ ≠ (.slice Ao93 t664.length co93 : Value).ownBlock) s_.1 t688) ∧ Aside0 (Kd.R (Kd.int .i64) 3 w' w.heap.size (fun k_ => some k_ ≠ (s_.1 : Value).ownBlock ∧ some k_ ≠ (s_.2.2.1 : Value).ownBlock ∧ some k_ ≠ (.slice Ao63 t646.length co63 : Value).ownBlock ∧ some k_ ≠ (.slice Ao70 t681.length co70 : Value).ownBlock ∧ some k_ ≠ (.slice Ao86 t683.length co86 : Value).ownBlock ∧ some k_ ≠ (.slice Ao93 t664.length co93 : Value).ownBlock) s_.2.1 t696) ∧ Aside0 (Kd.R (Kd.int .i64) 3 w' w.heap.size (fun k_ => some k_ ≠ (s_.1 : Value).ownBlock ∧ some k_ ≠ (s_.2.1 : Value).ownBlock ∧ some k_ ≠ (.slice Ao63 t646.length co63 : Value).ownBlock ∧ some k_ ≠ (.slice Ao70 t681.length co70 : Value).ownBlock ∧ some k_ ≠ (.slice Ao86 t683.length co86 : Value).ownBlock ∧ some k_ ≠ (.slice Ao93 t664.length co93 : Value).ownBlock) s_.2.2.1 t699) ∧ Aside0 (Kd.R (Kd.int .i64) 3 w' w.heap.size (fun k_ => some k_ ≠ (s_.1 : Value).ownBlock ∧ some k_ ≠ (s_.2.1 : Value).ownBlock ∧ some k_ ≠ (s_.2.2.1 : Value).ownBlock ∧ some k_ ≠ (.slice Ao70 t681.length co70 : Value).ownBlock ∧ some k_ ≠ (.slice Ao86 t683.length co86 : Value).ownBlock ∧ some k_ ≠ (.slice Ao93 t664.length co93 : Value).ownBlock) (.slice Ao63 t646.length co63) t646) ∧ Aside0 (Kd.R (Kd.int .i64) 3 w' w.heap.size (fun k_ => some k_ ≠ (s_.1 : Value).ownBlock ∧ some k_ ≠ (s_.2.1 : Value).ownBlock ∧ some k_ ≠ (s_.2.2.1 : Value).ownBlock ∧ some k_ ≠ (.slice Ao63 t646.length co63 : Value).ownBlock ∧ some k_ ≠ (.slice Ao86 t683.length co86 : Value).ownBlock ∧ some k_ ≠ (.slice Ao93 t664.length co93 : Value).ownBlock) (.slice Ao70 t681.length co70) t681) ∧ Aside0 (Kd.R (Kd.int .i64) 3 w' w.heap.size (fun k_ => some k_ ≠ (s_.1 : Value).ownBlock ∧ some k_ ≠ (s_.2.1 : Value).ownBlock ∧ some k_ ≠ (s_.2.2.1 : Value).ownBlock ∧ some k_ ≠ (.slice Ao63 t646.length co63 : Value).ownBlock ∧ some k_ ≠ (.slice Ao70 t681.length co70 : Value).ownBlock ∧ some k_ ≠ (.slice Ao93 t664.length co93 : Value).ownBlock) (.slice Ao86 t683.length co86) t683) ∧ Aside0 (Kd.R (Kd.int .i64) 3 w' w.heap.size (fun k_ => some k_ ≠ (s_.1 : Value).ownBlock ∧ some k_ ≠ (s_.2.1 : Value).ownBlock ∧ some k_ ≠ (s_.2.2.1 : Value).ownBlock ∧ some k_ ≠ (.slice Ao63 t646.length co63 : Value).ownBlock ∧ some k_ ≠ (.slice Ao70 t681.length co70 : Value).ownBlock ∧ some k_ ≠ (.slice Ao86 t683.length co86 : Value).ownBlock) (.slice Ao93 t664.length co93) t686) ∧ Aside0 (w'.heap[gb630]? = some (.cells #[.slice A0_0 l0_0.length c0_0, .int .i64 a0_1] 58 (0, 0))) ∧ Aside0 (w'.heap[gb631]? = some (.cells #[.int .i64 a1_0, .int .i64 a1_1, .int .i64 a1_2] 60 (0, 0))) ∧ Aside0 (w'.heap[gb632]? = some (.cells #[.int .i64 a2_0, .slice A2_1 l2_1.length c2_1] 62 (0, 0))) ∧ Aside0 (w'.heap[gb650]? = some (.cells #[.slice Ao63 t646.length co63, .int .i64 t649] 65 (0, 0))) ∧ Aside0 (w'.heap[gb655]? = some (.cells #[.slice Ao70 t681.length co70, .int .i64 t654] 65 (0, 0))) ∧ Aside0 (w'.heap[gb660]? = some (.cells #[.int .i64 t656, .slice Ao86 t683.length co86] 70 (0, 0))) ∧ Aside0 (w'.heap[gb668]? = some (.cells #[.slice Ao93 t664.length co93, .int .i64 t667] 65 (0, 0))) ∧ Aside0 (w'.heap[s_.2.2.2]? = some (.cells #[.slice none 0 0, .int .i64 0] 65 (0, 0))) ∧ Aside0 (w.heap.size ≤ s_.2.2.2) ∧ Aside0 (w.heap.size ≤ s_.2.2.2) ∧ Aside0 (gb630 ≠ s_.2.2.2) ∧ Aside0 (s_.2.2.2 ≠ gb630) ∧ Aside0 (gb631 ≠ s_.2.2.2) ∧ Aside0 (s_.2.2.2 ≠ gb631) ∧ Aside0 (gb632 ≠ s_.2.2.2) ∧ Aside0 (s_.2.2.2 ≠ gb632) ∧ Aside0 (gb650 ≠ s_.2.2.2) ∧ Aside0 (s_.2.2.2 ≠ gb650) ∧ Aside0 (gb655 ≠ s_.2.2.2) ∧ Aside0 (s_.2.2.2 ≠ gb655) ∧ Aside0 (gb660 ≠ s_.2.2.2) ∧ Aside0 (s_.2.2.2 ≠ gb660) ∧ Aside0 (gb668 ≠ s_.2.2.2) ∧ Aside0 (s_.2.2.2 ≠ gb668) ∧ Aside0 (Below w.heap.size w w')) ?_ ?_
              rotate_left
              ·intro hJ1_3_5_6_7
               refine join_ (σ := Value × Value × Value) 2 #[true, true, true, true, true, true, true, false, false] (fun s_ => [(82, .agg #[s_.1, .int .i64 t691]), (84, .agg #[.int .i64 t692, .int .i64 t693, .int .i64 t694]), (86, .agg #[.int .i64 t695, s_.2.1]), (87, .agg #[s_.2.2, .int .i64 t702])]) (fun s_ w' => (w'.cell? ⟨gb630, 0, none⟩ = some (.slice A0_0 l0_0.length c0_0) ∧ w'.cell? ⟨gb630, 1, none⟩ = some (.int .i64 a0_1) ∧ w'.cell? ⟨gb631, 0, none⟩ = some (.int .i64 a1_0) ∧ w'.cell? ⟨gb631, 1, none⟩ = some (.int .i64 a1_1) ∧ w'.cell? ⟨gb631, 2, none⟩ = some (.int .i64 a1_2) ∧ w'.cell? ⟨gb632, 0, none⟩ = some (.int .i64 a2_0) ∧ w'.cell? ⟨gb632, 1, none⟩ = some (.slice A2_1 l2_1.length c2_1)) ∧ Aside0 (Kd.R (Kd.int .i64) 3 w' w.heap.size (fun k_ => some k_ ≠ (s_.2.1 : Value).ownBlock ∧ some k_ ≠ (s_.2.2 : Value).ownBlock ∧ some k_ ≠ (.slice Ao63 t646.length co63 : Value).ownBlock ∧ some k_ ≠ (.slice Ao70 t681.length co70 : Value).ownBlock ∧ some k_ ≠ (.slice Ao86 t683.length co86 : Value).ownBlock ∧ some k_ ≠ (.slice Ao93 t664.length co93 : Value).ownBlock) s_.1 t688) ∧ Aside0 (Kd.R (Kd.int .i64) 3 w' w.heap.size (fun k_ => some k_ ≠ (s_.1 : Value).ownBlock ∧ some k_ ≠ (s_.2.2 : Value).ownBlock ∧ some k_ ≠ (.slice Ao63 t646.length co63 : Value).ownBlock ∧ some k_ ≠ (.slice Ao70 t681.length co70 : Value).ownBlock ∧ some k_ ≠ (.slice Ao86 t683.length co86 : Value).ownBlock ∧ some k_ ≠ (.slice Ao93 t664.length co93 : Value).ownBlock) s_.2.1 t696) ∧ Aside0 (Kd.R (Kd.int .i64) 3 w' w.heap.size (fun k_ => some k_ ≠ (s_.1 : Value).ownBlock ∧ some k_ ≠ (s_.2.1 : Value).ownBlock ∧ some k_ ≠ (.slice Ao63 t646.length co63 : Value).ownBlock ∧ some k_ ≠ (.slice Ao70 t681.length co70 : Value).ownBlock ∧ some k_ ≠ (.slice Ao86 t683.length co86 : Value).ownBlock ∧ some k_ ≠ (.slice Ao93 t664.length co93 : Value).ownBlock) s_.2.2 t699) ∧ Aside0 (Kd.R (Kd.int .i64) 3 w' w.heap.size (fun k_ => some k_ ≠ (s_.1 : Value).ownBlock ∧ some k_ ≠ (s_.2.1 : Value).ownBlock ∧ some k_ ≠ (s_.2.2 : Value).ownBlock ∧ some k_ ≠ (.slice Ao70 t681.length co70 : Value).ownBlock ∧ some k_ ≠ (.slice Ao86 t683.length co86 : Value).ownBlock ∧ some k_ ≠ (.slice Ao93 t664.length co93 : Value).ownBlock) (.slice Ao63 t646.length co63) t646) ∧ Aside0 (Kd.R (Kd.int .i64) 3 w' w.heap.size (fun k_ => some k_ ≠ (s_.1 : Value).ownBlock ∧ some k_ ≠ (s_.2.1 : Value).ownBlock ∧ some k_ ≠ (s_.2.2 : Value).ownBlock ∧ some k_ ≠ (.slice Ao63 t646.length co63 : Value).ownBlock ∧ some k_ ≠ (.slice Ao86 t683.length co86 : Value).ownBlock ∧ some k_ ≠ (.slice Ao93 t664.length co93 : Value).ownBlock) (.slice Ao70 t681.length co70) t681) ∧ Aside0 (Kd.R (Kd.int .i64) 3 w' w.heap.size (fun k_ => some k_ ≠ (s_.1 : Value).ownBlock ∧ some k_ ≠ (s_.2.1 : Value).ownBlock ∧ some k_ ≠ (s_.2.2 : Value).ownBlock ∧ some k_ ≠ (.slice Ao63 t646.length co63 : Value).ownBlock ∧ some k_ ≠ (.slice Ao70 t681.length co70 : Value).ownBlock ∧ some k_ ≠ (.slice Ao93 t664.length co93 : Value).ownBlock) (.slice Ao86 t683.length co86) t683) ∧ Aside0 (Kd.R (Kd.int .i64) 3 w' w.heap.size (fun k_ => some k_ ≠ (s_.1 : Value).ownBlock ∧ some k_ ≠ (s_.2.1 : Value).ownBlock ∧ some k_ ≠ (s_.2.2 : Value).ownBlock ∧ some k_ ≠ (.slice Ao63 t646.length co63 : Value).ownBlock ∧ some k_ ≠ (.slice Ao70 t681.length co70 : Value).ownBlock ∧ some k_ ≠ (.slice Ao86 t683.length co86 : Value).ownBlock) (.slice Ao93 t664.length co93) t686) ∧ Aside0 (w'.heap[gb630]? = some (.cells #[.slice A0_0 l0_0.length c0_0, .int .i64 a0_1] 58 (0, 0))) ∧ Aside0 (w'.heap[gb631]? = some (.cells #[.int .i64 a1_0, .int .i64 a1_1, .int .i64 a1_2] 60 (0, 0))) ∧ Aside0 (w'.heap[gb632]? = some (.cells #[.int .i64 a2_0, .slice A2_1 l2_1.length c2_1] 62 (0, 0))) ∧ Aside0 (w'.heap[gb650]? = some (.cells #[.slice Ao63 t646.length co63, .int .i64 t649] 65 (0, 0))) ∧ Aside0 (w'.heap[gb655]? = some (.cells #[.slice Ao70 t681.length co70, .int .i64 t654] 65 (0, 0))) ∧ Aside0 (w'.heap[gb660]? = some (.cells #[.int .i64 t656, .slice Ao86 t683.length co86] 70 (0, 0))) ∧ Aside0 (w'.heap[gb668]? = some (.cells #[.slice Ao93 t664.length co93, .int .i64 t667] 65 (0, 0))) ∧ Aside0 (Below w.heap.size w w')) ?_ ?_
               rotate_left
               ·intro hJ1_3_5_6
                refine join_ (σ := Value × Value × Nat) 2 #[true, true, true, true, true, true, false, true, false] (fun s_ => [(82, .agg #[s_.1, .int .i64 t691]), (84, .agg #[.int .i64 t692, .int .i64 t693, .int .i64 t694]), (86, .agg #[.int .i64 t695, s_.2.1]), (15, .pointer (some ⟨s_.2.2, 0, none⟩))]) (fun s_ w' => (w'.cell? ⟨gb630, 0, none⟩ = some (.slice A0_0 l0_0.length c0_0) ∧ w'.cell? ⟨gb630, 1, none⟩ = some (.int .i64 a0_1) ∧ w'.cell? ⟨gb631, 0, none⟩ = some (.int .i64 a1_0) ∧ w'.cell? ⟨gb631, 1, none⟩ = some (.int .i64 a1_1) ∧ w'.cell? ⟨gb631, 2, none⟩ = some (.int .i64 a1_2) ∧ w'.cell? ⟨gb632, 0, none⟩ = some (.int .i64 a2_0) ∧ w'.cell? ⟨gb632, 1, none⟩ = some (.slice A2_1 l2_1.length c2_1)) ∧ Aside0 (Kd.R (Kd.int .i64) 3 w' w.heap.size (fun k_ => some k_ ≠ (s_.2.1 : Value).ownBlock ∧ some k_ ≠ (.slice Ao63 t646.length co63 : Value).ownBlock ∧ some k_ ≠ (.slice Ao70 t681.length co70 : Value).ownBlock ∧ some k_ ≠ (.slice Ao86 t683.length co86 : Value).ownBlock ∧ some k_ ≠ (.slice Ao93 t664.length co93 : Value).ownBlock) s_.1 t688) ∧ Aside0 (Kd.R (Kd.int .i64) 3 w' w.heap.size (fun k_ => some k_ ≠ (s_.1 : Value).ownBlock ∧ some k_ ≠ (.slice Ao63 t646.length co63 : Value).ownBlock ∧ some k_ ≠ (.slice Ao70 t681.length co70 : Value).ownBlock ∧ some k_ ≠ (.slice Ao86 t683.length co86 : Value).ownBlock ∧ some k_ ≠ (.slice Ao93 t664.length co93 : Value).ownBlock) s_.2.1 t696) ∧ Aside0 (Kd.R (Kd.int .i64) 3 w' w.heap.size (fun k_ => some k_ ≠ (s_.1 : Value).ownBlock ∧ some k_ ≠ (s_.2.1 : Value).ownBlock ∧ some k_ ≠ (.slice Ao70 t681.length co70 : Value).ownBlock ∧ some k_ ≠ (.slice Ao86 t683.length co86 : Value).ownBlock ∧ some k_ ≠ (.slice Ao93 t664.length co93 : Value).ownBlock) (.slice Ao63 t646.length co63) t646) ∧ Aside0 (Kd.R (Kd.int .i64) 3 w' w.heap.size (fun k_ => some k_ ≠ (s_.1 : Value).ownBlock ∧ some k_ ≠ (s_.2.1 : Value).ownBlock ∧ some k_ ≠ (.slice Ao63 t646.length co63 : Value).ownBlock ∧ some k_ ≠ (.slice Ao86 t683.length co86 : Value).ownBlock ∧ some k_ ≠ (.slice Ao93 t664.length co93 : Value).ownBlock) (.slice Ao70 t681.length co70) t681) ∧ Aside0 (Kd.R (Kd.int .i64) 3 w' w.heap.size (fun k_ => some k_ ≠ (s_.1 : Value).ownBlock ∧ some k_ ≠ (s_.2.1 : Value).ownBlock ∧ some k_ ≠ (.slice Ao63 t646.length co63 : Value).ownBlock ∧ some k_ ≠ (.slice Ao70 t681.length co70 : Value).ownBlock ∧ some k_ ≠ (.slice Ao93 t664.length co93 : Value).ownBlock) (.slice Ao86 t683.length co86) t683) ∧ Aside0 (Kd.R (Kd.int .i64) 3 w' w.heap.size (fun k_ => some k_ ≠ (s_.1 : Value).ownBlock ∧ some k_ ≠ (s_.2.1 : Value).ownBlock ∧ some k_ ≠ (.slice Ao63 t646.length co63 : Value).ownBlock ∧ some k_ ≠ (.slice Ao70 t681.length co70 : Value).ownBlock ∧ some k_ ≠ (.slice Ao86 t683.length co86 : Value).ownBlock) (.slice Ao93 t664.length co93) t686) ∧ Aside0 (w'.heap[gb630]? = some (.cells #[.slice A0_0 l0_0.length c0_0, .int .i64 a0_1] 58 (0, 0))) ∧ Aside0 (w'.heap[gb631]? = some (.cells #[.int .i64 a1_0, .int .i64 a1_1, .int .i64 a1_2] 60 (0, 0))) ∧ Aside0 (w'.heap[gb632]? = some (.cells #[.int .i64 a2_0, .slice A2_1 l2_1.length c2_1] 62 (0, 0))) ∧ Aside0 (w'.heap[gb650]? = some (.cells #[.slice Ao63 t646.length co63, .int .i64 t649] 65 (0, 0))) ∧ Aside0 (w'.heap[gb655]? = some (.cells #[.slice Ao70 t681.length co70, .int .i64 t654] 65 (0, 0))) ∧ Aside0 (w'.heap[gb660]? = some (.cells #[.int .i64 t656, .slice Ao86 t683.length co86] 70 (0, 0))) ∧ Aside0 (w'.heap[gb668]? = some (.cells #[.slice Ao93 t664.length co93, .int .i64 t667] 65 (0, 0))) ∧ Aside0 (w'.heap[s_.2.2]? = some (.cells #[.slice none 0 0, .int .i64 0] 65 (0, 0))) ∧ Aside0 (w.heap.size ≤ s_.2.2) ∧ Aside0 (w.heap.size ≤ s_.2.2) ∧ Aside0 (gb630 ≠ s_.2.2) ∧ Aside0 (s_.2.2 ≠ gb630) ∧ Aside0 (gb631 ≠ s_.2.2) ∧ Aside0 (s_.2.2 ≠ gb631) ∧ Aside0 (gb632 ≠ s_.2.2) ∧ Aside0 (s_.2.2 ≠ gb632) ∧ Aside0 (gb650 ≠ s_.2.2) ∧ Aside0 (s_.2.2 ≠ gb650) ∧ Aside0 (gb655 ≠ s_.2.2) ∧ Aside0 (s_.2.2 ≠ gb655) ∧ Aside0 (gb660 ≠ s_.2.2) ∧ Aside0 (s_.2.2 ≠ gb660) ∧ Aside0 (gb668 ≠ s_.2.2) ∧ Aside0 (s_.2.2 ≠ gb668) ∧ Aside0 (Below w.heap.size w w')) ?_ ?_
                rotate_left
                ·intro hJ1_3_5_7
                 refine join_ (σ := Value × Value) 3 #[true, true, true, true, true, true, false, false, false] (fun s_ => [(82, .agg #[s_.1, .int .i64 t691]), (84, .agg #[.int .i64 t692, .int .i64 t693, .int .i64 t694]), (86, .agg #[.int .i64 t695, s_.2])]) (fun s_ w' => (w'.cell? ⟨gb630, 0, none⟩ = some (.slice A0_0 l0_0.length c0_0) ∧ w'.cell? ⟨gb630, 1, none⟩ = some (.int .i64 a0_1) ∧ w'.cell? ⟨gb631, 0, none⟩ = some (.int .i64 a1_0) ∧ w'.cell? ⟨gb631, 1, none⟩ = some (.int .i64 a1_1) ∧ w'.cell? ⟨gb631, 2, none⟩ = some (.int .i64 a1_2) ∧ w'.cell? ⟨gb632, 0, none⟩ = some (.int .i64 a2_0) ∧ w'.cell? ⟨gb632, 1, none⟩ = some (.slice A2_1 l2_1.length c2_1)) ∧ Aside0 (Kd.R (Kd.int .i64) 3 w' w.heap.size (fun k_ => some k_ ≠ (s_.2 : Value).ownBlock ∧ some k_ ≠ (.slice Ao63 t646.length co63 : Value).ownBlock ∧ some k_ ≠ (.slice Ao70 t681.length co70 : Value).ownBlock ∧ some k_ ≠ (.slice Ao86 t683.length co86 : Value).ownBlock ∧ some k_ ≠ (.slice Ao93 t664.length co93 : Value).ownBlock) s_.1 t688) ∧ Aside0 (Kd.R (Kd.int .i64) 3 w' w.heap.size (fun k_ => some k_ ≠ (s_.1 : Value).ownBlock ∧ some k_ ≠ (.slice Ao63 t646.length co63 : Value).ownBlock ∧ some k_ ≠ (.slice Ao70 t681.length co70 : Value).ownBlock ∧ some k_ ≠ (.slice Ao86 t683.length co86 : Value).ownBlock ∧ some k_ ≠ (.slice Ao93 t664.length co93 : Value).ownBlock) s_.2 t696) ∧ Aside0 (Kd.R (Kd.int .i64) 3 w' w.heap.size (fun k_ => some k_ ≠ (s_.1 : Value).ownBlock ∧ some k_ ≠ (s_.2 : Value).ownBlock ∧ some k_ ≠ (.slice Ao70 t681.length co70 : Value).ownBlock ∧ some k_ ≠ (.slice Ao86 t683.length co86 : Value).ownBlock ∧ some k_ ≠ (.slice Ao93 t664.length co93 : Value).ownBlock) (.slice Ao63 t646.length co63) t646) ∧ Aside0 (Kd.R (Kd.int .i64) 3 w' w.heap.size (fun k_ => some k_ ≠ (s_.1 : Value).ownBlock ∧ some k_ ≠ (s_.2 : Value).ownBlock ∧ some k_ ≠ (.slice Ao63 t646.length co63 : Value).ownBlock ∧ some k_ ≠ (.slice Ao86 t683.length co86 : Value).ownBlock ∧ some k_ ≠ (.slice Ao93 t664.length co93 : Value).ownBlock) (.slice Ao70 t681.length co70) t681) ∧ Aside0 (Kd.R (Kd.int .i64) 3 w' w.heap.size (fun k_ => some k_ ≠ (s_.1 : Value).ownBlock ∧ some k_ ≠ (s_.2 : Value).ownBlock ∧ some k_ ≠ (.slice Ao63 t646.length co63 : Value).ownBlock ∧ some k_ ≠ (.slice Ao70 t681.length co70 : Value).ownBlock ∧ some k_ ≠ (.slice Ao93 t664.length co93 : Value).ownBlock) (.slice Ao86 t683.length co86) t683) ∧ Aside0 (Kd.R (Kd.int .i64) 3 w' w.heap.size (fun k_ => some k_ ≠ (s_.1 : Value).ownBlock ∧ some k_ ≠ (s_.2 : Value).ownBlock ∧ some k_ ≠ (.slice Ao63 t646.length co63 : Value).ownBlock ∧ some k_ ≠ (.slice Ao70 t681.length co70 : Value).ownBlock ∧ some k_ ≠ (.slice Ao86 t683.length co86 : Value).ownBlock) (.slice Ao93 t664.length co93) t686) ∧ Aside0 (w'.heap[gb630]? = some (.cells #[.slice A0_0 l0_0.length c0_0, .int .i64 a0_1] 58 (0, 0))) ∧ Aside0 (w'.heap[gb631]? = some (.cells #[.int .i64 a1_0, .int .i64 a1_1, .int .i64 a1_2] 60 (0, 0))) ∧ Aside0 (w'.heap[gb632]? = some (.cells #[.int .i64 a2_0, .slice A2_1 l2_1.length c2_1] 62 (0, 0))) ∧ Aside0 (w'.heap[gb650]? = some (.cells #[.slice Ao63 t646.length co63, .int .i64 t649] 65 (0, 0))) ∧ Aside0 (w'.heap[gb655]? = some (.cells #[.slice Ao70 t681.length co70, .int .i64 t654] 65 (0, 0))) ∧ Aside0 (w'.heap[gb660]? = some (.cells #[.int .i64 t656, .slice Ao86 t683.length co86] 70 (0, 0))) ∧ Aside0 (w'.heap[gb668]? = some (.cells #[.slice Ao93 t664.length co93, .int .i64 t667] 65 (0, 0))) ∧ Aside0 (Below w.heap.size w w')) ?_ ?_
                 rotate_left
                 ·intro hJ1_3_5
                  refine join_ (σ := Value × Nat) 3 #[true, true, true, true, true, false, false, true, false] (fun s_ => [(82, .agg #[s_.1, .int .i64 t691]), (84, .agg #[.int .i64 t692, .int .i64 t693, .int .i64 t694]), (15, .pointer (some ⟨s_.2, 0, none⟩))]) (fun s_ w' => (w'.cell? ⟨gb630, 0, none⟩ = some (.slice A0_0 l0_0.length c0_0) ∧ w'.cell? ⟨gb630, 1, none⟩ = some (.int .i64 a0_1) ∧ w'.cell? ⟨gb631, 0, none⟩ = some (.int .i64 a1_0) ∧ w'.cell? ⟨gb631, 1, none⟩ = some (.int .i64 a1_1) ∧ w'.cell? ⟨gb631, 2, none⟩ = some (.int .i64 a1_2) ∧ w'.cell? ⟨gb632, 0, none⟩ = some (.int .i64 a2_0) ∧ w'.cell? ⟨gb632, 1, none⟩ = some (.slice A2_1 l2_1.length c2_1)) ∧ Aside0 (Kd.R (Kd.int .i64) 3 w' w.heap.size (fun k_ => some k_ ≠ (.slice Ao63 t646.length co63 : Value).ownBlock ∧ some k_ ≠ (.slice Ao70 t681.length co70 : Value).ownBlock ∧ some k_ ≠ (.slice Ao86 t683.length co86 : Value).ownBlock ∧ some k_ ≠ (.slice Ao93 t664.length co93 : Value).ownBlock) s_.1 t688) ∧ Aside0 (Kd.R (Kd.int .i64) 3 w' w.heap.size (fun k_ => some k_ ≠ (s_.1 : Value).ownBlock ∧ some k_ ≠ (.slice Ao70 t681.length co70 : Value).ownBlock ∧ some k_ ≠ (.slice Ao86 t683.length co86 : Value).ownBlock ∧ some k_ ≠ (.slice Ao93 t664.length co93 : Value).ownBlock) (.slice Ao63 t646.length co63) t646) ∧ Aside0 (Kd.R (Kd.int .i64) 3 w' w.heap.size (fun k_ => some k_ ≠ (s_.1 : Value).ownBlock ∧ some k_ ≠ (.slice Ao63 t646.length co63 : Value).ownBlock ∧ some k_ ≠ (.slice Ao86 t683.length co86 : Value).ownBlock ∧ some k_ ≠ (.slice Ao93 t664.length co93 : Value).ownBlock) (.slice Ao70 t681.length co70) t681) ∧ Aside0 (Kd.R (Kd.int .i64) 3 w' w.heap.size (fun k_ => some k_ ≠ (s_.1 : Value).ownBlock ∧ some k_ ≠ (.slice Ao63 t646.length co63 : Value).ownBlock ∧ some k_ ≠ (.slice Ao70 t681.length co70 : Value).ownBlock ∧ some k_ ≠ (.slice Ao93 t664.length co93 : Value).ownBlock) (.slice Ao86 t683.length co86) t683) ∧ Aside0 (Kd.R (Kd.int .i64) 3 w' w.heap.size (fun k_ => some k_ ≠ (s_.1 : Value).ownBlock ∧ some k_ ≠ (.slice Ao63 t646.length co63 : Value).ownBlock ∧ some k_ ≠ (.slice Ao70 t681.length co70 : Value).ownBlock ∧ some k_ ≠ (.slice Ao86 t683.length co86 : Value).ownBlock) (.slice Ao93 t664.length co93) t686) ∧ Aside0 (w'.heap[gb630]? = some (.cells #[.slice A0_0 l0_0.length c0_0, .int .i64 a0_1] 58 (0, 0))) ∧ Aside0 (w'.heap[gb631]? = some (.cells #[.int .i64 a1_0, .int .i64 a1_1, .int .i64 a1_2] 60 (0, 0))) ∧ Aside0 (w'.heap[gb632]? = some (.cells #[.int .i64 a2_0, .slice A2_1 l2_1.length c2_1] 62 (0, 0))) ∧ Aside0 (w'.heap[gb650]? = some (.cells #[.slice Ao63 t646.length co63, .int .i64 t649] 65 (0, 0))) ∧ Aside0 (w'.heap[gb655]? = some (.cells #[.slice Ao70 t681.length co70, .int .i64 t654] 65 (0, 0))) ∧ Aside0 (w'.heap[gb660]? = some (.cells #[.int .i64 t656, .slice Ao86 t683.length co86] 70 (0, 0))) ∧ Aside0 (w'.heap[gb668]? = some (.cells #[.slice Ao93 t664.length co93, .int .i64 t667] 65 (0, 0))) ∧ Aside0 (w'.heap[s_.2]? = some (.cells #[.slice none 0 0, .int .i64 0] 65 (0, 0))) ∧ Aside0 (w.heap.size ≤ s_.2) ∧ Aside0 (w.heap.size ≤ s_.2) ∧ Aside0 (gb630 ≠ s_.2) ∧ Aside0 (s_.2 ≠ gb630) ∧ Aside0 (gb631 ≠ s_.2) ∧ Aside0 (s_.2 ≠ gb631) ∧ Aside0 (gb632 ≠ s_.2) ∧ Aside0 (s_.2 ≠ gb632) ∧ Aside0 (gb650 ≠ s_.2) ∧ Aside0 (s_.2 ≠ gb650) ∧ Aside0 (gb655 ≠ s_.2) ∧ Aside0 (s_.2 ≠ gb655) ∧ Aside0 (gb660 ≠ s_.2) ∧ Aside0 (s_.2 ≠ gb660) ∧ Aside0 (gb668 ≠ s_.2) ∧ Aside0 (s_.2 ≠ gb668) ∧ Aside0 (Below w.heap.size w w')) ?_ ?_
                  rotate_left
                  ·intro hJ1_3_7
                   refine join_ (σ := Value) 4 #[true, true, true, true, true, false, false, false, false] (fun s_ => [(82, .agg #[s_, .int .i64 t691]), (84, .agg #[.int .i64 t692, .int .i64 t693, .int .i64 t694])]) (fun s_ w' => (w'.cell? ⟨gb630, 0, none⟩ = some (.slice A0_0 l0_0.length c0_0) ∧ w'.cell? ⟨gb630, 1, none⟩ = some (.int .i64 a0_1) ∧ w'.cell? ⟨gb631, 0, none⟩ = some (.int .i64 a1_0) ∧ w'.cell? ⟨gb631, 1, none⟩ = some (.int .i64 a1_1) ∧ w'.cell? ⟨gb631, 2, none⟩ = some (.int .i64 a1_2) ∧ w'.cell? ⟨gb632, 0, none⟩ = some (.int .i64 a2_0) ∧ w'.cell? ⟨gb632, 1, none⟩ = some (.slice A2_1 l2_1.length c2_1)) ∧ Aside0 (Kd.R (Kd.int .i64) 3 w' w.heap.size (fun k_ => some k_ ≠ (.slice Ao63 t646.length co63 : Value).ownBlock ∧ some k_ ≠ (.slice Ao70 t681.length co70 : Value).ownBlock ∧ some k_ ≠ (.slice Ao86 t683.length co86 : Value).ownBlock ∧ some k_ ≠ (.slice Ao93 t664.length co93 : Value).ownBlock) s_ t688) ∧ Aside0 (Kd.R (Kd.int .i64) 3 w' w.heap.size (fun k_ => some k_ ≠ (s_ : Value).ownBlock ∧ some k_ ≠ (.slice Ao70 t681.length co70 : Value).ownBlock ∧ some k_ ≠ (.slice Ao86 t683.length co86 : Value).ownBlock ∧ some k_ ≠ (.slice Ao93 t664.length co93 : Value).ownBlock) (.slice Ao63 t646.length co63) t646) ∧ Aside0 (Kd.R (Kd.int .i64) 3 w' w.heap.size (fun k_ => some k_ ≠ (s_ : Value).ownBlock ∧ some k_ ≠ (.slice Ao63 t646.length co63 : Value).ownBlock ∧ some k_ ≠ (.slice Ao86 t683.length co86 : Value).ownBlock ∧ some k_ ≠ (.slice Ao93 t664.length co93 : Value).ownBlock) (.slice Ao70 t681.length co70) t681) ∧ Aside0 (Kd.R (Kd.int .i64) 3 w' w.heap.size (fun k_ => some k_ ≠ (s_ : Value).ownBlock ∧ some k_ ≠ (.slice Ao63 t646.length co63 : Value).ownBlock ∧ some k_ ≠ (.slice Ao70 t681.length co70 : Value).ownBlock ∧ some k_ ≠ (.slice Ao93 t664.length co93 : Value).ownBlock) (.slice Ao86 t683.length co86) t683) ∧ Aside0 (Kd.R (Kd.int .i64) 3 w' w.heap.size (fun k_ => some k_ ≠ (s_ : Value).ownBlock ∧ some k_ ≠ (.slice Ao63 t646.length co63 : Value).ownBlock ∧ some k_ ≠ (.slice Ao70 t681.length co70 : Value).ownBlock ∧ some k_ ≠ (.slice Ao86 t683.length co86 : Value).ownBlock) (.slice Ao93 t664.length co93) t686) ∧ Aside0 (w'.heap[gb630]? = some (.cells #[.slice A0_0 l0_0.length c0_0, .int .i64 a0_1] 58 (0, 0))) ∧ Aside0 (w'.heap[gb631]? = some (.cells #[.int .i64 a1_0, .int .i64 a1_1, .int .i64 a1_2] 60 (0, 0))) ∧ Aside0 (w'.heap[gb632]? = some (.cells #[.int .i64 a2_0, .slice A2_1 l2_1.length c2_1] 62 (0, 0))) ∧ Aside0 (w'.heap[gb650]? = some (.cells #[.slice Ao63 t646.length co63, .int .i64 t649] 65 (0, 0))) ∧ Aside0 (w'.heap[gb655]? = some (.cells #[.slice Ao70 t681.length co70, .int .i64 t654] 65 (0, 0))) ∧ Aside0 (w'.heap[gb660]? = some (.cells #[.int .i64 t656, .slice Ao86 t683.length co86] 70 (0, 0))) ∧ Aside0 (w'.heap[gb668]? = some (.cells #[.slice Ao93 t664.length co93, .int .i64 t667] 65 (0, 0))) ∧ Aside0 (Below w.heap.size w w')) ?_ ?_
                   rotate_left
                   ·intro hJ1_3
                    refine join_ (σ := Value × Nat) 4 #[true, true, true, false, true, false, false, true, false] (fun s_ => [(82, .agg #[s_.1, .int .i64 t691]), (15, .pointer (some ⟨s_.2, 0, none⟩))]) (fun s_ w' => (w'.cell? ⟨gb630, 0, none⟩ = some (.slice A0_0 l0_0.length c0_0) ∧ w'.cell? ⟨gb630, 1, none⟩ = some (.int .i64 a0_1) ∧ w'.cell? ⟨gb631, 0, none⟩ = some (.int .i64 a1_0) ∧ w'.cell? ⟨gb631, 1, none⟩ = some (.int .i64 a1_1) ∧ w'.cell? ⟨gb631, 2, none⟩ = some (.int .i64 a1_2) ∧ w'.cell? ⟨gb632, 0, none⟩ = some (.int .i64 a2_0) ∧ w'.cell? ⟨gb632, 1, none⟩ = some (.slice A2_1 l2_1.length c2_1)) ∧ Aside0 (Kd.R (Kd.int .i64) 3 w' w.heap.size (fun k_ => some k_ ≠ (.slice Ao63 t646.length co63 : Value).ownBlock ∧ some k_ ≠ (.slice Ao70 t681.length co70 : Value).ownBlock ∧ some k_ ≠ (.slice Ao86 t683.length co86 : Value).ownBlock ∧ some k_ ≠ (.slice Ao93 t664.length co93 : Value).ownBlock) s_.1 t688) ∧ Aside0 (Kd.R (Kd.int .i64) 3 w' w.heap.size (fun k_ => some k_ ≠ (s_.1 : Value).ownBlock ∧ some k_ ≠ (.slice Ao70 t681.length co70 : Value).ownBlock ∧ some k_ ≠ (.slice Ao86 t683.length co86 : Value).ownBlock ∧ some k_ ≠ (.slice Ao93 t664.length co93 : Value).ownBlock) (.slice Ao63 t646.length co63) t646) ∧ Aside0 (Kd.R (Kd.int .i64) 3 w' w.heap.size (fun k_ => some k_ ≠ (s_.1 : Value).ownBlock ∧ some k_ ≠ (.slice Ao63 t646.length co63 : Value).ownBlock ∧ some k_ ≠ (.slice Ao86 t683.length co86 : Value).ownBlock ∧ some k_ ≠ (.slice Ao93 t664.length co93 : Value).ownBlock) (.slice Ao70 t681.length co70) t681) ∧ Aside0 (Kd.R (Kd.int .i64) 3 w' w.heap.size (fun k_ => some k_ ≠ (s_.1 : Value).ownBlock ∧ some k_ ≠ (.slice Ao63 t646.length co63 : Value).ownBlock ∧ some k_ ≠ (.slice Ao70 t681.length co70 : Value).ownBlock ∧ some k_ ≠ (.slice Ao93 t664.length co93 : Value).ownBlock) (.slice Ao86 t683.length co86) t683) ∧ Aside0 (Kd.R (Kd.int .i64) 3 w' w.heap.size (fun k_ => some k_ ≠ (s_.1 : Value).ownBlock ∧ some k_ ≠ (.slice Ao63 t646.length co63 : Value).ownBlock ∧ some k_ ≠ (.slice Ao70 t681.length co70 : Value).ownBlock ∧ some k_ ≠ (.slice Ao86 t683.length co86 : Value).ownBlock) (.slice Ao93 t664.length co93) t686) ∧ Aside0 (w'.heap[gb630]? = some (.cells #[.slice A0_0 l0_0.length c0_0, .int .i64 a0_1] 58 (0, 0))) ∧ Aside0 (w'.heap[gb631]? = some (.cells #[.int .i64 a1_0, .int .i64 a1_1, .int .i64 a1_2] 60 (0, 0))) ∧ Aside0 (w'.heap[gb632]? = some (.cells #[.int .i64 a2_0, .slice A2_1 l2_1.length c2_1] 62 (0, 0))) ∧ Aside0 (w'.heap[gb650]? = some (.cells #[.slice Ao63 t646.length co63, .int .i64 t649] 65 (0, 0))) ∧ Aside0 (w'.heap[gb655]? = some (.cells #[.slice Ao70 t681.length co70, .int .i64 t654] 65 (0, 0))) ∧ Aside0 (w'.heap[gb660]? = some (.cells #[.int .i64 t656, .slice Ao86 t683.length co86] 70 (0, 0))) ∧ Aside0 (w'.heap[gb668]? = some (.cells #[.slice Ao93 t664.length co93, .int .i64 t667] 65 (0, 0))) ∧ Aside0 (w'.heap[s_.2]? = some (.cells #[.slice none 0 0, .int .i64 0] 65 (0, 0))) ∧ Aside0 (w.heap.size ≤ s_.2) ∧ Aside0 (w.heap.size ≤ s_.2) ∧ Aside0 (gb630 ≠ s_.2) ∧ Aside0 (s_.2 ≠ gb630) ∧ Aside0 (gb631 ≠ s_.2) ∧ Aside0 (s_.2 ≠ gb631) ∧ Aside0 (gb632 ≠ s_.2) ∧ Aside0 (s_.2 ≠ gb632) ∧ Aside0 (gb650 ≠ s_.2) ∧ Aside0 (s_.2 ≠ gb650) ∧ Aside0 (gb655 ≠ s_.2) ∧ Aside0 (s_.2 ≠ gb655) ∧ Aside0 (gb660 ≠ s_.2) ∧ Aside0 (s_.2 ≠ gb660) ∧ Aside0 (gb668 ≠ s_.2) ∧ Aside0 (s_.2 ≠ gb668) ∧ Aside0 (Below w.heap.size w w')) ?_ ?_
                    rotate_left
                    ·intro hJ1_7
                     refine join_ (σ := Value) 5 #[true, true, true, false, true, false, false, false, false] (fun s_ => [(82, .agg #[s_, .int .i64 t691])]) (fun s_ w' => (w'.cell? ⟨gb630, 0, none⟩ = some (.slice A0_0 l0_0.length c0_0) ∧ w'.cell? ⟨gb630, 1, none⟩ = some (.int .i64 a0_1) ∧ w'.cell? ⟨gb631, 0, none⟩ = some (.int .i64 a1_0) ∧ w'.cell? ⟨gb631, 1, none⟩ = some (.int .i64 a1_1) ∧ w'.cell? ⟨gb631, 2, none⟩ = some (.int .i64 a1_2) ∧ w'.cell? ⟨gb632, 0, none⟩ = some (.int .i64 a2_0) ∧ w'.cell? ⟨gb632, 1, none⟩ = some (.slice A2_1 l2_1.length c2_1)) ∧ Aside0 (Kd.R (Kd.int .i64) 3 w' w.heap.size (fun k_ => some k_ ≠ (.slice Ao63 t646.length co63 : Value).ownBlock ∧ some k_ ≠ (.slice Ao70 t681.length co70 : Value).ownBlock ∧ some k_ ≠ (.slice Ao86 t683.length co86 : Value).ownBlock ∧ some k_ ≠ (.slice Ao93 t664.length co93 : Value).ownBlock) s_ t688) ∧ Aside0 (Kd.R (Kd.int .i64) 3 w' w.heap.size (fun k_ => some k_ ≠ (s_ : Value).ownBlock ∧ some k_ ≠ (.slice Ao70 t681.length co70 : Value).ownBlock ∧ some k_ ≠ (.slice Ao86 t683.length co86 : Value).ownBlock ∧ some k_ ≠ (.slice Ao93 t664.length co93 : Value).ownBlock) (.slice Ao63 t646.length co63) t646) ∧ Aside0 (Kd.R (Kd.int .i64) 3 w' w.heap.size (fun k_ => some k_ ≠ (s_ : Value).ownBlock ∧ some k_ ≠ (.slice Ao63 t646.length co63 : Value).ownBlock ∧ some k_ ≠ (.slice Ao86 t683.length co86 : Value).ownBlock ∧ some k_ ≠ (.slice Ao93 t664.length co93 : Value).ownBlock) (.slice Ao70 t681.length co70) t681) ∧ Aside0 (Kd.R (Kd.int .i64) 3 w' w.heap.size (fun k_ => some k_ ≠ (s_ : Value).ownBlock ∧ some k_ ≠ (.slice Ao63 t646.length co63 : Value).ownBlock ∧ some k_ ≠ (.slice Ao70 t681.length co70 : Value).ownBlock ∧ some k_ ≠ (.slice Ao93 t664.length co93 : Value).ownBlock) (.slice Ao86 t683.length co86) t683) ∧ Aside0 (Kd.R (Kd.int .i64) 3 w' w.heap.size (fun k_ => some k_ ≠ (s_ : Value).ownBlock ∧ some k_ ≠ (.slice Ao63 t646.length co63 : Value).ownBlock ∧ some k_ ≠ (.slice Ao70 t681.length co70 : Value).ownBlock ∧ some k_ ≠ (.slice Ao86 t683.length co86 : Value).ownBlock) (.slice Ao93 t664.length co93) t686) ∧ Aside0 (w'.heap[gb630]? = some (.cells #[.slice A0_0 l0_0.length c0_0, .int .i64 a0_1] 58 (0, 0))) ∧ Aside0 (w'.heap[gb631]? = some (.cells #[.int .i64 a1_0, .int .i64 a1_1, .int .i64 a1_2] 60 (0, 0))) ∧ Aside0 (w'.heap[gb632]? = some (.cells #[.int .i64 a2_0, .slice A2_1 l2_1.length c2_1] 62 (0, 0))) ∧ Aside0 (w'.heap[gb650]? = some (.cells #[.slice Ao63 t646.length co63, .int .i64 t649] 65 (0, 0))) ∧ Aside0 (w'.heap[gb655]? = some (.cells #[.slice Ao70 t681.length co70, .int .i64 t654] 65 (0, 0))) ∧ Aside0 (w'.heap[gb660]? = some (.cells #[.int .i64 t656, .slice Ao86 t683.length co86] 70 (0, 0))) ∧ Aside0 (w'.heap[gb668]? = some (.cells #[.slice Ao93 t664.length co93, .int .i64 t667] 65 (0, 0))) ∧ Aside0 (Below w.heap.size w w')) ?_ ?_
                     rotate_left
                     ·intro hJ1
                      refine join_ (σ := Nat) 5 #[true, false, true, false, true, false, false, true, false] (fun s_ => [(15, .pointer (some ⟨s_, 0, none⟩))]) (fun s_ w' => (w'.cell? ⟨gb630, 0, none⟩ = some (.slice A0_0 l0_0.length c0_0) ∧ w'.cell? ⟨gb630, 1, none⟩ = some (.int .i64 a0_1) ∧ w'.cell? ⟨gb631, 0, none⟩ = some (.int .i64 a1_0) ∧ w'.cell? ⟨gb631, 1, none⟩ = some (.int .i64 a1_1) ∧ w'.cell? ⟨gb631, 2, none⟩ = some (.int .i64 a1_2) ∧ w'.cell? ⟨gb632, 0, none⟩ = some (.int .i64 a2_0) ∧ w'.cell? ⟨gb632, 1, none⟩ = some (.slice A2_1 l2_1.length c2_1)) ∧ Aside0 (Kd.R (Kd.int .i64) 3 w' w.heap.size (fun k_ => some k_ ≠ (.slice Ao70 t681.length co70 : Value).ownBlock ∧ some k_ ≠ (.slice Ao86 t683.length co86 : Value).ownBlock ∧ some k_ ≠ (.slice Ao93 t664.length co93 : Value).ownBlock) (.slice Ao63 t646.length co63) t646) ∧ Aside0 (Kd.R (Kd.int .i64) 3 w' w.heap.size (fun k_ => some k_ ≠ (.slice Ao63 t646.length co63 : Value).ownBlock ∧ some k_ ≠ (.slice Ao86 t683.length co86 : Value).ownBlock ∧ some k_ ≠ (.slice Ao93 t664.length co93 : Value).ownBlock) (.slice Ao70 t681.length co70) t681) ∧ Aside0 (Kd.R (Kd.int .i64) 3 w' w.heap.size (fun k_ => some k_ ≠ (.slice Ao63 t646.length co63 : Value).ownBlock ∧ some k_ ≠ (.slice Ao70 t681.length co70 : Value).ownBlock ∧ some k_ ≠ (.slice Ao93 t664.length co93 : Value).ownBlock) (.slice Ao86 t683.length co86) t683) ∧ Aside0 (Kd.R (Kd.int .i64) 3 w' w.heap.size (fun k_ => some k_ ≠ (.slice Ao63 t646.length co63 : Value).ownBlock ∧ some k_ ≠ (.slice Ao70 t681.length co70 : Value).ownBlock ∧ some k_ ≠ (.slice Ao86 t683.length co86 : Value).ownBlock) (.slice Ao93 t664.length co93) t686) ∧ Aside0 (w'.heap[gb630]? = some (.cells #[.slice A0_0 l0_0.length c0_0, .int .i64 a0_1] 58 (0, 0))) ∧ Aside0 (w'.heap[gb631]? = some (.cells #[.int .i64 a1_0, .int .i64 a1_1, .int .i64 a1_2] 60 (0, 0))) ∧ Aside0 (w'.heap[gb632]? = some (.cells #[.int .i64 a2_0, .slice A2_1 l2_1.length c2_1] 62 (0, 0))) ∧ Aside0 (w'.heap[gb650]? = some (.cells #[.slice Ao63 t646.length co63, .int .i64 t649] 65 (0, 0))) ∧ Aside0 (w'.heap[gb655]? = some (.cells #[.slice Ao70 t681.length co70, .int .i64 t654] 65 (0, 0))) ∧ Aside0 (w'.heap[gb660]? = some (.cells #[.int .i64 t656, .slice Ao86 t683.length co86] 70 (0, 0))) ∧ Aside0 (w'.heap[gb668]? = some (.cells #[.slice Ao93 t664.length co93, .int .i64 t667] 65 (0, 0))) ∧ Aside0 (w'.heap[s_]? = some (.cells #[.slice none 0 0, .int .i64 0] 65 (0, 0))) ∧ Aside0 (w.heap.size ≤ s_) ∧ Aside0 (w.heap.size ≤ s_) ∧ Aside0 (gb630 ≠ s_) ∧ Aside0 (s_ ≠ gb630) ∧ Aside0 (gb631 ≠ s_) ∧ Aside0 (s_ ≠ gb631) ∧ Aside0 (gb632 ≠ s_) ∧ Aside0 (s_ ≠ gb632) ∧ Aside0 (gb650 ≠ s_) ∧ Aside0 (s_ ≠ gb650) ∧ Aside0 (gb655 ≠ s_) ∧ Aside0 (s_ ≠ gb655) ∧ Aside0 (gb660 ≠ s_) ∧ Aside0 (s_ ≠ gb660) ∧ Aside0 (gb668 ≠ s_) ∧ Aside0 (s_ ≠ gb668) ∧ Aside0 (Below w.heap.size w w')) ?_ ?_
                      rotate_left
                      ·intro hJ7
                       refine two_ (i := 1) (j := 7) (Ni := some 82) (Nj := some 15) #[true, true, true, false, true, false, false, false, false] #[true, false, true, false, true, false, false, true, false] rfl rfl rfl rfl (two_of HT_.out (by kernel_rfl)) (by decide) (by decide) (fun K hK => ?_) (fun K hK => ?_)
                       ·skip
                        refine gS Try.func35 #[.agg #[.slice A0_0 l0_0.length c0_0, .int .i64 a0_1]] ?_
                        with_reducible refine (laws_toRows.calls kj42 _ _ l0_0 a0_1 t688 t691 _ ?side1 ?side2 A139.out).mono ?_
                        (case side1 => exact kc HR0_0 HB)
                        (case side2 => exact HC0_0.out)
                        rintro e w159 ⟨v689, rfl, ho0, hb⟩
                        refine ⟨_, rfl, ?_⟩
                        have HO690 := Aside0.mk (Kd.R_lower (Kd.R_new' (Kd.R_new' (Kd.R_new' (Kd.R_new' ho0 (Kd.R_lt (kr HO_651000.out))) (Kd.R_lt (kr HO_656000.out))) (Kd.R_lt (kr HO_661001.out))) (Kd.R_lt (kr HO_669000.out))) (below_size (tb HB)))
                        replace HO_651000 := Aside0.mk (Kd.R_elder' (kr HO_651000.out) (Kd.R_base ho0) hb)
                        replace HO_656000 := Aside0.mk (Kd.R_elder' (kr HO_656000.out) (Kd.R_base ho0) hb)
                        replace HO_661001 := Aside0.mk (Kd.R_elder' (kr HO_661001.out) (Kd.R_base ho0) hb)
                        replace HO_669000 := Aside0.mk (Kd.R_elder' (kr HO_669000.out) (Kd.R_base ho0) hb)
                        replace BK630 := bb BK630 hb
                        replace BK631 := bb BK631 hb
                        replace BK632 := bb BK632 hb
                        replace BK650 := bb BK650 hb
                        replace BK655 := bb BK655 hb
                        replace BK660 := bb BK660 hb
                        replace BK668 := bb BK668 hb
                        replace HB := bs HB hb
                        (try clear hb)
                        (try clear hb2)
                        (try clear hk)
                        (try clear hi)
                        (try clear ho0)
                        refine hK.out _ _ ⟨cz BK630 0, cz BK630 1, cz BK631 0, cz BK631 1, cz BK631 2, cz BK632 0, cz BK632 1⟩ (fun hHeld => ?_)
                        clear hK K
                        refine nm 82 ?_
                        exact norm_ np (hJ1 (v689) _ ⟨hHeld, ⟨kr (Kd.R_mono HO690.out (fun _ hk => ⟨hk.1.1.1.2, ⟨hk.1.1.2, ⟨hk.1.2, hk.2⟩⟩⟩))⟩, ⟨kr (Kd.R_mono HO_651000.out (fun _ hk => ⟨hk.2, ⟨hk.1.1, ⟨hk.1.2.1, hk.1.2.2⟩⟩⟩))⟩, ⟨kr (Kd.R_mono HO_656000.out (fun _ hk => ⟨hk.2, ⟨hk.1.1, ⟨hk.1.2.1, hk.1.2.2⟩⟩⟩))⟩, ⟨kr (Kd.R_mono HO_661001.out (fun _ hk => ⟨hk.2, ⟨hk.1.1, ⟨hk.1.2.1, hk.1.2.2⟩⟩⟩))⟩, ⟨kr (Kd.R_mono HO_669000.out (fun _ hk => ⟨hk.2, ⟨hk.1.1, ⟨hk.1.2.1, hk.1.2.2⟩⟩⟩))⟩, ⟨bk BK630⟩, ⟨bk BK631⟩, ⟨bk BK632⟩, ⟨bk BK650⟩, ⟨bk BK655⟩, ⟨bk BK660⟩, ⟨bk BK668⟩, ⟨tb HB⟩⟩)
                       ·skip
                        refine bxs (N := 15) (cs := #[.slice none 0 0, .int .i64 0]) (t := 65) ?_
                        intro gb703 hg w159 hbox hb
                        replace HO_651000 := rb HO_651000 hb
                        replace HO_656000 := rb HO_656000 hb
                        replace HO_661001 := rb HO_661001 hb
                        replace HO_669000 := rb HO_669000 hb
                        have BK703 := Aside0.mk (hbox)
                        have GW703 := Aside0.mk (ge_ hg HB)
                        have GE703 := Aside0.mk (ge_ hg HB)
                        replace HB := bs HB hb
                        have NB630_703 := Aside0.mk (nl_ hg BK630)
                        have NB703_630 := Aside0.mk (ng_ hg BK630)
                        replace BK630 := bb BK630 hb
                        have NB631_703 := Aside0.mk (nl_ hg BK631)
                        have NB703_631 := Aside0.mk (ng_ hg BK631)
                        replace BK631 := bb BK631 hb
                        have NB632_703 := Aside0.mk (nl_ hg BK632)
                        have NB703_632 := Aside0.mk (ng_ hg BK632)
                        replace BK632 := bb BK632 hb
                        have NB650_703 := Aside0.mk (nl_ hg BK650)
                        have NB703_650 := Aside0.mk (ng_ hg BK650)
                        replace BK650 := bb BK650 hb
                        have NB655_703 := Aside0.mk (nl_ hg BK655)
                        have NB703_655 := Aside0.mk (ng_ hg BK655)
                        replace BK655 := bb BK655 hb
                        have NB660_703 := Aside0.mk (nl_ hg BK660)
                        have NB703_660 := Aside0.mk (ng_ hg BK660)
                        replace BK660 := bb BK660 hb
                        have NB668_703 := Aside0.mk (nl_ hg BK668)
                        have NB703_668 := Aside0.mk (ng_ hg BK668)
                        replace BK668 := bb BK668 hb
                        clear hb hbox hg
                        refine hK.out _ _ ⟨cz BK630 0, cz BK630 1, cz BK631 0, cz BK631 1, cz BK631 2, cz BK632 0, cz BK632 1⟩ (fun hHeld => ?_)
                        clear hK K
                        refine nm 15 ?_
                        exact norm_ np (hJ7 (gb703) _ ⟨hHeld, ⟨kr HO_651000.out⟩, ⟨kr HO_656000.out⟩, ⟨kr HO_661001.out⟩, ⟨kr HO_669000.out⟩, ⟨bk BK630⟩, ⟨bk BK631⟩, ⟨bk BK632⟩, ⟨bk BK650⟩, ⟨bk BK655⟩, ⟨bk BK660⟩, ⟨bk BK668⟩, ⟨bk BK703⟩, GW703, GE703, NB630_703, NB703_630, NB631_703, NB703_631, NB632_703, NB703_632, NB650_703, NB703_650, NB655_703, NB703_655, NB660_703, NB703_660, NB668_703, NB703_668, ⟨tb HB⟩⟩)
                      ·skip
                       clear HO_651000 HO_656000 HO_661001 HO_669000 BK630 BK631 BK632 BK650 BK655 BK660 BK668 HB
                       rintro gb703 w160 ⟨hHeld, HO_651000, HO_656000, HO_661001, HO_669000, BK630, BK631, BK632, BK650, BK655, BK660, BK668, BK703, GW703, GE703, NB630_703, NB703_630, NB631_703, NB703_631, NB632_703, NB703_632, NB650_703, NB703_650, NB655_703, NB703_655, NB660_703, NB703_660, NB668_703, NB703_668, HB⟩
                       refine nmp ?_
                       refine one_ (i := 1) (N := some 82) #[true, true, true, false, true, false, false, true, false] rfl rfl (one_of HT_.out (by kernel_rfl)) (by decide) (fun K hK => ?_)
                       refine gS Try.func35 #[.agg #[.slice A0_0 l0_0.length c0_0, .int .i64 a0_1]] ?_
                       with_reducible refine (laws_toRows.calls kj42 _ _ l0_0 a0_1 t688 t691 _ ?side1 ?side2 A139.out).mono ?_
                       (case side1 => exact kc HR0_0 HB)
                       (case side2 => exact HC0_0.out)
                       rintro e w161 ⟨v689, rfl, ho0, hb⟩
                       refine ⟨_, rfl, ?_⟩
                       have HO690 := Aside0.mk (Kd.R_lower (Kd.R_new' (Kd.R_new' (Kd.R_new' (Kd.R_new' ho0 (Kd.R_lt (kr HO_651000.out))) (Kd.R_lt (kr HO_656000.out))) (Kd.R_lt (kr HO_661001.out))) (Kd.R_lt (kr HO_669000.out))) (below_size (tb HB)))
                       replace HO_651000 := Aside0.mk (Kd.R_elder' (kr HO_651000.out) (Kd.R_base ho0) hb)
                       replace HO_656000 := Aside0.mk (Kd.R_elder' (kr HO_656000.out) (Kd.R_base ho0) hb)
                       replace HO_661001 := Aside0.mk (Kd.R_elder' (kr HO_661001.out) (Kd.R_base ho0) hb)
                       replace HO_669000 := Aside0.mk (Kd.R_elder' (kr HO_669000.out) (Kd.R_base ho0) hb)
                       replace BK630 := bb BK630 hb
                       replace BK631 := bb BK631 hb
                       replace BK632 := bb BK632 hb
                       replace BK650 := bb BK650 hb
                       replace BK655 := bb BK655 hb
                       replace BK660 := bb BK660 hb
                       replace BK668 := bb BK668 hb
                       replace BK703 := bb BK703 hb
                       replace HB := bs HB hb
                       (try clear hb)
                       (try clear hb2)
                       (try clear hk)
                       (try clear hi)
                       (try clear ho0)
                       refine hK.out _ _ ⟨cz BK630 0, cz BK630 1, cz BK631 0, cz BK631 1, cz BK631 2, cz BK632 0, cz BK632 1⟩ (fun hHeld => ?_)
                       clear hK K
                       refine nm 82 ?_
                       exact norm_ np (hJ1_7 (v689, gb703) _ ⟨hHeld, ⟨kr (Kd.R_mono HO690.out (fun _ hk => ⟨hk.1.1.1.2, ⟨hk.1.1.2, ⟨hk.1.2, hk.2⟩⟩⟩))⟩, ⟨kr (Kd.R_mono HO_651000.out (fun _ hk => ⟨hk.2, ⟨hk.1.1, ⟨hk.1.2.1, hk.1.2.2⟩⟩⟩))⟩, ⟨kr (Kd.R_mono HO_656000.out (fun _ hk => ⟨hk.2, ⟨hk.1.1, ⟨hk.1.2.1, hk.1.2.2⟩⟩⟩))⟩, ⟨kr (Kd.R_mono HO_661001.out (fun _ hk => ⟨hk.2, ⟨hk.1.1, ⟨hk.1.2.1, hk.1.2.2⟩⟩⟩))⟩, ⟨kr (Kd.R_mono HO_669000.out (fun _ hk => ⟨hk.2, ⟨hk.1.1, ⟨hk.1.2.1, hk.1.2.2⟩⟩⟩))⟩, ⟨bk BK630⟩, ⟨bk BK631⟩, ⟨bk BK632⟩, ⟨bk BK650⟩, ⟨bk BK655⟩, ⟨bk BK660⟩, ⟨bk BK668⟩, ⟨bk BK703⟩, GW703, GE703, NB630_703, NB703_630, NB631_703, NB703_631, NB632_703, NB703_632, NB650_703, NB703_650, NB655_703, NB703_655, NB660_703, NB703_660, NB668_703, NB703_668, ⟨tb HB⟩⟩)
                     ·skip
                      clear HO_651000 HO_656000 HO_661001 HO_669000 BK630 BK631 BK632 BK650 BK655 BK660 BK668 HB
                      rintro v689 w160 ⟨hHeld, HO690, HO_651000, HO_656000, HO_661001, HO_669000, BK630, BK631, BK632, BK650, BK655, BK660, BK668, HB⟩
                      refine nmp ?_
                      refine two_ (i := 3) (j := 7) (Ni := some 84) (Nj := some 15) #[true, true, true, true, true, false, false, false, false] #[true, true, true, false, true, false, false, true, false] rfl rfl rfl rfl (two_of HT_.out (by kernel_rfl)) (by decide) (by decide) (fun K hK => ?_) (fun K hK => ?_)
                      ·skip
                       refine gS Try.func36 #[.agg #[.int .i64 a1_0, .int .i64 a1_1, .int .i64 a1_2]] ?_
                       with_reducible refine (laws_toOp.calls a1_0 a1_1 a1_2 t692 t693 t694 _ A140.out).mono ?_
                       rintro e w161 ⟨rfl, hb⟩
                       refine ⟨_, rfl, ?_⟩
                       replace HO_651000 := rb HO_651000 hb
                       replace HO_656000 := rb HO_656000 hb
                       replace HO_661001 := rb HO_661001 hb
                       replace HO_669000 := rb HO_669000 hb
                       replace HO690 := rb HO690 hb
                       replace BK630 := bb BK630 hb
                       replace BK631 := bb BK631 hb
                       replace BK632 := bb BK632 hb
                       replace BK650 := bb BK650 hb
                       replace BK655 := bb BK655 hb
                       replace BK660 := bb BK660 hb
                       replace BK668 := bb BK668 hb
                       replace HB := bs HB hb
                       (try clear hb)
                       (try clear hb2)
                       (try clear hk)
                       (try clear hi)
                       refine hK.out _ _ ⟨cz BK630 0, cz BK630 1, cz BK631 0, cz BK631 1, cz BK631 2, cz BK632 0, cz BK632 1⟩ (fun hHeld => ?_)
                       clear hK K
                       refine nm 84 ?_
                       exact norm_ np (hJ1_3 (v689) _ ⟨hHeld, ⟨kr HO690.out⟩, ⟨kr HO_651000.out⟩, ⟨kr HO_656000.out⟩, ⟨kr HO_661001.out⟩, ⟨kr HO_669000.out⟩, ⟨bk BK630⟩, ⟨bk BK631⟩, ⟨bk BK632⟩, ⟨bk BK650⟩, ⟨bk BK655⟩, ⟨bk BK660⟩, ⟨bk BK668⟩, ⟨tb HB⟩⟩)
                      ·skip
                       refine bxs (N := 15) (cs := #[.slice none 0 0, .int .i64 0]) (t := 65) ?_
                       intro gb703 hg w161 hbox hb
                       replace HO_651000 := rb HO_651000 hb
                       replace HO_656000 := rb HO_656000 hb
                       replace HO_661001 := rb HO_661001 hb
                       replace HO_669000 := rb HO_669000 hb
                       replace HO690 := rb HO690 hb
                       have BK703 := Aside0.mk (hbox)
                       have GW703 := Aside0.mk (ge_ hg HB)
                       have GE703 := Aside0.mk (ge_ hg HB)
                       replace HB := bs HB hb
                       have NB630_703 := Aside0.mk (nl_ hg BK630)
                       have NB703_630 := Aside0.mk (ng_ hg BK630)
                       replace BK630 := bb BK630 hb
                       have NB631_703 := Aside0.mk (nl_ hg BK631)
                       have NB703_631 := Aside0.mk (ng_ hg BK631)
                       replace BK631 := bb BK631 hb
                       have NB632_703 := Aside0.mk (nl_ hg BK632)
                       have NB703_632 := Aside0.mk (ng_ hg BK632)
                       replace BK632 := bb BK632 hb
                       have NB650_703 := Aside0.mk (nl_ hg BK650)
                       have NB703_650 := Aside0.mk (ng_ hg BK650)
                       replace BK650 := bb BK650 hb
                       have NB655_703 := Aside0.mk (nl_ hg BK655)
                       have NB703_655 := Aside0.mk (ng_ hg BK655)
                       replace BK655 := bb BK655 hb
                       have NB660_703 := Aside0.mk (nl_ hg BK660)
                       have NB703_660 := Aside0.mk (ng_ hg BK660)
                       replace BK660 := bb BK660 hb
                       have NB668_703 := Aside0.mk (nl_ hg BK668)
                       have NB703_668 := Aside0.mk (ng_ hg BK668)
                       replace BK668 := bb BK668 hb
                       clear hb hbox hg
                       refine hK.out _ _ ⟨cz BK630 0, cz BK630 1, cz BK631 0, cz BK631 1, cz BK631 2, cz BK632 0, cz BK632 1⟩ (fun hHeld => ?_)
                       clear hK K
                       refine nm 15 ?_
                       exact norm_ np (hJ1_7 (v689, gb703) _ ⟨hHeld, ⟨kr HO690.out⟩, ⟨kr HO_651000.out⟩, ⟨kr HO_656000.out⟩, ⟨kr HO_661001.out⟩, ⟨kr HO_669000.out⟩, ⟨bk BK630⟩, ⟨bk BK631⟩, ⟨bk BK632⟩, ⟨bk BK650⟩, ⟨bk BK655⟩, ⟨bk BK660⟩, ⟨bk BK668⟩, ⟨bk BK703⟩, GW703, GE703, NB630_703, NB703_630, NB631_703, NB703_631, NB632_703, NB703_632, NB650_703, NB703_650, NB655_703, NB703_655, NB660_703, NB703_660, NB668_703, NB703_668, ⟨tb HB⟩⟩)
                    ·skip
                     clear HO_651000 HO_656000 HO_661001 HO_669000 BK630 BK631 BK632 BK650 BK655 BK660 BK668 HB
                     rintro ⟨v689, gb703⟩ w161 ⟨hHeld, HO690, HO_651000, HO_656000, HO_661001, HO_669000, BK630, BK631, BK632, BK650, BK655, BK660, BK668, BK703, GW703, GE703, NB630_703, NB703_630, NB631_703, NB703_631, NB632_703, NB703_632, NB650_703, NB703_650, NB655_703, NB703_655, NB660_703, NB703_660, NB668_703, NB703_668, HB⟩
                     dsimp only at HO690 HO_651000 HO_656000 HO_661001 HO_669000 BK703 GW703 GE703 NB630_703 NB703_630 NB631_703 NB703_631 NB632_703 NB703_632 NB650_703 NB703_650 NB655_703 NB703_655 NB660_703 NB703_660 NB668_703 NB703_668
                     refine nmp ?_
                     refine one_ (i := 3) (N := some 84) #[true, true, true, true, true, false, false, true, false] rfl rfl (one_of HT_.out (by kernel_rfl)) (by decide) (fun K hK => ?_)
                     refine gS Try.func36 #[.agg #[.int .i64 a1_0, .int .i64 a1_1, .int .i64 a1_2]] ?_
                     with_reducible refine (laws_toOp.calls a1_0 a1_1 a1_2 t692 t693 t694 _ A140.out).mono ?_
                     rintro e w162 ⟨rfl, hb⟩
                     refine ⟨_, rfl, ?_⟩
                     replace HO_651000 := rb HO_651000 hb
                     replace HO_656000 := rb HO_656000 hb
                     replace HO_661001 := rb HO_661001 hb
                     replace HO_669000 := rb HO_669000 hb
                     replace HO690 := rb HO690 hb
                     replace BK630 := bb BK630 hb
                     replace BK631 := bb BK631 hb
                     replace BK632 := bb BK632 hb
                     replace BK650 := bb BK650 hb
                     replace BK655 := bb BK655 hb
                     replace BK660 := bb BK660 hb
                     replace BK668 := bb BK668 hb
                     replace BK703 := bb BK703 hb
                     replace HB := bs HB hb
                     (try clear hb)
                     (try clear hb2)
                     (try clear hk)
                     (try clear hi)
                     refine hK.out _ _ ⟨cz BK630 0, cz BK630 1, cz BK631 0, cz BK631 1, cz BK631 2, cz BK632 0, cz BK632 1⟩ (fun hHeld => ?_)
                     clear hK K
                     refine nm 84 ?_
                     exact norm_ np (hJ1_3_7 (v689, gb703) _ ⟨hHeld, ⟨kr HO690.out⟩, ⟨kr HO_651000.out⟩, ⟨kr HO_656000.out⟩, ⟨kr HO_661001.out⟩, ⟨kr HO_669000.out⟩, ⟨bk BK630⟩, ⟨bk BK631⟩, ⟨bk BK632⟩, ⟨bk BK650⟩, ⟨bk BK655⟩, ⟨bk BK660⟩, ⟨bk BK668⟩, ⟨bk BK703⟩, GW703, GE703, NB630_703, NB703_630, NB631_703, NB703_631, NB632_703, NB703_632, NB650_703, NB703_650, NB655_703, NB703_655, NB660_703, NB703_660, NB668_703, NB703_668, ⟨tb HB⟩⟩)
                   ·skip
                    clear HO_651000 HO_656000 HO_661001 HO_669000 BK630 BK631 BK632 BK650 BK655 BK660 BK668 HB
                    rintro v689 w161 ⟨hHeld, HO690, HO_651000, HO_656000, HO_661001, HO_669000, BK630, BK631, BK632, BK650, BK655, BK660, BK668, HB⟩
                    refine nmp ?_
                    refine two_ (i := 5) (j := 7) (Ni := some 86) (Nj := some 15) #[true, true, true, true, true, true, false, false, false] #[true, true, true, true, true, false, false, true, false] rfl rfl rfl rfl (two_of HT_.out (by kernel_rfl)) (by decide) (by decide) (fun K hK => ?_) (fun K hK => ?_)
                    ·skip
                     refine gS Try.func37 #[.agg #[.int .i64 a2_0, .slice A2_1 l2_1.length c2_1]] ?_
                     with_reducible refine (laws_toRes.calls kj42 a2_0 _ _ l2_1 t695 t696 _ ?side1 ?side2 A141.out).mono ?_
                     (case side1 => exact kc HR2_1 HB)
                     (case side2 => exact HC2_1.out)
                     rintro e w162 ⟨v697, rfl, ho0, hb⟩
                     refine ⟨_, rfl, ?_⟩
                     have HO698 := Aside0.mk (Kd.R_lower (Kd.R_new' (Kd.R_new' (Kd.R_new' (Kd.R_new' (Kd.R_new' ho0 (Kd.R_lt (kr HO_651000.out))) (Kd.R_lt (kr HO_656000.out))) (Kd.R_lt (kr HO_661001.out))) (Kd.R_lt (kr HO_669000.out))) (Kd.R_lt (kr HO690.out))) (below_size (tb HB)))
                     replace HO_651000 := Aside0.mk (Kd.R_elder' (kr HO_651000.out) (Kd.R_base ho0) hb)
                     replace HO_656000 := Aside0.mk (Kd.R_elder' (kr HO_656000.out) (Kd.R_base ho0) hb)
                     replace HO_661001 := Aside0.mk (Kd.R_elder' (kr HO_661001.out) (Kd.R_base ho0) hb)
                     replace HO_669000 := Aside0.mk (Kd.R_elder' (kr HO_669000.out) (Kd.R_base ho0) hb)
                     replace HO690 := Aside0.mk (Kd.R_elder' (kr HO690.out) (Kd.R_base ho0) hb)
                     replace BK630 := bb BK630 hb
                     replace BK631 := bb BK631 hb
                     replace BK632 := bb BK632 hb
                     replace BK650 := bb BK650 hb
                     replace BK655 := bb BK655 hb
                     replace BK660 := bb BK660 hb
                     replace BK668 := bb BK668 hb
                     replace HB := bs HB hb
                     (try clear hb)
                     (try clear hb2)
                     (try clear hk)
                     (try clear hi)
                     (try clear ho0)
                     refine hK.out _ _ ⟨cz BK630 0, cz BK630 1, cz BK631 0, cz BK631 1, cz BK631 2, cz BK632 0, cz BK632 1⟩ (fun hHeld => ?_)
                     clear hK K
                     refine nm 86 ?_
                     exact norm_ np (hJ1_3_5 (v689, v697) _ ⟨hHeld, ⟨kr (Kd.R_mono HO690.out (fun _ hk => ⟨hk.2, ⟨hk.1.1, ⟨hk.1.2.1, ⟨hk.1.2.2.1, hk.1.2.2.2⟩⟩⟩⟩))⟩, ⟨kr (Kd.R_mono HO698.out (fun _ hk => ⟨hk.2, ⟨hk.1.1.1.1.2, ⟨hk.1.1.1.2, ⟨hk.1.1.2, hk.1.2⟩⟩⟩⟩))⟩, ⟨kr (Kd.R_mono HO_651000.out (fun _ hk => ⟨hk.1.1, ⟨hk.2, ⟨hk.1.2.1, ⟨hk.1.2.2.1, hk.1.2.2.2⟩⟩⟩⟩))⟩, ⟨kr (Kd.R_mono HO_656000.out (fun _ hk => ⟨hk.1.1, ⟨hk.2, ⟨hk.1.2.1, ⟨hk.1.2.2.1, hk.1.2.2.2⟩⟩⟩⟩))⟩, ⟨kr (Kd.R_mono HO_661001.out (fun _ hk => ⟨hk.1.1, ⟨hk.2, ⟨hk.1.2.1, ⟨hk.1.2.2.1, hk.1.2.2.2⟩⟩⟩⟩))⟩, ⟨kr (Kd.R_mono HO_669000.out (fun _ hk => ⟨hk.1.1, ⟨hk.2, ⟨hk.1.2.1, ⟨hk.1.2.2.1, hk.1.2.2.2⟩⟩⟩⟩))⟩, ⟨bk BK630⟩, ⟨bk BK631⟩, ⟨bk BK632⟩, ⟨bk BK650⟩, ⟨bk BK655⟩, ⟨bk BK660⟩, ⟨bk BK668⟩, ⟨tb HB⟩⟩)
                    ·skip
                     refine bxs (N := 15) (cs := #[.slice none 0 0, .int .i64 0]) (t := 65) ?_
                     intro gb703 hg w162 hbox hb
                     replace HO_651000 := rb HO_651000 hb
                     replace HO_656000 := rb HO_656000 hb
                     replace HO_661001 := rb HO_661001 hb
                     replace HO_669000 := rb HO_669000 hb
                     replace HO690 := rb HO690 hb
                     have BK703 := Aside0.mk (hbox)
                     have GW703 := Aside0.mk (ge_ hg HB)
                     have GE703 := Aside0.mk (ge_ hg HB)
                     replace HB := bs HB hb
                     have NB630_703 := Aside0.mk (nl_ hg BK630)
                     have NB703_630 := Aside0.mk (ng_ hg BK630)
                     replace BK630 := bb BK630 hb
                     have NB631_703 := Aside0.mk (nl_ hg BK631)
                     have NB703_631 := Aside0.mk (ng_ hg BK631)
                     replace BK631 := bb BK631 hb
                     have NB632_703 := Aside0.mk (nl_ hg BK632)
                     have NB703_632 := Aside0.mk (ng_ hg BK632)
                     replace BK632 := bb BK632 hb
                     have NB650_703 := Aside0.mk (nl_ hg BK650)
                     have NB703_650 := Aside0.mk (ng_ hg BK650)
                     replace BK650 := bb BK650 hb
                     have NB655_703 := Aside0.mk (nl_ hg BK655)
                     have NB703_655 := Aside0.mk (ng_ hg BK655)
                     replace BK655 := bb BK655 hb
                     have NB660_703 := Aside0.mk (nl_ hg BK660)
                     have NB703_660 := Aside0.mk (ng_ hg BK660)
                     replace BK660 := bb BK660 hb
                     have NB668_703 := Aside0.mk (nl_ hg BK668)
                     have NB703_668 := Aside0.mk (ng_ hg BK668)
                     replace BK668 := bb BK668 hb
                     clear hb hbox hg
                     refine hK.out _ _ ⟨cz BK630 0, cz BK630 1, cz BK631 0, cz BK631 1, cz BK631 2, cz BK632 0, cz BK632 1⟩ (fun hHeld => ?_)
                     clear hK K
                     refine nm 15 ?_
                     exact norm_ np (hJ1_3_7 (v689, gb703) _ ⟨hHeld, ⟨kr HO690.out⟩, ⟨kr HO_651000.out⟩, ⟨kr HO_656000.out⟩, ⟨kr HO_661001.out⟩, ⟨kr HO_669000.out⟩, ⟨bk BK630⟩, ⟨bk BK631⟩, ⟨bk BK632⟩, ⟨bk BK650⟩, ⟨bk BK655⟩, ⟨bk BK660⟩, ⟨bk BK668⟩, ⟨bk BK703⟩, GW703, GE703, NB630_703, NB703_630, NB631_703, NB703_631, NB632_703, NB703_632, NB650_703, NB703_650, NB655_703, NB703_655, NB660_703, NB703_660, NB668_703, NB703_668, ⟨tb HB⟩⟩)
                  ·skip
                   clear HO_651000 HO_656000 HO_661001 HO_669000 BK630 BK631 BK632 BK650 BK655 BK660 BK668 HB
                   rintro ⟨v689, gb703⟩ w162 ⟨hHeld, HO690, HO_651000, HO_656000, HO_661001, HO_669000, BK630, BK631, BK632, BK650, BK655, BK660, BK668, BK703, GW703, GE703, NB630_703, NB703_630, NB631_703, NB703_631, NB632_703, NB703_632, NB650_703, NB703_650, NB655_703, NB703_655, NB660_703, NB703_660, NB668_703, NB703_668, HB⟩
                   dsimp only at HO690 HO_651000 HO_656000 HO_661001 HO_669000 BK703 GW703 GE703 NB630_703 NB703_630 NB631_703 NB703_631 NB632_703 NB703_632 NB650_703 NB703_650 NB655_703 NB703_655 NB660_703 NB703_660 NB668_703 NB703_668
                   refine nmp ?_
                   refine one_ (i := 5) (N := some 86) #[true, true, true, true, true, true, false, true, false] rfl rfl (one_of HT_.out (by kernel_rfl)) (by decide) (fun K hK => ?_)
                   refine gS Try.func37 #[.agg #[.int .i64 a2_0, .slice A2_1 l2_1.length c2_1]] ?_
                   with_reducible refine (laws_toRes.calls kj42 a2_0 _ _ l2_1 t695 t696 _ ?side1 ?side2 A141.out).mono ?_
                   (case side1 => exact kc HR2_1 HB)
                   (case side2 => exact HC2_1.out)
                   rintro e w163 ⟨v697, rfl, ho0, hb⟩
                   refine ⟨_, rfl, ?_⟩
                   have HO698 := Aside0.mk (Kd.R_lower (Kd.R_new' (Kd.R_new' (Kd.R_new' (Kd.R_new' (Kd.R_new' ho0 (Kd.R_lt (kr HO_651000.out))) (Kd.R_lt (kr HO_656000.out))) (Kd.R_lt (kr HO_661001.out))) (Kd.R_lt (kr HO_669000.out))) (Kd.R_lt (kr HO690.out))) (below_size (tb HB)))
                   replace HO_651000 := Aside0.mk (Kd.R_elder' (kr HO_651000.out) (Kd.R_base ho0) hb)
                   replace HO_656000 := Aside0.mk (Kd.R_elder' (kr HO_656000.out) (Kd.R_base ho0) hb)
                   replace HO_661001 := Aside0.mk (Kd.R_elder' (kr HO_661001.out) (Kd.R_base ho0) hb)
                   replace HO_669000 := Aside0.mk (Kd.R_elder' (kr HO_669000.out) (Kd.R_base ho0) hb)
                   replace HO690 := Aside0.mk (Kd.R_elder' (kr HO690.out) (Kd.R_base ho0) hb)
                   replace BK630 := bb BK630 hb
                   replace BK631 := bb BK631 hb
                   replace BK632 := bb BK632 hb
                   replace BK650 := bb BK650 hb
                   replace BK655 := bb BK655 hb
                   replace BK660 := bb BK660 hb
                   replace BK668 := bb BK668 hb
                   replace BK703 := bb BK703 hb
                   replace HB := bs HB hb
                   (try clear hb)
                   (try clear hb2)
                   (try clear hk)
                   (try clear hi)
                   (try clear ho0)
                   refine hK.out _ _ ⟨cz BK630 0, cz BK630 1, cz BK631 0, cz BK631 1, cz BK631 2, cz BK632 0, cz BK632 1⟩ (fun hHeld => ?_)
                   clear hK K
                   refine nm 86 ?_
                   exact norm_ np (hJ1_3_5_7 (v689, v697, gb703) _ ⟨hHeld, ⟨kr (Kd.R_mono HO690.out (fun _ hk => ⟨hk.2, ⟨hk.1.1, ⟨hk.1.2.1, ⟨hk.1.2.2.1, hk.1.2.2.2⟩⟩⟩⟩))⟩, ⟨kr (Kd.R_mono HO698.out (fun _ hk => ⟨hk.2, ⟨hk.1.1.1.1.2, ⟨hk.1.1.1.2, ⟨hk.1.1.2, hk.1.2⟩⟩⟩⟩))⟩, ⟨kr (Kd.R_mono HO_651000.out (fun _ hk => ⟨hk.1.1, ⟨hk.2, ⟨hk.1.2.1, ⟨hk.1.2.2.1, hk.1.2.2.2⟩⟩⟩⟩))⟩, ⟨kr (Kd.R_mono HO_656000.out (fun _ hk => ⟨hk.1.1, ⟨hk.2, ⟨hk.1.2.1, ⟨hk.1.2.2.1, hk.1.2.2.2⟩⟩⟩⟩))⟩, ⟨kr (Kd.R_mono HO_661001.out (fun _ hk => ⟨hk.1.1, ⟨hk.2, ⟨hk.1.2.1, ⟨hk.1.2.2.1, hk.1.2.2.2⟩⟩⟩⟩))⟩, ⟨kr (Kd.R_mono HO_669000.out (fun _ hk => ⟨hk.1.1, ⟨hk.2, ⟨hk.1.2.1, ⟨hk.1.2.2.1, hk.1.2.2.2⟩⟩⟩⟩))⟩, ⟨bk BK630⟩, ⟨bk BK631⟩, ⟨bk BK632⟩, ⟨bk BK650⟩, ⟨bk BK655⟩, ⟨bk BK660⟩, ⟨bk BK668⟩, ⟨bk BK703⟩, GW703, GE703, NB630_703, NB703_630, NB631_703, NB703_631, NB632_703, NB703_632, NB650_703, NB703_650, NB655_703, NB703_655, NB660_703, NB703_660, NB668_703, NB703_668, ⟨tb HB⟩⟩)
                 ·skip
                  clear HO_651000 HO_656000 HO_661001 HO_669000 BK630 BK631 BK632 BK650 BK655 BK660 BK668 HB
                  rintro ⟨v689, v697⟩ w162 ⟨hHeld, HO690, HO698, HO_651000, HO_656000, HO_661001, HO_669000, BK630, BK631, BK632, BK650, BK655, BK660, BK668, HB⟩
                  dsimp only at HO690 HO698 HO_651000 HO_656000 HO_661001 HO_669000
                  obtain ⟨Ao163, co163, eo163⟩ := Kd.R_slice HO690.out
                  (first | subst eo163 | (injection eo163 with f1_ f2_ f3_; have f4_ := f1_.symm; have f5_ := f3_.symm; clear f1_ f2_ f3_; subst f4_; subst f5_))
                  obtain ⟨Ao164, co164, eo164⟩ := Kd.R_slice HO698.out
                  (first | subst eo164 | (injection eo164 with f1_ f2_ f3_; have f4_ := f1_.symm; have f5_ := f3_.symm; clear f1_ f2_ f3_; subst f4_; subst f5_))
                  refine nmp ?_
                  refine two_ (i := 6) (j := 7) (Ni := some 87) (Nj := some 15) #[true, true, true, true, true, true, true, false, false] #[true, true, true, true, true, true, false, true, false] rfl rfl rfl rfl (two_of HT_.out (by kernel_rfl)) (by decide) (by decide) (fun K hK => ?_) (fun K hK => ?_)
                  ·skip
                   refine gS Try.func38 #[.agg #[.slice Ao163 t688.length co163, .int .i64 t691], .agg #[.int .i64 t692, .int .i64 t693, .int .i64 t694], .agg #[.int .i64 t695, .slice Ao164 t696.length co164]] ?_
                   with_reducible refine (impl_After.calls kj42 _ _ t688 t691 t692 t693 t694 t695 _ _ t696 t699 t702 _ ?side1 ?side2 ?side3 ?side4 A142.out).mono ?_
                   (case side1 => repeat (first | exact (Kd.R_reads' HO690.out).2.2 | (with_reducible refine Kd.C_alloc ?_ _) | (with_reducible refine Kd.C_drewN ?_ _) | (with_reducible refine Kd.C_drew ?_)))
                   (case side2 => exact (Kd.R_reads' HO690.out).2.1)
                   (case side3 => repeat (first | exact (Kd.R_reads' HO698.out).2.2 | (with_reducible refine Kd.C_alloc ?_ _) | (with_reducible refine Kd.C_drewN ?_ _) | (with_reducible refine Kd.C_drew ?_)))
                   (case side4 => exact (Kd.R_reads' HO698.out).2.1)
                   rintro e w165 ⟨v700, rfl, ho0, hb⟩
                   refine ⟨_, rfl, ?_⟩
                   have HO701 := Aside0.mk (Kd.R_lower (Kd.R_new' (Kd.R_new' (Kd.R_new' (Kd.R_new' (Kd.R_new' (Kd.R_new' ho0 (Kd.R_lt (kr HO_651000.out))) (Kd.R_lt (kr HO_656000.out))) (Kd.R_lt (kr HO_661001.out))) (Kd.R_lt (kr HO_669000.out))) (Kd.R_lt (kr HO690.out))) (Kd.R_lt (kr HO698.out))) (below_size (tb HB)))
                   replace HO_651000 := Aside0.mk (Kd.R_elder' (kr HO_651000.out) (Kd.R_base ho0) hb)
                   replace HO_656000 := Aside0.mk (Kd.R_elder' (kr HO_656000.out) (Kd.R_base ho0) hb)
                   replace HO_661001 := Aside0.mk (Kd.R_elder' (kr HO_661001.out) (Kd.R_base ho0) hb)
                   replace HO_669000 := Aside0.mk (Kd.R_elder' (kr HO_669000.out) (Kd.R_base ho0) hb)
                   replace HO690 := Aside0.mk (Kd.R_elder' (kr HO690.out) (Kd.R_base ho0) hb)
                   replace HO698 := Aside0.mk (Kd.R_elder' (kr HO698.out) (Kd.R_base ho0) hb)
                   replace BK630 := bb BK630 hb
                   replace BK631 := bb BK631 hb
                   replace BK632 := bb BK632 hb
                   replace BK650 := bb BK650 hb
                   replace BK655 := bb BK655 hb
                   replace BK660 := bb BK660 hb
                   replace BK668 := bb BK668 hb
                   replace HB := bs HB hb
                   (try clear hb)
                   (try clear hb2)
                   (try clear hk)
                   (try clear hi)
                   (try clear ho0)
                   refine hK.out _ _ ⟨cz BK630 0, cz BK630 1, cz BK631 0, cz BK631 1, cz BK631 2, cz BK632 0, cz BK632 1⟩ (fun hHeld => ?_)
                   clear hK K
                   refine nm 87 ?_
                   exact norm_ np (hJ1_3_5_6 (.slice Ao163 t688.length co163, .slice Ao164 t696.length co164, v700) _ ⟨hHeld, ⟨kr (Kd.R_mono HO690.out (fun _ hk => ⟨hk.1.1, ⟨hk.2, ⟨hk.1.2.1, ⟨hk.1.2.2.1, ⟨hk.1.2.2.2.1, hk.1.2.2.2.2⟩⟩⟩⟩⟩))⟩, ⟨kr (Kd.R_mono HO698.out (fun _ hk => ⟨hk.1.1, ⟨hk.2, ⟨hk.1.2.1, ⟨hk.1.2.2.1, ⟨hk.1.2.2.2.1, hk.1.2.2.2.2⟩⟩⟩⟩⟩))⟩, ⟨kr (Kd.R_mono HO701.out (fun _ hk => ⟨hk.1.2, ⟨hk.2, ⟨hk.1.1.1.1.1.2, ⟨hk.1.1.1.1.2, ⟨hk.1.1.1.2, hk.1.1.2⟩⟩⟩⟩⟩))⟩, ⟨kr (Kd.R_mono HO_651000.out (fun _ hk => ⟨hk.1.1, ⟨hk.1.2.1, ⟨hk.2, ⟨hk.1.2.2.1, ⟨hk.1.2.2.2.1, hk.1.2.2.2.2⟩⟩⟩⟩⟩))⟩, ⟨kr (Kd.R_mono HO_656000.out (fun _ hk => ⟨hk.1.1, ⟨hk.1.2.1, ⟨hk.2, ⟨hk.1.2.2.1, ⟨hk.1.2.2.2.1, hk.1.2.2.2.2⟩⟩⟩⟩⟩))⟩, ⟨kr (Kd.R_mono HO_661001.out (fun _ hk => ⟨hk.1.1, ⟨hk.1.2.1, ⟨hk.2, ⟨hk.1.2.2.1, ⟨hk.1.2.2.2.1, hk.1.2.2.2.2⟩⟩⟩⟩⟩))⟩, ⟨kr (Kd.R_mono HO_669000.out (fun _ hk => ⟨hk.1.1, ⟨hk.1.2.1, ⟨hk.2, ⟨hk.1.2.2.1, ⟨hk.1.2.2.2.1, hk.1.2.2.2.2⟩⟩⟩⟩⟩))⟩, ⟨bk BK630⟩, ⟨bk BK631⟩, ⟨bk BK632⟩, ⟨bk BK650⟩, ⟨bk BK655⟩, ⟨bk BK660⟩, ⟨bk BK668⟩, ⟨tb HB⟩⟩)
                  ·skip
                   refine bxs (N := 15) (cs := #[.slice none 0 0, .int .i64 0]) (t := 65) ?_
                   intro gb703 hg w163 hbox hb
                   replace HO_651000 := rb HO_651000 hb
                   replace HO_656000 := rb HO_656000 hb
                   replace HO_661001 := rb HO_661001 hb
                   replace HO_669000 := rb HO_669000 hb
                   replace HO690 := rb HO690 hb
                   replace HO698 := rb HO698 hb
                   have BK703 := Aside0.mk (hbox)
                   have GW703 := Aside0.mk (ge_ hg HB)
                   have GE703 := Aside0.mk (ge_ hg HB)
                   replace HB := bs HB hb
                   have NB630_703 := Aside0.mk (nl_ hg BK630)
                   have NB703_630 := Aside0.mk (ng_ hg BK630)
                   replace BK630 := bb BK630 hb
                   have NB631_703 := Aside0.mk (nl_ hg BK631)
                   have NB703_631 := Aside0.mk (ng_ hg BK631)
                   replace BK631 := bb BK631 hb
                   have NB632_703 := Aside0.mk (nl_ hg BK632)
                   have NB703_632 := Aside0.mk (ng_ hg BK632)
                   replace BK632 := bb BK632 hb
                   have NB650_703 := Aside0.mk (nl_ hg BK650)
                   have NB703_650 := Aside0.mk (ng_ hg BK650)
                   replace BK650 := bb BK650 hb
                   have NB655_703 := Aside0.mk (nl_ hg BK655)
                   have NB703_655 := Aside0.mk (ng_ hg BK655)
                   replace BK655 := bb BK655 hb
                   have NB660_703 := Aside0.mk (nl_ hg BK660)
                   have NB703_660 := Aside0.mk (ng_ hg BK660)
                   replace BK660 := bb BK660 hb
                   have NB668_703 := Aside0.mk (nl_ hg BK668)
                   have NB703_668 := Aside0.mk (ng_ hg BK668)
                   replace BK668 := bb BK668 hb
                   clear hb hbox hg
                   refine hK.out _ _ ⟨cz BK630 0, cz BK630 1, cz BK631 0, cz BK631 1, cz BK631 2, cz BK632 0, cz BK632 1⟩ (fun hHeld => ?_)
                   clear hK K
                   refine nm 15 ?_
                   exact norm_ np (hJ1_3_5_7 (.slice Ao163 t688.length co163, .slice Ao164 t696.length co164, gb703) _ ⟨hHeld, ⟨kr HO690.out⟩, ⟨kr HO698.out⟩, ⟨kr HO_651000.out⟩, ⟨kr HO_656000.out⟩, ⟨kr HO_661001.out⟩, ⟨kr HO_669000.out⟩, ⟨bk BK630⟩, ⟨bk BK631⟩, ⟨bk BK632⟩, ⟨bk BK650⟩, ⟨bk BK655⟩, ⟨bk BK660⟩, ⟨bk BK668⟩, ⟨bk BK703⟩, GW703, GE703, NB630_703, NB703_630, NB631_703, NB703_631, NB632_703, NB703_632, NB650_703, NB703_650, NB655_703, NB703_655, NB660_703, NB703_660, NB668_703, NB703_668, ⟨tb HB⟩⟩)
                ·skip
                 clear HO_651000 HO_656000 HO_661001 HO_669000 BK630 BK631 BK632 BK650 BK655 BK660 BK668 HB
                 rintro ⟨v689, v697, gb703⟩ w163 ⟨hHeld, HO690, HO698, HO_651000, HO_656000, HO_661001, HO_669000, BK630, BK631, BK632, BK650, BK655, BK660, BK668, BK703, GW703, GE703, NB630_703, NB703_630, NB631_703, NB703_631, NB632_703, NB703_632, NB650_703, NB703_650, NB655_703, NB703_655, NB660_703, NB703_660, NB668_703, NB703_668, HB⟩
                 dsimp only at HO690 HO698 HO_651000 HO_656000 HO_661001 HO_669000 BK703 GW703 GE703 NB630_703 NB703_630 NB631_703 NB703_631 NB632_703 NB703_632 NB650_703 NB703_650 NB655_703 NB703_655 NB660_703 NB703_660 NB668_703 NB703_668
                 obtain ⟨Ao164, co164, eo164⟩ := Kd.R_slice HO690.out
                 (first | subst eo164 | (injection eo164 with f1_ f2_ f3_; have f4_ := f1_.symm; have f5_ := f3_.symm; clear f1_ f2_ f3_; subst f4_; subst f5_))
                 obtain ⟨Ao165, co165, eo165⟩ := Kd.R_slice HO698.out
                 (first | subst eo165 | (injection eo165 with f1_ f2_ f3_; have f4_ := f1_.symm; have f5_ := f3_.symm; clear f1_ f2_ f3_; subst f4_; subst f5_))
                 refine nmp ?_
                 refine one_ (i := 6) (N := some 87) #[true, true, true, true, true, true, true, true, false] rfl rfl (one_of HT_.out (by kernel_rfl)) (by decide) (fun K hK => ?_)
                 refine gS Try.func38 #[.agg #[.slice Ao164 t688.length co164, .int .i64 t691], .agg #[.int .i64 t692, .int .i64 t693, .int .i64 t694], .agg #[.int .i64 t695, .slice Ao165 t696.length co165]] ?_
                 with_reducible refine (impl_After.calls kj42 _ _ t688 t691 t692 t693 t694 t695 _ _ t696 t699 t702 _ ?side1 ?side2 ?side3 ?side4 A142.out).mono ?_
                 (case side1 => repeat (first | exact (Kd.R_reads' HO690.out).2.2 | (with_reducible refine Kd.C_alloc ?_ _) | (with_reducible refine Kd.C_drewN ?_ _) | (with_reducible refine Kd.C_drew ?_)))
                 (case side2 => exact (Kd.R_reads' HO690.out).2.1)
                 (case side3 => repeat (first | exact (Kd.R_reads' HO698.out).2.2 | (with_reducible refine Kd.C_alloc ?_ _) | (with_reducible refine Kd.C_drewN ?_ _) | (with_reducible refine Kd.C_drew ?_)))
                 (case side4 => exact (Kd.R_reads' HO698.out).2.1)
                 rintro e w166 ⟨v700, rfl, ho0, hb⟩
                 refine ⟨_, rfl, ?_⟩
                 have HO701 := Aside0.mk (Kd.R_lower (Kd.R_new' (Kd.R_new' (Kd.R_new' (Kd.R_new' (Kd.R_new' (Kd.R_new' ho0 (Kd.R_lt (kr HO_651000.out))) (Kd.R_lt (kr HO_656000.out))) (Kd.R_lt (kr HO_661001.out))) (Kd.R_lt (kr HO_669000.out))) (Kd.R_lt (kr HO690.out))) (Kd.R_lt (kr HO698.out))) (below_size (tb HB)))
                 replace HO_651000 := Aside0.mk (Kd.R_elder' (kr HO_651000.out) (Kd.R_base ho0) hb)
                 replace HO_656000 := Aside0.mk (Kd.R_elder' (kr HO_656000.out) (Kd.R_base ho0) hb)
                 replace HO_661001 := Aside0.mk (Kd.R_elder' (kr HO_661001.out) (Kd.R_base ho0) hb)
                 replace HO_669000 := Aside0.mk (Kd.R_elder' (kr HO_669000.out) (Kd.R_base ho0) hb)
                 replace HO690 := Aside0.mk (Kd.R_elder' (kr HO690.out) (Kd.R_base ho0) hb)
                 replace HO698 := Aside0.mk (Kd.R_elder' (kr HO698.out) (Kd.R_base ho0) hb)
                 replace BK630 := bb BK630 hb
                 replace BK631 := bb BK631 hb
                 replace BK632 := bb BK632 hb
                 replace BK650 := bb BK650 hb
                 replace BK655 := bb BK655 hb
                 replace BK660 := bb BK660 hb
                 replace BK668 := bb BK668 hb
                 replace BK703 := bb BK703 hb
                 replace HB := bs HB hb
                 (try clear hb)
                 (try clear hb2)
                 (try clear hk)
                 (try clear hi)
                 (try clear ho0)
                 refine hK.out _ _ ⟨cz BK630 0, cz BK630 1, cz BK631 0, cz BK631 1, cz BK631 2, cz BK632 0, cz BK632 1⟩ (fun hHeld => ?_)
                 clear hK K
                 refine nm 87 ?_
                 exact norm_ np (hJ1_3_5_6_7 (.slice Ao164 t688.length co164, .slice Ao165 t696.length co165, v700, gb703) _ ⟨hHeld, ⟨kr (Kd.R_mono HO690.out (fun _ hk => ⟨hk.1.1, ⟨hk.2, ⟨hk.1.2.1, ⟨hk.1.2.2.1, ⟨hk.1.2.2.2.1, hk.1.2.2.2.2⟩⟩⟩⟩⟩))⟩, ⟨kr (Kd.R_mono HO698.out (fun _ hk => ⟨hk.1.1, ⟨hk.2, ⟨hk.1.2.1, ⟨hk.1.2.2.1, ⟨hk.1.2.2.2.1, hk.1.2.2.2.2⟩⟩⟩⟩⟩))⟩, ⟨kr (Kd.R_mono HO701.out (fun _ hk => ⟨hk.1.2, ⟨hk.2, ⟨hk.1.1.1.1.1.2, ⟨hk.1.1.1.1.2, ⟨hk.1.1.1.2, hk.1.1.2⟩⟩⟩⟩⟩))⟩, ⟨kr (Kd.R_mono HO_651000.out (fun _ hk => ⟨hk.1.1, ⟨hk.1.2.1, ⟨hk.2, ⟨hk.1.2.2.1, ⟨hk.1.2.2.2.1, hk.1.2.2.2.2⟩⟩⟩⟩⟩))⟩, ⟨kr (Kd.R_mono HO_656000.out (fun _ hk => ⟨hk.1.1, ⟨hk.1.2.1, ⟨hk.2, ⟨hk.1.2.2.1, ⟨hk.1.2.2.2.1, hk.1.2.2.2.2⟩⟩⟩⟩⟩))⟩, ⟨kr (Kd.R_mono HO_661001.out (fun _ hk => ⟨hk.1.1, ⟨hk.1.2.1, ⟨hk.2, ⟨hk.1.2.2.1, ⟨hk.1.2.2.2.1, hk.1.2.2.2.2⟩⟩⟩⟩⟩))⟩, ⟨kr (Kd.R_mono HO_669000.out (fun _ hk => ⟨hk.1.1, ⟨hk.1.2.1, ⟨hk.2, ⟨hk.1.2.2.1, ⟨hk.1.2.2.2.1, hk.1.2.2.2.2⟩⟩⟩⟩⟩))⟩, ⟨bk BK630⟩, ⟨bk BK631⟩, ⟨bk BK632⟩, ⟨bk BK650⟩, ⟨bk BK655⟩, ⟨bk BK660⟩, ⟨bk BK668⟩, ⟨bk BK703⟩, GW703, GE703, NB630_703, NB703_630, NB631_703, NB703_631, NB632_703, NB703_632, NB650_703, NB703_650, NB655_703, NB703_655, NB660_703, NB703_660, NB668_703, NB703_668, ⟨tb HB⟩⟩)
               ·skip
                clear HO_651000 HO_656000 HO_661001 HO_669000 BK630 BK631 BK632 BK650 BK655 BK660 BK668 HB
                rintro ⟨v689, v697, v700⟩ w165 ⟨hHeld, HO690, HO698, HO701, HO_651000, HO_656000, HO_661001, HO_669000, BK630, BK631, BK632, BK650, BK655, BK660, BK668, HB⟩
                dsimp only at HO690 HO698 HO701 HO_651000 HO_656000 HO_661001 HO_669000
                refine nmp ?_
                refine one_ (i := 7) (N := some 15) #[true, true, true, true, true, true, true, true, false] rfl rfl (one_of HT_.out (by kernel_rfl)) (by decide) (fun K hK => ?_)
                refine bxs (N := 15) (cs := #[.slice none 0 0, .int .i64 0]) (t := 65) ?_
                intro gb703 hg w166 hbox hb
                replace HO_651000 := rb HO_651000 hb
                replace HO_656000 := rb HO_656000 hb
                replace HO_661001 := rb HO_661001 hb
                replace HO_669000 := rb HO_669000 hb
                replace HO690 := rb HO690 hb
                replace HO698 := rb HO698 hb
                replace HO701 := rb HO701 hb
                have BK703 := Aside0.mk (hbox)
                have GW703 := Aside0.mk (ge_ hg HB)
                have GE703 := Aside0.mk (ge_ hg HB)
                replace HB := bs HB hb
                have NB630_703 := Aside0.mk (nl_ hg BK630)
                have NB703_630 := Aside0.mk (ng_ hg BK630)
                replace BK630 := bb BK630 hb
                have NB631_703 := Aside0.mk (nl_ hg BK631)
                have NB703_631 := Aside0.mk (ng_ hg BK631)
                replace BK631 := bb BK631 hb
                have NB632_703 := Aside0.mk (nl_ hg BK632)
                have NB703_632 := Aside0.mk (ng_ hg BK632)
                replace BK632 := bb BK632 hb
                have NB650_703 := Aside0.mk (nl_ hg BK650)
                have NB703_650 := Aside0.mk (ng_ hg BK650)
                replace BK650 := bb BK650 hb
                have NB655_703 := Aside0.mk (nl_ hg BK655)
                have NB703_655 := Aside0.mk (ng_ hg BK655)
                replace BK655 := bb BK655 hb
                have NB660_703 := Aside0.mk (nl_ hg BK660)
                have NB703_660 := Aside0.mk (ng_ hg BK660)
                replace BK660 := bb BK660 hb
                have NB668_703 := Aside0.mk (nl_ hg BK668)
                have NB703_668 := Aside0.mk (ng_ hg BK668)
                replace BK668 := bb BK668 hb
                clear hb hbox hg
                refine hK.out _ _ ⟨cz BK630 0, cz BK630 1, cz BK631 0, cz BK631 1, cz BK631 2, cz BK632 0, cz BK632 1⟩ (fun hHeld => ?_)
                clear hK K
                refine nm 15 ?_
                exact norm_ np (hJ1_3_5_6_7 (v689, v697, v700, gb703) _ ⟨hHeld, ⟨kr HO690.out⟩, ⟨kr HO698.out⟩, ⟨kr HO701.out⟩, ⟨kr HO_651000.out⟩, ⟨kr HO_656000.out⟩, ⟨kr HO_661001.out⟩, ⟨kr HO_669000.out⟩, ⟨bk BK630⟩, ⟨bk BK631⟩, ⟨bk BK632⟩, ⟨bk BK650⟩, ⟨bk BK655⟩, ⟨bk BK660⟩, ⟨bk BK668⟩, ⟨bk BK703⟩, GW703, GE703, NB630_703, NB703_630, NB631_703, NB703_631, NB632_703, NB703_632, NB650_703, NB703_650, NB655_703, NB703_655, NB660_703, NB703_660, NB668_703, NB703_668, ⟨tb HB⟩⟩)
              clear HO_651000 HO_656000 HO_661001 HO_669000 BK630 BK631 BK632 BK650 BK655 BK660 BK668 HB
              rintro ⟨v689, v697, v700, gb703⟩ w166 ⟨hHeld, HO690, HO698, HO701, HO_651000, HO_656000, HO_661001, HO_669000, BK630, BK631, BK632, BK650, BK655, BK660, BK668, BK703, GW703, GE703, NB630_703, NB703_630, NB631_703, NB703_631, NB632_703, NB703_632, NB650_703, NB703_650, NB655_703, NB703_655, NB660_703, NB703_660, NB668_703, NB703_668, HB⟩
              dsimp only at HO690 HO698 HO701 HO_651000 HO_656000 HO_661001 HO_669000 BK703 GW703 GE703 NB630_703 NB703_630 NB631_703 NB703_631 NB632_703 NB703_632 NB650_703 NB703_650 NB655_703 NB703_655 NB660_703 NB703_660 NB668_703 NB703_668
              obtain ⟨Ao167, co167, eo167⟩ := Kd.R_slice HO701.out
              (first | subst eo167 | (injection eo167 with f1_ f2_ f3_; have f4_ := f1_.symm; have f5_ := f3_.symm; clear f1_ f2_ f3_; subst f4_; subst f5_))
              refine nmp ?_
              refine one_ (i := 8) (N := none) #[true, true, true, true, true, true, true, true, true] rfl rfl (one_of HT_.out (by kernel_rfl)) (by decide) (fun K hK => ?_)
              have hs168 : w166.cell? ⟨gb703, 0, none⟩ = some (.slice none 0 0) := cz BK703 0
              have hfs168 := blk_frozen BK703.out 0
              have hns168_0 := NB630_703.out
              have hns168_1 := NB631_703.out
              have hns168_2 := NB632_703.out
              have hns168_3 := NB650_703.out
              have hns168_4 := NB655_703.out
              have hns168_5 := NB660_703.out
              have hns168_6 := NB668_703.out
              have hms168_0 := NB703_630.out
              have hms168_1 := NB703_631.out
              have hms168_2 := NB703_632.out
              have hms168_3 := NB703_650.out
              have hms168_4 := NB703_655.out
              have hms168_5 := NB703_660.out
              have hms168_6 := NB703_668.out
              have hs169 : w166.cell? ⟨gb703, 1, none⟩ = some (.int .i64 0) := cz BK703 1
              have hfs169 := blk_frozen BK703.out 1
              have hns169_0 := NB630_703.out
              have hns169_1 := NB631_703.out
              have hns169_2 := NB632_703.out
              have hns169_3 := NB650_703.out
              have hns169_4 := NB655_703.out
              have hns169_5 := NB660_703.out
              have hns169_6 := NB668_703.out
              have hms169_0 := NB703_630.out
              have hms169_1 := NB703_631.out
              have hms169_2 := NB703_632.out
              have hms169_3 := NB703_650.out
              have hms169_4 := NB703_655.out
              have hms169_5 := NB703_660.out
              have hms169_6 := NB703_668.out
              refine skip_ (w1 := ?_) (by rfl) rfl ?_ ?_
              rotate_left
              ·go_simp
               rfl
              refine hK.out _ _ ⟨((cell_far (p := ⟨gb703, _, none⟩) NB630_703.out _).trans (((cell_far (p := ⟨gb703, _, none⟩) NB630_703.out _).trans (hHeld.1)))), ((cell_far (p := ⟨gb703, _, none⟩) NB630_703.out _).trans (((cell_far (p := ⟨gb703, _, none⟩) NB630_703.out _).trans (hHeld.2.1)))), ((cell_far (p := ⟨gb703, _, none⟩) NB631_703.out _).trans (((cell_far (p := ⟨gb703, _, none⟩) NB631_703.out _).trans (hHeld.2.2.1)))), ((cell_far (p := ⟨gb703, _, none⟩) NB631_703.out _).trans (((cell_far (p := ⟨gb703, _, none⟩) NB631_703.out _).trans (hHeld.2.2.2.1)))), ((cell_far (p := ⟨gb703, _, none⟩) NB631_703.out _).trans (((cell_far (p := ⟨gb703, _, none⟩) NB631_703.out _).trans (hHeld.2.2.2.2.1)))), ((cell_far (p := ⟨gb703, _, none⟩) NB632_703.out _).trans (((cell_far (p := ⟨gb703, _, none⟩) NB632_703.out _).trans (hHeld.2.2.2.2.2.1)))), ((cell_far (p := ⟨gb703, _, none⟩) NB632_703.out _).trans (((cell_far (p := ⟨gb703, _, none⟩) NB632_703.out _).trans (hHeld.2.2.2.2.2.2))))⟩ (fun hHeld => ?_)
              clear hK K
              refine done_ (done_of HT_.out (by kernel_rfl)) ?_
              have hnb170 := NB703_630.out
              have hnc170 := NB630_703.out
              have hnb171 := NB703_631.out
              have hnc171 := NB631_703.out
              have hnb172 := NB703_632.out
              have hnc172 := NB632_703.out
              have hnb173 := NB703_650.out
              have hnc173 := NB650_703.out
              have hnb174 := NB703_655.out
              have hnc174 := NB655_703.out
              have hnb175 := NB703_660.out
              have hnc175 := NB660_703.out
              have hnb176 := NB703_668.out
              have hnc176 := NB668_703.out
              obtain ⟨hcz177_0, hcz177_1, hfz177_0, hfz177_1⟩ := c2 BK703
              have hnb178 := NB650_630.out
              have hnc178 := NB630_650.out
              have hnb179 := NB650_631.out
              have hnc179 := NB631_650.out
              have hnb180 := NB650_632.out
              have hnc180 := NB632_650.out
              have hnb181 := NB650_655.out
              have hnc181 := NB655_650.out
              have hnb182 := NB650_660.out
              have hnc182 := NB660_650.out
              obtain ⟨hcz183_0, hcz183_1, hfz183_0, hfz183_1⟩ := c2 BK650
              try go_wp2_with (first | ((with_reducible refine gate_callee (f := 39) rfl ?_); refine gL 90 Try.func39 #[.agg #[.slice Ao167 t699.length co167, .int .i64 t702], .agg #[.slice Ao63 t646.length co63, .int .i64 t649]] ?_; (with_reducible refine (laws_eqRows.calls kj42 _ _ t699 t702 _ _ t646 t649 true _ ?side1 ?side2 ?side3 ?side4 A143.out).mono ?_); (case side1 => refine (Kd.R_reads' (e := 3) (base := w.heap.size) (ok := fun k_ => (some k_ ≠ (v689 : Value).ownBlock ∧ (some k_ ≠ (v697 : Value).ownBlock ∧ (some k_ ≠ (.slice Ao63 t646.length co63 : Value).ownBlock ∧ (some k_ ≠ (.slice Ao70 t681.length co70 : Value).ownBlock ∧ (some k_ ≠ (.slice Ao86 t683.length co86 : Value).ownBlock ∧ some k_ ≠ (.slice Ao93 t664.length co93 : Value).ownBlock)))))) (n := t699.length) (c := co167) ?_).2.2; exact (kr ((Kd.R_mono (Kd.R_far (p := ⟨gb703, 1, none⟩) (Kd.R_far (p := ⟨gb703, 0, none⟩) (Kd.R_types HO701.out BK703.out (by decide)) (fun _ hk => hk.2) (.slice Ao167 t699.length co167)) (fun _ hk => hk.2) (.int .i64 t702)) (fun _ h_ => h_.1))))); (case side2 => exact (Kd.R_reads' HO701.out).2.1); (case side3 => refine (Kd.R_reads' (e := 3) (base := w.heap.size) (ok := fun k_ => (some k_ ≠ (v689 : Value).ownBlock ∧ (some k_ ≠ (v697 : Value).ownBlock ∧ (some k_ ≠ (.slice Ao167 t699.length co167 : Value).ownBlock ∧ (some k_ ≠ (.slice Ao70 t681.length co70 : Value).ownBlock ∧ (some k_ ≠ (.slice Ao86 t683.length co86 : Value).ownBlock ∧ some k_ ≠ (.slice Ao93 t664.length co93 : Value).ownBlock)))))) (n := t646.length) (c := co63) ?_).2.2; exact (kr ((Kd.R_mono (Kd.R_far (p := ⟨gb703, 1, none⟩) (Kd.R_far (p := ⟨gb703, 0, none⟩) (Kd.R_types HO_651000.out BK703.out (by decide)) (fun _ hk => hk.2) (.slice Ao167 t699.length co167)) (fun _ hk => hk.2) (.int .i64 t702)) (fun _ h_ => h_.1))))); (case side4 => exact (Kd.R_reads' HO_651000.out).2.1); rintro e w184 ⟨rfl, hb⟩; refine ⟨_, rfl, ?_⟩; replace HO_651000 := Aside0.mk (Kd.R_below (kr ((Kd.R_mono (Kd.R_far (p := ⟨gb703, 1, none⟩) (Kd.R_far (p := ⟨gb703, 0, none⟩) (Kd.R_types HO_651000.out BK703.out (by decide)) (fun _ hk => hk.2) (.slice Ao167 t699.length co167)) (fun _ hk => hk.2) (.int .i64 t702)) (fun _ h_ => h_.1)))) hb); replace HO_656000 := Aside0.mk (Kd.R_below (kr ((Kd.R_mono (Kd.R_far (p := ⟨gb703, 1, none⟩) (Kd.R_far (p := ⟨gb703, 0, none⟩) (Kd.R_types HO_656000.out BK703.out (by decide)) (fun _ hk => hk.2) (.slice Ao167 t699.length co167)) (fun _ hk => hk.2) (.int .i64 t702)) (fun _ h_ => h_.1)))) hb); replace HO_661001 := Aside0.mk (Kd.R_below (kr ((Kd.R_mono (Kd.R_far (p := ⟨gb703, 1, none⟩) (Kd.R_far (p := ⟨gb703, 0, none⟩) (Kd.R_types HO_661001.out BK703.out (by decide)) (fun _ hk => hk.2) (.slice Ao167 t699.length co167)) (fun _ hk => hk.2) (.int .i64 t702)) (fun _ h_ => h_.1)))) hb); replace HO_669000 := Aside0.mk (Kd.R_below (kr ((Kd.R_mono (Kd.R_far (p := ⟨gb703, 1, none⟩) (Kd.R_far (p := ⟨gb703, 0, none⟩) (Kd.R_types HO_669000.out BK703.out (by decide)) (fun _ hk => hk.2) (.slice Ao167 t699.length co167)) (fun _ hk => hk.2) (.int .i64 t702)) (fun _ h_ => h_.1)))) hb); replace HO690 := Aside0.mk (Kd.R_below (kr ((Kd.R_mono (Kd.R_far (p := ⟨gb703, 1, none⟩) (Kd.R_far (p := ⟨gb703, 0, none⟩) (Kd.R_types HO690.out BK703.out (by decide)) (fun _ hk => hk.2) (.slice Ao167 t699.length co167)) (fun _ hk => hk.2) (.int .i64 t702)) (fun _ h_ => h_.1)))) hb); replace HO698 := Aside0.mk (Kd.R_below (kr ((Kd.R_mono (Kd.R_far (p := ⟨gb703, 1, none⟩) (Kd.R_far (p := ⟨gb703, 0, none⟩) (Kd.R_types HO698.out BK703.out (by decide)) (fun _ hk => hk.2) (.slice Ao167 t699.length co167)) (fun _ hk => hk.2) (.int .i64 t702)) (fun _ h_ => h_.1)))) hb); replace HO701 := Aside0.mk (Kd.R_below (kr ((Kd.R_mono (Kd.R_far (p := ⟨gb703, 1, none⟩) (Kd.R_far (p := ⟨gb703, 0, none⟩) (Kd.R_types HO701.out BK703.out (by decide)) (fun _ hk => hk.2) (.slice Ao167 t699.length co167)) (fun _ hk => hk.2) (.int .i64 t702)) (fun _ h_ => h_.1)))) hb); replace BK630 := Aside0.mk (blk_below (g := gb630) (o := .cells #[.slice A0_0 l0_0.length c0_0, .int .i64 a0_1] 58 (0, 0)) (by (with_reducible repeat (first | refine blk_drewN ?_ _ | refine blk_drew ?_ | refine blk_alloc ?_ _)); refine blk_far ?_ NB630_703.out _; (with_reducible repeat (first | refine blk_drewN ?_ _ | refine blk_drew ?_ | refine blk_alloc ?_ _)); refine blk_far ?_ NB630_703.out _; (with_reducible repeat (first | refine blk_drewN ?_ _ | refine blk_drew ?_ | refine blk_alloc ?_ _)); exact BK630.out) hb); replace BK631 := Aside0.mk (blk_below (g := gb631) (o := .cells #[.int .i64 a1_0, .int .i64 a1_1, .int .i64 a1_2] 60 (0, 0)) (by (with_reducible repeat (first | refine blk_drewN ?_ _ | refine blk_drew ?_ | refine blk_alloc ?_ _)); refine blk_far ?_ NB631_703.out _; (with_reducible repeat (first | refine blk_drewN ?_ _ | refine blk_drew ?_ | refine blk_alloc ?_ _)); refine blk_far ?_ NB631_703.out _; (with_reducible repeat (first | refine blk_drewN ?_ _ | refine blk_drew ?_ | refine blk_alloc ?_ _)); exact BK631.out) hb); replace BK632 := Aside0.mk (blk_below (g := gb632) (o := .cells #[.int .i64 a2_0, .slice A2_1 l2_1.length c2_1] 62 (0, 0)) (by (with_reducible repeat (first | refine blk_drewN ?_ _ | refine blk_drew ?_ | refine blk_alloc ?_ _)); refine blk_far ?_ NB632_703.out _; (with_reducible repeat (first | refine blk_drewN ?_ _ | refine blk_drew ?_ | refine blk_alloc ?_ _)); refine blk_far ?_ NB632_703.out _; (with_reducible repeat (first | refine blk_drewN ?_ _ | refine blk_drew ?_ | refine blk_alloc ?_ _)); exact BK632.out) hb); replace BK650 := Aside0.mk (blk_below (g := gb650) (o := .cells #[.slice Ao63 t646.length co63, .int .i64 t649] 65 (0, 0)) (by (with_reducible repeat (first | refine blk_drewN ?_ _ | refine blk_drew ?_ | refine blk_alloc ?_ _)); refine blk_far ?_ NB650_703.out _; (with_reducible repeat (first | refine blk_drewN ?_ _ | refine blk_drew ?_ | refine blk_alloc ?_ _)); refine blk_far ?_ NB650_703.out _; (with_reducible repeat (first | refine blk_drewN ?_ _ | refine blk_drew ?_ | refine blk_alloc ?_ _)); exact BK650.out) hb); replace BK655 := Aside0.mk (blk_below (g := gb655) (o := .cells #[.slice Ao70 t681.length co70, .int .i64 t654] 65 (0, 0)) (by (with_reducible repeat (first | refine blk_drewN ?_ _ | refine blk_drew ?_ | refine blk_alloc ?_ _)); refine blk_far ?_ NB655_703.out _; (with_reducible repeat (first | refine blk_drewN ?_ _ | refine blk_drew ?_ | refine blk_alloc ?_ _)); refine blk_far ?_ NB655_703.out _; (with_reducible repeat (first | refine blk_drewN ?_ _ | refine blk_drew ?_ | refine blk_alloc ?_ _)); exact BK655.out) hb); replace BK660 := Aside0.mk (blk_below (g := gb660) (o := .cells #[.int .i64 t656, .slice Ao86 t683.length co86] 70 (0, 0)) (by (with_reducible repeat (first | refine blk_drewN ?_ _ | refine blk_drew ?_ | refine blk_alloc ?_ _)); refine blk_far ?_ NB660_703.out _; (with_reducible repeat (first | refine blk_drewN ?_ _ | refine blk_drew ?_ | refine blk_alloc ?_ _)); refine blk_far ?_ NB660_703.out _; (with_reducible repeat (first | refine blk_drewN ?_ _ | refine blk_drew ?_ | refine blk_alloc ?_ _)); exact BK660.out) hb); replace BK668 := Aside0.mk (blk_below (g := gb668) (o := .cells #[.slice Ao93 t664.length co93, .int .i64 t667] 65 (0, 0)) (by (with_reducible repeat (first | refine blk_drewN ?_ _ | refine blk_drew ?_ | refine blk_alloc ?_ _)); refine blk_far ?_ NB668_703.out _; (with_reducible repeat (first | refine blk_drewN ?_ _ | refine blk_drew ?_ | refine blk_alloc ?_ _)); refine blk_far ?_ NB668_703.out _; (with_reducible repeat (first | refine blk_drewN ?_ _ | refine blk_drew ?_ | refine blk_alloc ?_ _)); exact BK668.out) hb); replace BK703 := Aside0.mk (blk_below (g := gb703) (o := .cells #[.slice Ao167 t699.length co167, .int .i64 t702] 65 (0, 0)) (by (with_reducible repeat (first | refine blk_drewN ?_ _ | refine blk_drew ?_ | refine blk_alloc ?_ _)); refine blk_put (cs := #[.slice Ao167 t699.length co167, .int .i64 0]) ?_ 1 _ rfl; (with_reducible repeat (first | refine blk_drewN ?_ _ | refine blk_drew ?_ | refine blk_alloc ?_ _)); refine blk_put (cs := #[.slice none 0 0, .int .i64 0]) ?_ 0 _ rfl; (with_reducible repeat (first | refine blk_drewN ?_ _ | refine blk_drew ?_ | refine blk_alloc ?_ _)); exact BK703.out) hb); replace HB := bs HB hb; (try clear hb); (try clear hb2); (try clear hk); (try clear hi); obtain ⟨hcz185_0, hcz185_1, hfz185_0, hfz185_1⟩ := c2 BK668) | ((with_reducible refine gate_callee (f := 43) rfl ?_); refine goesL_ (some 94) rfl rfl Try.func43 (by kernel_rfl) rfl #[.agg #[.slice Ao93 t686.length co93, .int .i64 t667], .int .i64 1] rfl (by (try simp only [List.map_toArray, List.map_cons, List.map_nil]); first | done | (rw [show t686.length = t664.length from (Kd.R_reads' HO_669000.out).1.symm] <;> rfl) | rfl | (simp only [List.length_drop, List.length_take]; rfl)) ?_; (with_reducible refine (laws_heldRows.calls kj42 _ _ t686 t667 1 t705 _ ?side1 ?side2 A145.out).mono ?_); (case side1 => repeat (first | exact (Kd.R_reads' HO_669000.out).2.2 | (with_reducible refine Kd.C_alloc ?_ _) | (with_reducible refine Kd.C_drewN ?_ _) | (with_reducible refine Kd.C_drew ?_))); (case side2 => rw [show t686.length = t664.length from (Kd.R_reads' HO_669000.out).1.symm]; exact (Kd.R_reads' HO_669000.out).2.1); rintro e w186 ⟨rfl, hb⟩; refine ⟨_, rfl, ?_⟩; replace HO_651000 := rb HO_651000 hb; replace HO_656000 := rb HO_656000 hb; replace HO_661001 := rb HO_661001 hb; replace HO_669000 := rb HO_669000 hb; replace HO690 := rb HO690 hb; replace HO698 := rb HO698 hb; replace HO701 := rb HO701 hb; replace BK630 := bb BK630 hb; replace BK631 := bb BK631 hb; replace BK632 := bb BK632 hb; replace BK650 := bb BK650 hb; replace BK655 := bb BK655 hb; replace BK660 := bb BK660 hb; replace BK668 := bb BK668 hb; replace BK703 := bb BK703 hb; replace HB := bs HB hb; (try clear hb); (try clear hb2); (try clear hk); (try clear hi)))
              go_ret
              exact ⟨er, tb HB⟩
             ·rw [if_neg c147] at H
              exact absurd (Option.some.inj (H.trans (congrArg some hr_))) (by simp)
           ·replace c144 := Bool.eq_false_iff.mpr c144
            subst c144
            have H1 : (some false) = some r := by rw [if_neg (show ¬ (false = true) by decide)] at H; exact H
            clear H
            have H := H1
            clear H1
            exact absurd (Option.some.inj (H.trans (congrArg some hr_))) (by simp)
          ·rw [if_neg c138] at H
           exact absurd (Option.some.inj (H.trans (congrArg some hr_))) (by simp)
     ·replace c40 := Bool.eq_false_iff.mpr c40
      subst c40
      have H1 : (some false) = some r := by rw [if_neg (show ¬ (false = true) by decide)] at H; exact H
      clear H
      have H := H1
      clear H1
      exact absurd (Option.some.inj (H.trans (congrArg some hr_))) (by simp)
    ·replace c37 := Bool.eq_false_iff.mpr c37
     subst c37
     have H1 : (some false) = some r := by rw [if_neg (show ¬ (false = true) by decide)] at H; exact H
     clear H
     have H := H1
     clear H1
     exact absurd (Option.some.inj (H.trans (congrArg some hr_))) (by simp)
   ·replace c34 := Bool.eq_false_iff.mpr c34
    subst c34
    have H1 : (some false) = some r := by rw [if_neg (show ¬ (false = true) by decide)] at H; exact H
    clear H
    have H := H1
    clear H1
    exact absurd (Option.some.inj (H.trans (congrArg some hr_))) (by simp)
end Go.Proofs.Ytopikhjcbcpiaaa.Q
section
namespace Go.Proofs.YtopikhjcbcpiaaaX
open Go.RowKit Go.Proofs.YtopikhjcbcpiaaaW.PrintWords Go.Deep Go.ChangeShapes Go.WideShapes
section
variable {H : Type} {enc : TypeId × Value → H} {P : Program} {w : World}
def Opens (enc : TypeId × Value → H) (P : Program) (w : World) {α : Type} (d : Kd α) (T : TypeId) (ok : α → Prop) : Prop :=
  P.cellsOf T = d.sz ∧ ∀ fuel cs x, DataW.trod enc P w 0 (fun _ => true) true fuel T cs = some x → ∃ a : α, d.K w a cs ∧ ok a
theorem Opens.int {T : TypeId} {k : IntKind} (hu : P.underlying T = some (.int k)) (hc : P.cellsOf T = 1) : Opens enc P w (Kd.int k) T (fun n => (Lit.int k n).wf = true) :=
  ⟨hc, fun fuel cs x h => by
    obtain ⟨n, rfl, _, hw⟩ := DataW.trod_int hu h
    exact ⟨n, rfl, hw⟩⟩
theorem Opens.bool {T : TypeId} (hu : P.underlying T = some .bool) (hc : P.cellsOf T = 1) : Opens enc P w Kd.bool T (fun _ => True) :=
  ⟨hc, fun fuel cs x h => by
    obtain ⟨b, rfl, _⟩ := DataW.trod_bool hu h
    exact ⟨b, rfl, trivial⟩⟩
theorem list_of_index {α : Type} (p : Nat → α → Prop) : ∀ n : Nat, (∀ i, i < n → ∃ a, p i a) → ∃ l : List α, l.length = n ∧ ∀ i a, l[i]? = some a → p i a
  | 0, _ => ⟨[], rfl, fun i a h => by simp at h⟩
  | n + 1, h => by
    obtain ⟨l, hl, hp⟩ := list_of_index p n (fun i hi => h i (by omega))
    obtain ⟨a, ha⟩ := h n (by omega)
    refine ⟨l ++ [a], by simp [hl], fun i b hb => ?_⟩
    rcases Nat.lt_trichotomy i n with h' | h' | h'
    · rw [List.getElem?_append_left (by omega)] at hb
      exact hp i b hb
    · subst h'
      rw [List.getElem?_append_right (by omega)] at hb
      simp [hl] at hb
      exact hb ▸ ha
    · rw [List.getElem?_eq_none (by simp [hl]; omega)] at hb
      cases hb
theorem Opens.slice {α : Type} {d : Kd α} {T e : TypeId} {ok : α → Prop} (hu : P.underlying T = some (.slice e)) (hc : P.cellsOf T = 1) (h : Opens enc P w d e ok) :
    Opens enc P w (Kd.slice e d) T (fun l => l.length ≤ 9223372036854775807 ∧ ∀ a ∈ l, ok a) :=
  ⟨hc, fun fuel cs x hx => by
    rcases open_slice hu hx with ⟨rfl, _⟩ | ⟨a, len, cap, m, n, D, Pl, rfl, hb, hl, hm, hmm, _, hel⟩
    · exact ⟨[], ⟨none, 0, rfl, Nat.le_refl _, ⟨rfl, by simp, fun h => absurd h (by simp)⟩⟩, by simp, fun a ha => by cases ha⟩
    · simp only [if_true] at hmm
      subst hmm
      obtain ⟨l, hll, hlp⟩ := list_of_index (fun i a' => (∃ c : List Value, c.length = d.sz ∧ d.K w a' c ∧ ∀ j u, c[j]? = some u → w.cell? (a.add (i * d.sz + j)) = some u) ∧ ok a') len (fun i hi => by
        obtain ⟨cs', hcs, ht⟩ := hel i (by omega)
        obtain ⟨a', hk, ha'⟩ := h.2 _ _ _ ht
        refine ⟨a', ⟨cs', d.K_len hk, hk, fun j u hu => ?_⟩, ha'⟩
        rw [h.1] at hcs
        obtain ⟨_, hlen, hcell⟩ := World.cells?_some hcs
        have hj : j < d.sz := by have := (List.getElem?_eq_some_iff.1 hu).1; rw [d.K_len hk] at this; exact this
        have := hcell j hj
        rw [Go.Deep.add_add] at this
        rw [this]
        exact hu)
      refine ⟨l, ⟨some a, m, by rw [hll], by omega, ⟨rfl, by simp only [maxLen] at hm; omega, fun _ => ⟨a, rfl, fun j p hp => (hlp j p hp).1⟩⟩⟩, by rw [hll]; simp only [maxLen] at hm; omega, fun a' ha' => ?_⟩
      obtain ⟨i, hi⟩ := List.getElem?_of_mem ha'
      exact (hlp i a' hi).2⟩
def OpensFs (enc : TypeId × Value → H) (P : Program) (w : World) {α : Type} (d : Kd α) (off : Nat) (fs : List Field) (ok : α → Prop) : Prop :=
  ∀ (n : Nat) (cs : List Value), off + d.sz = cs.length → (∀ f ∈ fs, ∃ x, DataW.trod enc P w 0 (fun _ => true) true n f.type ((cs.drop f.offset).take (P.cellsOf f.type)) = some x) → ∃ a : α, d.K w a (cs.drop off) ∧ ok a
theorem OpensFs.last {α : Type} {d : Kd α} {off : Nat} {f : Field} {ok : α → Prop} (hf : f.offset = off) (h : Opens enc P w d f.type ok) : OpensFs enc P w d off [f] ok := by
  intro n cs hl hx
  obtain ⟨x, hx⟩ := hx f (by simp)
  rw [hf, h.1, List.take_of_length_le (by simp; omega)] at hx
  exact h.2 _ _ _ hx
theorem OpensFs.cons {α β : Type} {d : Kd α} {d' : Kd β} {off : Nat} {f : Field} {fs : List Field} {ok : α → Prop} {ok' : β → Prop} (hf : f.offset = off) (h : Opens enc P w d f.type ok) (h' : OpensFs enc P w d' (off + d.sz) fs ok') :
    OpensFs enc P w (Kd.pair d d') off (f :: fs) (fun x => ok x.1 ∧ ok' x.2) := by
  intro n cs hl hx
  have hl' : off + (d.sz + d'.sz) = cs.length := hl
  obtain ⟨b, hb, hob⟩ := h' n cs (by omega) (fun g hg => hx g (by simp [hg]))
  obtain ⟨x, hx⟩ := hx f (by simp)
  rw [hf, h.1] at hx
  obtain ⟨a, ha, hoa⟩ := h.2 _ _ _ hx
  refine ⟨(a, b), ⟨(cs.drop off).take d.sz, cs.drop (off + d.sz), ?_, ha, hb⟩, hoa, hob⟩
  rw [← List.drop_drop]
  exact (List.take_append_drop _ _).symm
theorem Opens.struct {α β : Type} {d : Kd α} {f : β → α} {g : α → β} (hg : ∀ a, f (g a) = a) {T : TypeId} {fs : Array Field} {ok : α → Prop} (hu : P.underlying T = some (.struct fs)) (hc : P.cellsOf T = d.sz) (h : OpensFs enc P w d 0 fs.toList ok) :
    Opens enc P w (Kd.iso d f) T (fun b => ok (f b)) :=
  ⟨hc, fun fuel cs x hx => by
    obtain ⟨xs, n, rfl, _, hl, hlen, hfs⟩ := DataW.trod_struct hu hx
    obtain ⟨a, ha, hoa⟩ := h n cs (by rw [hl, hc]; omega) (fun f hf => by
      obtain ⟨i, hi⟩ := List.getElem?_of_mem hf
      have hi' : fs[i]? = some f := by simpa using hi
      have := hfs i f hi'
      have hlt : i < xs.length := by rw [hlen]; exact (Array.getElem?_eq_some_iff.1 hi').1
      rw [List.getElem?_eq_getElem hlt] at this
      exact ⟨_, this⟩)
    exact ⟨g a, by show d.K w (f (g a)) cs; rw [hg]; simpa using ha, by show ok (f (g a)); rw [hg]; exact hoa⟩⟩
theorem Opens.agg {α : Type} {d : Kd α} {T : TypeId} {ok : α → Prop} {fs : Array Field} {r : Reach} {b0 : Nat} {v : Value} {x : DataW H} {p : List MemPlace} (h : Opens enc P w d T ok) (hu : P.underlying T = some (.struct fs))
    (hv : Value.okWide P w r b0 T v) (hx : DataW.Trod enc P w 0 (fun _ => true) true T v x p) : ∃ (a : α) (cs : List Value), v = .agg cs.toArray ∧ d.K w a cs ∧ ok a := by
  obtain ⟨cs, rfl, _⟩ := okWide_struct hu hv
  obtain ⟨fuel, hf⟩ := hx
  obtain ⟨a, ha, hoa⟩ := h.2 _ _ _ hf
  exact ⟨a, cs.toList, rfl, ha, hoa⟩
end
end Go.Proofs.YtopikhjcbcpiaaaX
end
