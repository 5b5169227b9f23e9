/- Part 5 of the steps by which the law is shown: what each function of the program, of the reference and of the law computes. No condition. -/
import Derived.Test.YtopikhjcbcpiaaaAlw4
namespace Go.Proofs.Ytopikhjcbcpiaaa.Q
open Go.RowKit Go.Proofs.YtopikhjcbcpiaaaW.PrintWords Go.Proofs.YtopikhjcbcpiaaaW.PrintLast Go.Proofs.YtopikhjcbcpiaaaW.PrintMore
attribute [local go_sem] max2_int min2_int max_two min_two max_three min_three max_four min_four   -- for this text's walks alone
set_option linter.unusedVariables false
set_option linter.unusedSimpArgs false
mutual
def laws_FnAllowed.j0 : Nat → Bool → Bool → List Int → Int → Int → List Int → List Int → Int → Option (Bool)
 | 0, _, _, _, _, _, _, _, _ => none
 | k + 1, x6, x75, x947000, x947001, x949000, x949001, x955000, x955001 => if x75 = true then (some false) else (if x6 = true then (laws_FnAllowed.j1 k (x949000 != 0) x947000 x947001 x955000 x955001) else (laws_FnAllowed.j1 k true x947000 x947001 x955000 x955001))
def laws_FnAllowed.j1 : Nat → Bool → List Int → Int → List Int → Int → Option (Bool)
 | 0, _, _, _, _, _ => none
 | k + 1, x82, x947000, x947001, x955000, x955001 => if x82 = true then ((laws_sameInts.f k x955000 x947000).bind fun t980 => (if t980 = true then (some (x955001 == x947001)) else (some false))) else ((impl_RowsOk.f k x955000 x955001).bind fun t981 => (some t981))
end
def laws_FnAllowed.f (k : Nat) (l0 : List Int) : Option (Bool) := (laws_big.f l0).bind fun t934 => (if t934 = true then (some true) else ((spec_DrawAllowed.f k l0).bind fun bt935 => ((impl_Allowed.f k bt935.1 bt935.2.1 bt935.2.2.1 bt935.2.2.2.1 bt935.2.2.2.2.1 bt935.2.2.2.2.2.1 bt935.2.2.2.2.2.2).bind fun t949 => ((impl_After.f k bt935.1 bt935.2.1 bt935.2.2.1 bt935.2.2.2.1 bt935.2.2.2.2.1 bt935.2.2.2.2.2.1 bt935.2.2.2.2.2.2).bind fun bt950 => ((spec_After.f k bt935.1 bt935.2.1 bt935.2.2.1 bt935.2.2.2.1 bt935.2.2.2.2.1 bt935.2.2.2.2.2.1 bt935.2.2.2.2.2.2).bind fun bt955 => ((spec_DrawResSame.f k l0).bind fun bt960 => ((spec_DrawOpOk.f k l0).bind fun bt970 => ((spec_Allowed.f k bt935.1 bt935.2.1 bt935.2.2.1 bt935.2.2.2.1 bt935.2.2.2.2.1 bt935.2.2.2.2.2.1 bt935.2.2.2.2.2.2).bind fun t974 => (if (t949 != t974) = true then (laws_FnAllowed.j0 k t949 true bt935.1 bt935.2.1 bt935.2.2.2.2.2.1 bt935.2.2.2.2.2.2 bt950.1 bt950.2) else ((laws_sameInts.f k bt950.1 bt955.1).bind fun t975 => (if t975 = true then (if bt950.2 = bt955.2 then ((impl_ResSame.f k bt960.1 bt960.2.1 bt960.2.2.1 bt960.2.2.2).bind fun t976 => ((spec_ResSame.f k bt960.1 bt960.2.1 bt960.2.2.1 bt960.2.2.2).bind fun t977 => (if (t976 != t977) = true then (laws_FnAllowed.j0 k t949 true bt935.1 bt935.2.1 bt935.2.2.2.2.2.1 bt935.2.2.2.2.2.2 bt950.1 bt950.2) else ((impl_OpOk.f k bt970.1 bt970.2.1 bt970.2.2).bind fun t978 => ((spec_OpOk.f k bt970.1 bt970.2.1 bt970.2.2).bind fun t979 => (laws_FnAllowed.j0 k t949 (t978 != t979) bt935.1 bt935.2.1 bt935.2.2.2.2.2.1 bt935.2.2.2.2.2.2 bt950.1 bt950.2)))))) else (laws_FnAllowed.j0 k t949 true bt935.1 bt935.2.1 bt935.2.2.2.2.2.1 bt935.2.2.2.2.2.2 bt950.1 bt950.2)) else (laws_FnAllowed.j0 k t949 true bt935.1 bt935.2.1 bt935.2.2.2.2.2.1 bt935.2.2.2.2.2.2 bt950.1 bt950.2))))))))))))
theorem laws_FnAllowed.mono_l : ∀ k, (∀ y0 y1 y2 y3 y4 y5 y6 y7, LeO (laws_FnAllowed.j0 k y0 y1 y2 y3 y4 y5 y6 y7) (laws_FnAllowed.j0 (k + 1) y0 y1 y2 y3 y4 y5 y6 y7)) ∧ (∀ y0 y1 y2 y3 y4, LeO (laws_FnAllowed.j1 k y0 y1 y2 y3 y4) (laws_FnAllowed.j1 (k + 1) y0 y1 y2 y3 y4))
 | 0 => ⟨fun _ _ _ _ _ _ _ _ r h => by simp [laws_FnAllowed.j0] at h, fun _ _ _ _ _ r h => by simp [laws_FnAllowed.j1] at h⟩
 | k + 1 => by
  obtain ⟨ih0, ih1⟩ := laws_FnAllowed.mono_l k
  refine ⟨?_, ?_⟩
  ·intro y0 y1 y2 y3 y4 y5 y6 y7
   unfold laws_FnAllowed.j0
   repeat' first
   | (with_reducible exact ih0 _ _ _ _ _ _ _ _)
   | (with_reducible exact ih1 _ _ _ _ _)
   | (with_reducible exact impl_After.mono _ _ _ _ _ _ _ _)
   | (with_reducible exact impl_Allowed.mono _ _ _ _ _ _ _ _)
   | (with_reducible exact impl_OpOk.mono _ _ _ _)
   | (with_reducible exact impl_ResSame.mono _ _ _ _ _)
   | (with_reducible exact impl_RowsOk.mono _ _ _)
   | (with_reducible exact laws_sameInts.mono _ _ _)
   | (with_reducible exact spec_After.mono _ _ _ _ _ _ _ _)
   | (with_reducible exact spec_Allowed.mono _ _ _ _ _ _ _ _)
   | (with_reducible exact spec_DrawAllowed.mono _ _)
   | (with_reducible exact spec_DrawOpOk.mono _ _)
   | (with_reducible exact spec_DrawResSame.mono _ _)
   | (with_reducible exact spec_OpOk.mono _ _ _ _)
   | (with_reducible exact spec_ResSame.mono _ _ _ _ _)
   | (with_reducible exact LeO.refl _)
   | (with_reducible exact LeO.none _)
   | (with_reducible refine LeO.ite ?_ ?_)
   | (with_reducible refine LeO.bind ?_ (fun _ => ?_))
   | exact ih0 _ _ _ _ _ _ _ _
   | exact ih1 _ _ _ _ _
   | exact impl_After.mono _ _ _ _ _ _ _ _
   | exact impl_Allowed.mono _ _ _ _ _ _ _ _
   | exact impl_OpOk.mono _ _ _ _
   | exact impl_ResSame.mono _ _ _ _ _
   | exact impl_RowsOk.mono _ _ _
   | exact laws_sameInts.mono _ _ _
   | exact spec_After.mono _ _ _ _ _ _ _ _
   | exact spec_Allowed.mono _ _ _ _ _ _ _ _
   | exact spec_DrawAllowed.mono _ _
   | exact spec_DrawOpOk.mono _ _
   | exact spec_DrawResSame.mono _ _
   | exact spec_OpOk.mono _ _ _ _
   | exact spec_ResSame.mono _ _ _ _ _
   | exact LeO.none _
   | refine LeO.ite ?_ ?_
   | refine LeO.bind ?_ (fun _ => ?_)
  ·intro y0 y1 y2 y3 y4
   unfold laws_FnAllowed.j1
   repeat' first
   | (with_reducible exact ih0 _ _ _ _ _ _ _ _)
   | (with_reducible exact ih1 _ _ _ _ _)
   | (with_reducible exact impl_After.mono _ _ _ _ _ _ _ _)
   | (with_reducible exact impl_Allowed.mono _ _ _ _ _ _ _ _)
   | (with_reducible exact impl_OpOk.mono _ _ _ _)
   | (with_reducible exact impl_ResSame.mono _ _ _ _ _)
   | (with_reducible exact impl_RowsOk.mono _ _ _)
   | (with_reducible exact laws_sameInts.mono _ _ _)
   | (with_reducible exact spec_After.mono _ _ _ _ _ _ _ _)
   | (with_reducible exact spec_Allowed.mono _ _ _ _ _ _ _ _)
   | (with_reducible exact spec_DrawAllowed.mono _ _)
   | (with_reducible exact spec_DrawOpOk.mono _ _)
   | (with_reducible exact spec_DrawResSame.mono _ _)
   | (with_reducible exact spec_OpOk.mono _ _ _ _)
   | (with_reducible exact spec_ResSame.mono _ _ _ _ _)
   | (with_reducible exact LeO.refl _)
   | (with_reducible exact LeO.none _)
   | (with_reducible refine LeO.ite ?_ ?_)
   | (with_reducible refine LeO.bind ?_ (fun _ => ?_))
   | exact ih0 _ _ _ _ _ _ _ _
   | exact ih1 _ _ _ _ _
   | exact impl_After.mono _ _ _ _ _ _ _ _
   | exact impl_Allowed.mono _ _ _ _ _ _ _ _
   | exact impl_OpOk.mono _ _ _ _
   | exact impl_ResSame.mono _ _ _ _ _
   | exact impl_RowsOk.mono _ _ _
   | exact laws_sameInts.mono _ _ _
   | exact spec_After.mono _ _ _ _ _ _ _ _
   | exact spec_Allowed.mono _ _ _ _ _ _ _ _
   | exact spec_DrawAllowed.mono _ _
   | exact spec_DrawOpOk.mono _ _
   | exact spec_DrawResSame.mono _ _
   | exact spec_OpOk.mono _ _ _ _
   | exact spec_ResSame.mono _ _ _ _ _
   | exact LeO.none _
   | refine LeO.ite ?_ ?_
   | refine LeO.bind ?_ (fun _ => ?_)
theorem laws_FnAllowed.mono : ∀ a0 k, LeO (laws_FnAllowed.f k a0) (laws_FnAllowed.f (k + 1) a0) := by
 intro a0 k
 obtain ⟨ih0, ih1⟩ := laws_FnAllowed.mono_l k
 unfold laws_FnAllowed.f
 repeat' first
   | (with_reducible exact ih0 _ _ _ _ _ _ _ _)
   | (with_reducible exact ih1 _ _ _ _ _)
   | (with_reducible exact impl_After.mono _ _ _ _ _ _ _ _)
   | (with_reducible exact impl_Allowed.mono _ _ _ _ _ _ _ _)
   | (with_reducible exact impl_OpOk.mono _ _ _ _)
   | (with_reducible exact impl_ResSame.mono _ _ _ _ _)
   | (with_reducible exact impl_RowsOk.mono _ _ _)
   | (with_reducible exact laws_sameInts.mono _ _ _)
   | (with_reducible exact spec_After.mono _ _ _ _ _ _ _ _)
   | (with_reducible exact spec_Allowed.mono _ _ _ _ _ _ _ _)
   | (with_reducible exact spec_DrawAllowed.mono _ _)
   | (with_reducible exact spec_DrawOpOk.mono _ _)
   | (with_reducible exact spec_DrawResSame.mono _ _)
   | (with_reducible exact spec_OpOk.mono _ _ _ _)
   | (with_reducible exact spec_ResSame.mono _ _ _ _ _)
   | (with_reducible exact LeO.refl _)
   | (with_reducible exact LeO.none _)
   | (with_reducible refine LeO.ite ?_ ?_)
   | (with_reducible refine LeO.bind ?_ (fun _ => ?_))
   | exact ih0 _ _ _ _ _ _ _ _
   | exact ih1 _ _ _ _ _
   | exact impl_After.mono _ _ _ _ _ _ _ _
   | exact impl_Allowed.mono _ _ _ _ _ _ _ _
   | exact impl_OpOk.mono _ _ _ _
   | exact impl_ResSame.mono _ _ _ _ _
   | exact impl_RowsOk.mono _ _ _
   | exact laws_sameInts.mono _ _ _
   | exact spec_After.mono _ _ _ _ _ _ _ _
   | exact spec_Allowed.mono _ _ _ _ _ _ _ _
   | exact spec_DrawAllowed.mono _ _
   | exact spec_DrawOpOk.mono _ _
   | exact spec_DrawResSame.mono _ _
   | exact spec_OpOk.mono _ _ _ _
   | exact spec_ResSame.mono _ _ _ _ _
   | exact LeO.none _
   | refine LeO.ite ?_ ?_
   | refine LeO.bind ?_ (fun _ => ?_)
def laws_FnAllowed.T9 : Bool × List (List Nat × List Nat) := (true, [([], []), ([], []), ([], []), ([], []), ([1, 2, 3], [1, 2, 3]), ([0, 4], [0, 4]), ([5, 4], [5]), ([6], [6]), ([7, 6], [6, 7]), ([6], [6]), ([9, 6], [6, 9]), ([8, 10, 6, 6], [6, 8, 10]), ([11, 6], [6, 11]), ([6, 12], [6, 12]), ([13, 11], [13]), ([14], [14]), ([15, 14], [14, 15]), ([14], [14]), ([17, 14], [14, 17]), ([16, 18, 14], [14, 16, 18]), ([14, 19], [14, 19]), ([20, 14], [20]), ([21], [21]), ([21], [21]), ([22, 23, 21, 21], [21, 22, 23]), ([21], [21]), ([21], [21]), ([25, 26, 24, 21], [21, 25, 26]), ([24, 27, 21], [21, 24, 27]), ([21, 28], [21, 28]), ([29, 27], [29]), ([30], [30]), ([31, 30, 30], [30, 31]), ([30], [30]), ([33, 32, 30], [30, 33]), ([32, 34, 30], [30, 32, 34]), ([30, 35], [30, 35])])
def laws_FnAllowed.B9 : List Nat := [0, 0, 0, 0, 14, 31, 63, 127, 255, 127, 639, 2047, 4095, 8191, 16383, 32767, 65535, 32767, 163839, 524287, 1048575, 2097151, 4194303, 4194303, 16777215, 4194303, 4194303, 134217727, 268435455, 536870911, 1073741823, 2147483647, 4294967295, 2147483647, 17179869183, 34359738367, 68719476735]
theorem laws_FnAllowed.tab9 : rtab .any (opsOf Try.f7 9) = laws_FnAllowed.T9 := by kernel_rfl
theorem laws_FnAllowed.bits9 : waitsOk laws_FnAllowed.T9.2 laws_FnAllowed.B9 = true := by kernel_rfl
set_option maxHeartbeats 8000000 in
set_option maxRecDepth 100000 in
theorem laws_FnAllowed.calls (k : Nat) (A0 : Option Addr) (c0 : Nat) (l0 : List Int) (r : Bool) (w : World) (hr0 : Kd.C (Kd.int .u8) w A0 l0.length l0) (hc0 : l0.length ≤ c0) (h : laws_FnAllowed.f k l0 = some r) (hr_ : r = true) :
  Calls Try.prog 7 #[.slice A0 l0.length c0] w fun e w' => e = .returned (.bool r) ∧ Below w.heap.size w w' := by
 have hu65 := Try.underlying65
 have hu68 := Try.underlying68
 have hu70 := Try.underlying70
 have HR0 := Aside0.mk hr0
 have HC0 := Aside0.mk hc0
 clear hr0 hc0
 have HB := Aside0.mk (Below.refl w.heap.size w)
 have H : ((laws_big.f l0).bind fun t934 => (if t934 = true then (some true) else ((spec_DrawAllowed.f k l0).bind fun bt935 => ((impl_Allowed.f k bt935.1 bt935.2.1 bt935.2.2.1 bt935.2.2.2.1 bt935.2.2.2.2.1 bt935.2.2.2.2.2.1 bt935.2.2.2.2.2.2).bind fun t949 => ((impl_After.f k bt935.1 bt935.2.1 bt935.2.2.1 bt935.2.2.2.1 bt935.2.2.2.2.1 bt935.2.2.2.2.2.1 bt935.2.2.2.2.2.2).bind fun bt950 => ((spec_After.f k bt935.1 bt935.2.1 bt935.2.2.1 bt935.2.2.2.1 bt935.2.2.2.2.1 bt935.2.2.2.2.2.1 bt935.2.2.2.2.2.2).bind fun bt955 => ((spec_DrawResSame.f k l0).bind fun bt960 => ((spec_DrawOpOk.f k l0).bind fun bt970 => ((spec_Allowed.f k bt935.1 bt935.2.1 bt935.2.2.1 bt935.2.2.2.1 bt935.2.2.2.2.1 bt935.2.2.2.2.2.1 bt935.2.2.2.2.2.2).bind fun t974 => (if (t949 != t974) = true then (laws_FnAllowed.j0 k t949 true bt935.1 bt935.2.1 bt935.2.2.2.2.2.1 bt935.2.2.2.2.2.2 bt950.1 bt950.2) else ((laws_sameInts.f k bt950.1 bt955.1).bind fun t975 => (if t975 = true then (if bt950.2 = bt955.2 then ((impl_ResSame.f k bt960.1 bt960.2.1 bt960.2.2.1 bt960.2.2.2).bind fun t976 => ((spec_ResSame.f k bt960.1 bt960.2.1 bt960.2.2.1 bt960.2.2.2).bind fun t977 => (if (t976 != t977) = true then (laws_FnAllowed.j0 k t949 true bt935.1 bt935.2.1 bt935.2.2.2.2.2.1 bt935.2.2.2.2.2.2 bt950.1 bt950.2) else ((impl_OpOk.f k bt970.1 bt970.2.1 bt970.2.2).bind fun t978 => ((spec_OpOk.f k bt970.1 bt970.2.1 bt970.2.2).bind fun t979 => (laws_FnAllowed.j0 k t949 (t978 != t979) bt935.1 bt935.2.1 bt935.2.2.2.2.2.1 bt935.2.2.2.2.2.2 bt950.1 bt950.2)))))) else (laws_FnAllowed.j0 k t949 true bt935.1 bt935.2.1 bt935.2.2.2.2.2.1 bt935.2.2.2.2.2.2 bt950.1 bt950.2)) else (laws_FnAllowed.j0 k t949 true bt935.1 bt935.2.1 bt935.2.2.2.2.2.1 bt935.2.2.2.2.2.2 bt950.1 bt950.2))))))))))))) = some r := h
 clear h
 replace H := Option.bind_eq_some_iff.mp H
 obtain ⟨t934, A20, H⟩ := H
 replace H : (if t934 = true then (some true) else ((spec_DrawAllowed.f k l0).bind fun bt935 => ((impl_Allowed.f k bt935.1 bt935.2.1 bt935.2.2.1 bt935.2.2.2.1 bt935.2.2.2.2.1 bt935.2.2.2.2.2.1 bt935.2.2.2.2.2.2).bind fun t949 => ((impl_After.f k bt935.1 bt935.2.1 bt935.2.2.1 bt935.2.2.2.1 bt935.2.2.2.2.1 bt935.2.2.2.2.2.1 bt935.2.2.2.2.2.2).bind fun bt950 => ((spec_After.f k bt935.1 bt935.2.1 bt935.2.2.1 bt935.2.2.2.1 bt935.2.2.2.2.1 bt935.2.2.2.2.2.1 bt935.2.2.2.2.2.2).bind fun bt955 => ((spec_DrawResSame.f k l0).bind fun bt960 => ((spec_DrawOpOk.f k l0).bind fun bt970 => ((spec_Allowed.f k bt935.1 bt935.2.1 bt935.2.2.1 bt935.2.2.2.1 bt935.2.2.2.2.1 bt935.2.2.2.2.2.1 bt935.2.2.2.2.2.2).bind fun t974 => (if (t949 != t974) = true then (laws_FnAllowed.j0 k t949 true bt935.1 bt935.2.1 bt935.2.2.2.2.2.1 bt935.2.2.2.2.2.2 bt950.1 bt950.2) else ((laws_sameInts.f k bt950.1 bt955.1).bind fun t975 => (if t975 = true then (if bt950.2 = bt955.2 then ((impl_ResSame.f k bt960.1 bt960.2.1 bt960.2.2.1 bt960.2.2.2).bind fun t976 => ((spec_ResSame.f k bt960.1 bt960.2.1 bt960.2.2.1 bt960.2.2.2).bind fun t977 => (if (t976 != t977) = true then (laws_FnAllowed.j0 k t949 true bt935.1 bt935.2.1 bt935.2.2.2.2.2.1 bt935.2.2.2.2.2.2 bt950.1 bt950.2) else ((impl_OpOk.f k bt970.1 bt970.2.1 bt970.2.2).bind fun t978 => ((spec_OpOk.f k bt970.1 bt970.2.1 bt970.2.2).bind fun t979 => (laws_FnAllowed.j0 k t949 (t978 != t979) bt935.1 bt935.2.1 bt935.2.2.2.2.2.1 bt935.2.2.2.2.2.2 bt950.1 bt950.2)))))) else (laws_FnAllowed.j0 k t949 true bt935.1 bt935.2.1 bt935.2.2.2.2.2.1 bt935.2.2.2.2.2.2 bt950.1 bt950.2)) else (laws_FnAllowed.j0 k t949 true bt935.1 bt935.2.1 bt935.2.2.2.2.2.1 bt935.2.2.2.2.2.2 bt950.1 bt950.2)))))))))))) = some r := H
 have A2 := Aside0.mk A20
 clear A20
 by_cases c3 : t934 = true
 ·subst c3
  have H1 : (some true) = some r := by rw [if_pos rfl] at H; exact H
  clear H
  have H := H1
  clear H1
  obtain rfl := Option.some.inj H
  go_enter Try.func7, Try.ntmps7
  go_wp2_with (first | ((with_reducible refine gate_callee (f := 44) rfl ?_); refine gL 13 Try.func44 #[.slice A0 l0.length c0] ?_; (with_reducible refine (laws_big.calls _ _ l0 true _ ?side1 ?side2 A2.out).mono ?_); (case side1 => repeat (first | exact HR0.out | (with_reducible refine Kd.C_alloc ?_ _) | (with_reducible refine Kd.C_drewN ?_ _) | (with_reducible refine Kd.C_drew ?_))); (case side2 => exact HC0.out); rintro e w' ⟨rfl, ⟨nd, rfl⟩⟩; refine ⟨_, rfl, ?_⟩))
  go_ret
  exact ⟨er, tb HB⟩
 ·replace c3 := Bool.eq_false_iff.mpr c3
  subst c3
  have H1 : ((spec_DrawAllowed.f k l0).bind fun bt935 => ((impl_Allowed.f k bt935.1 bt935.2.1 bt935.2.2.1 bt935.2.2.2.1 bt935.2.2.2.2.1 bt935.2.2.2.2.2.1 bt935.2.2.2.2.2.2).bind fun t949 => ((impl_After.f k bt935.1 bt935.2.1 bt935.2.2.1 bt935.2.2.2.1 bt935.2.2.2.2.1 bt935.2.2.2.2.2.1 bt935.2.2.2.2.2.2).bind fun bt950 => ((spec_After.f k bt935.1 bt935.2.1 bt935.2.2.1 bt935.2.2.2.1 bt935.2.2.2.2.1 bt935.2.2.2.2.2.1 bt935.2.2.2.2.2.2).bind fun bt955 => ((spec_DrawResSame.f k l0).bind fun bt960 => ((spec_DrawOpOk.f k l0).bind fun bt970 => ((spec_Allowed.f k bt935.1 bt935.2.1 bt935.2.2.1 bt935.2.2.2.1 bt935.2.2.2.2.1 bt935.2.2.2.2.2.1 bt935.2.2.2.2.2.2).bind fun t974 => (if (t949 != t974) = true then (laws_FnAllowed.j0 k t949 true bt935.1 bt935.2.1 bt935.2.2.2.2.2.1 bt935.2.2.2.2.2.2 bt950.1 bt950.2) else ((laws_sameInts.f k bt950.1 bt955.1).bind fun t975 => (if t975 = true then (if bt950.2 = bt955.2 then ((impl_ResSame.f k bt960.1 bt960.2.1 bt960.2.2.1 bt960.2.2.2).bind fun t976 => ((spec_ResSame.f k bt960.1 bt960.2.1 bt960.2.2.1 bt960.2.2.2).bind fun t977 => (if (t976 != t977) = true then (laws_FnAllowed.j0 k t949 true bt935.1 bt935.2.1 bt935.2.2.2.2.2.1 bt935.2.2.2.2.2.2 bt950.1 bt950.2) else ((impl_OpOk.f k bt970.1 bt970.2.1 bt970.2.2).bind fun t978 => ((spec_OpOk.f k bt970.1 bt970.2.1 bt970.2.2).bind fun t979 => (laws_FnAllowed.j0 k t949 (t978 != t979) bt935.1 bt935.2.1 bt935.2.2.2.2.2.1 bt935.2.2.2.2.2.2 bt950.1 bt950.2)))))) else (laws_FnAllowed.j0 k t949 true bt935.1 bt935.2.1 bt935.2.2.2.2.2.1 bt935.2.2.2.2.2.2 bt950.1 bt950.2)) else (laws_FnAllowed.j0 k t949 true bt935.1 bt935.2.1 bt935.2.2.2.2.2.1 bt935.2.2.2.2.2.2 bt950.1 bt950.2))))))))))) = some r := by rw [if_neg (show ¬ (false = true) by decide)] at H; exact H
  clear H
  have H := H1
  clear H1
  replace H := Option.bind_eq_some_iff.mp H
  obtain ⟨⟨t935, t938, t939, t940, t941, t942, t943⟩, A40, H⟩ := H
  replace H : ((impl_Allowed.f k t935 t938 t939 t940 t941 t942 t943).bind fun t949 => ((impl_After.f k t935 t938 t939 t940 t941 t942 t943).bind fun bt950 => ((spec_After.f k t935 t938 t939 t940 t941 t942 t943).bind fun bt955 => ((spec_DrawResSame.f k l0).bind fun bt960 => ((spec_DrawOpOk.f k l0).bind fun bt970 => ((spec_Allowed.f k t935 t938 t939 t940 t941 t942 t943).bind fun t974 => (if (t949 != t974) = true then (laws_FnAllowed.j0 k t949 true t935 t938 t942 t943 bt950.1 bt950.2) else ((laws_sameInts.f k bt950.1 bt955.1).bind fun t975 => (if t975 = true then (if bt950.2 = bt955.2 then ((impl_ResSame.f k bt960.1 bt960.2.1 bt960.2.2.1 bt960.2.2.2).bind fun t976 => ((spec_ResSame.f k bt960.1 bt960.2.1 bt960.2.2.1 bt960.2.2.2).bind fun t977 => (if (t976 != t977) = true then (laws_FnAllowed.j0 k t949 true t935 t938 t942 t943 bt950.1 bt950.2) else ((impl_OpOk.f k bt970.1 bt970.2.1 bt970.2.2).bind fun t978 => ((spec_OpOk.f k bt970.1 bt970.2.1 bt970.2.2).bind fun t979 => (laws_FnAllowed.j0 k t949 (t978 != t979) t935 t938 t942 t943 bt950.1 bt950.2)))))) else (laws_FnAllowed.j0 k t949 true t935 t938 t942 t943 bt950.1 bt950.2)) else (laws_FnAllowed.j0 k t949 true t935 t938 t942 t943 bt950.1 bt950.2)))))))))) = some r := H
  have A4 := Aside0.mk A40
  clear A40
  replace H := Option.bind_eq_some_iff.mp H
  obtain ⟨t949, A50, H⟩ := H
  replace H : ((impl_After.f k t935 t938 t939 t940 t941 t942 t943).bind fun bt950 => ((spec_After.f k t935 t938 t939 t940 t941 t942 t943).bind fun bt955 => ((spec_DrawResSame.f k l0).bind fun bt960 => ((spec_DrawOpOk.f k l0).bind fun bt970 => ((spec_Allowed.f k t935 t938 t939 t940 t941 t942 t943).bind fun t974 => (if (t949 != t974) = true then (laws_FnAllowed.j0 k t949 true t935 t938 t942 t943 bt950.1 bt950.2) else ((laws_sameInts.f k bt950.1 bt955.1).bind fun t975 => (if t975 = true then (if bt950.2 = bt955.2 then ((impl_ResSame.f k bt960.1 bt960.2.1 bt960.2.2.1 bt960.2.2.2).bind fun t976 => ((spec_ResSame.f k bt960.1 bt960.2.1 bt960.2.2.1 bt960.2.2.2).bind fun t977 => (if (t976 != t977) = true then (laws_FnAllowed.j0 k t949 true t935 t938 t942 t943 bt950.1 bt950.2) else ((impl_OpOk.f k bt970.1 bt970.2.1 bt970.2.2).bind fun t978 => ((spec_OpOk.f k bt970.1 bt970.2.1 bt970.2.2).bind fun t979 => (laws_FnAllowed.j0 k t949 (t978 != t979) t935 t938 t942 t943 bt950.1 bt950.2)))))) else (laws_FnAllowed.j0 k t949 true t935 t938 t942 t943 bt950.1 bt950.2)) else (laws_FnAllowed.j0 k t949 true t935 t938 t942 t943 bt950.1 bt950.2))))))))) = some r := H
  have A5 := Aside0.mk A50
  clear A50
  replace H := Option.bind_eq_some_iff.mp H
  obtain ⟨⟨t950, t953⟩, A60, H⟩ := H
  replace H : ((spec_After.f k t935 t938 t939 t940 t941 t942 t943).bind fun bt955 => ((spec_DrawResSame.f k l0).bind fun bt960 => ((spec_DrawOpOk.f k l0).bind fun bt970 => ((spec_Allowed.f k t935 t938 t939 t940 t941 t942 t943).bind fun t974 => (if (t949 != t974) = true then (laws_FnAllowed.j0 k t949 true t935 t938 t942 t943 t950 t953) else ((laws_sameInts.f k t950 bt955.1).bind fun t975 => (if t975 = true then (if t953 = bt955.2 then ((impl_ResSame.f k bt960.1 bt960.2.1 bt960.2.2.1 bt960.2.2.2).bind fun t976 => ((spec_ResSame.f k bt960.1 bt960.2.1 bt960.2.2.1 bt960.2.2.2).bind fun t977 => (if (t976 != t977) = true then (laws_FnAllowed.j0 k t949 true t935 t938 t942 t943 t950 t953) else ((impl_OpOk.f k bt970.1 bt970.2.1 bt970.2.2).bind fun t978 => ((spec_OpOk.f k bt970.1 bt970.2.1 bt970.2.2).bind fun t979 => (laws_FnAllowed.j0 k t949 (t978 != t979) t935 t938 t942 t943 t950 t953)))))) else (laws_FnAllowed.j0 k t949 true t935 t938 t942 t943 t950 t953)) else (laws_FnAllowed.j0 k t949 true t935 t938 t942 t943 t950 t953)))))))) = some r := H
  have A6 := Aside0.mk A60
  clear A60
  replace H := Option.bind_eq_some_iff.mp H
  obtain ⟨⟨t955, t958⟩, A70, H⟩ := H
  replace H : ((spec_DrawResSame.f k l0).bind fun bt960 => ((spec_DrawOpOk.f k l0).bind fun bt970 => ((spec_Allowed.f k t935 t938 t939 t940 t941 t942 t943).bind fun t974 => (if (t949 != t974) = true then (laws_FnAllowed.j0 k t949 true t935 t938 t942 t943 t950 t953) else ((laws_sameInts.f k t950 t955).bind fun t975 => (if t975 = true then (if t953 = t958 then ((impl_ResSame.f k bt960.1 bt960.2.1 bt960.2.2.1 bt960.2.2.2).bind fun t976 => ((spec_ResSame.f k bt960.1 bt960.2.1 bt960.2.2.1 bt960.2.2.2).bind fun t977 => (if (t976 != t977) = true then (laws_FnAllowed.j0 k t949 true t935 t938 t942 t943 t950 t953) else ((impl_OpOk.f k bt970.1 bt970.2.1 bt970.2.2).bind fun t978 => ((spec_OpOk.f k bt970.1 bt970.2.1 bt970.2.2).bind fun t979 => (laws_FnAllowed.j0 k t949 (t978 != t979) t935 t938 t942 t943 t950 t953)))))) else (laws_FnAllowed.j0 k t949 true t935 t938 t942 t943 t950 t953)) else (laws_FnAllowed.j0 k t949 true t935 t938 t942 t943 t950 t953))))))) = some r := H
  have A7 := Aside0.mk A70
  clear A70
  replace H := Option.bind_eq_some_iff.mp H
  obtain ⟨⟨t960, t961, t964, t965⟩, A80, H⟩ := H
  replace H : ((spec_DrawOpOk.f k l0).bind fun bt970 => ((spec_Allowed.f k t935 t938 t939 t940 t941 t942 t943).bind fun t974 => (if (t949 != t974) = true then (laws_FnAllowed.j0 k t949 true t935 t938 t942 t943 t950 t953) else ((laws_sameInts.f k t950 t955).bind fun t975 => (if t975 = true then (if t953 = t958 then ((impl_ResSame.f k t960 t961 t964 t965).bind fun t976 => ((spec_ResSame.f k t960 t961 t964 t965).bind fun t977 => (if (t976 != t977) = true then (laws_FnAllowed.j0 k t949 true t935 t938 t942 t943 t950 t953) else ((impl_OpOk.f k bt970.1 bt970.2.1 bt970.2.2).bind fun t978 => ((spec_OpOk.f k bt970.1 bt970.2.1 bt970.2.2).bind fun t979 => (laws_FnAllowed.j0 k t949 (t978 != t979) t935 t938 t942 t943 t950 t953)))))) else (laws_FnAllowed.j0 k t949 true t935 t938 t942 t943 t950 t953)) else (laws_FnAllowed.j0 k t949 true t935 t938 t942 t943 t950 t953)))))) = some r := H
  have A8 := Aside0.mk A80
  clear A80
  replace H := Option.bind_eq_some_iff.mp H
  obtain ⟨⟨t970, t971, t972⟩, A90, H⟩ := H
  replace H : ((spec_Allowed.f k t935 t938 t939 t940 t941 t942 t943).bind fun t974 => (if (t949 != t974) = true then (laws_FnAllowed.j0 k t949 true t935 t938 t942 t943 t950 t953) else ((laws_sameInts.f k t950 t955).bind fun t975 => (if t975 = true then (if t953 = t958 then ((impl_ResSame.f k t960 t961 t964 t965).bind fun t976 => ((spec_ResSame.f k t960 t961 t964 t965).bind fun t977 => (if (t976 != t977) = true then (laws_FnAllowed.j0 k t949 true t935 t938 t942 t943 t950 t953) else ((impl_OpOk.f k t970 t971 t972).bind fun t978 => ((spec_OpOk.f k t970 t971 t972).bind fun t979 => (laws_FnAllowed.j0 k t949 (t978 != t979) t935 t938 t942 t943 t950 t953)))))) else (laws_FnAllowed.j0 k t949 true t935 t938 t942 t943 t950 t953)) else (laws_FnAllowed.j0 k t949 true t935 t938 t942 t943 t950 t953))))) = some r := H
  have A9 := Aside0.mk A90
  clear A90
  have HC10 := Aside0.mk H
  clear H
  go_enter Try.func7, Try.ntmps7
  go_upto_region 9 with (first | ((with_reducible refine gate_callee (f := 44) rfl ?_); refine gL 13 Try.func44 #[.slice A0 l0.length c0] ?_; (with_reducible refine (laws_big.calls _ _ l0 false _ ?side1 ?side2 A2.out).mono ?_); (case side1 => repeat (first | exact HR0.out | (with_reducible refine Kd.C_alloc ?_ _) | (with_reducible refine Kd.C_drewN ?_ _) | (with_reducible refine Kd.C_drew ?_))); (case side2 => exact HC0.out); rintro e w' ⟨rfl, ⟨nd, rfl⟩⟩; refine ⟨_, rfl, ?_⟩) | ((with_reducible refine gate_callee (f := 45) rfl ?_); refine gL 16 Try.func45 #[.slice A0 l0.length c0] ?_; (with_reducible refine (spec_DrawAllowed.calls k _ _ l0 t935 t938 t939 t940 t941 t942 t943 _ ?side1 ?side2 A4.out).mono ?_); (case side1 => repeat (first | exact HR0.out | (with_reducible refine Kd.C_alloc ?_ _) | (with_reducible refine Kd.C_drewN ?_ _) | (with_reducible refine Kd.C_drew ?_))); (case side2 => exact HC0.out); rintro e w11 ⟨v936, v944, rfl, ho0, ho1, hb⟩; refine ⟨_, rfl, ?_⟩; have HO937 := Aside0.mk (Kd.R_lower ho0 (below_size (tb HB))); have HO945 := Aside0.mk (Kd.R_lower ho1 (below_size (tb HB))); replace HB := bs HB hb; (try clear hb); (try clear hb2); (try clear hk); (try clear hi); (try clear ho0); (try clear ho1)) | ((with_reducible refine gate_dst (N := 3) rfl ?_); refine bx (N := 3) (cs := #[.slice none 0 0, .int .i64 0]) (t := 65) ?_; intro gb946 hg w12 hbox hb; replace HO937 := rb HO937 hb; replace HO945 := rb HO945 hb; have BK946 := Aside0.mk (hbox); have GW946 := Aside0.mk (ge_ hg HB); have GE946 := Aside0.mk (ge_ hg HB); replace HB := bs HB hb; clear hb hbox hg) | ((with_reducible refine gate_dst (N := 4) rfl ?_); refine bx (N := 4) (cs := #[.int .i64 0, .int .i64 0, .int .i64 0]) (t := 68) ?_; intro gb947 hg w13 hbox hb; replace HO937 := rb HO937 hb; replace HO945 := rb HO945 hb; have BK947 := Aside0.mk (hbox); have GW947 := Aside0.mk (ge_ hg HB); have GE947 := Aside0.mk (ge_ hg HB); replace HB := bs HB hb; have NB946_947 := Aside0.mk (nl_ hg BK946); have NB947_946 := Aside0.mk (ng_ hg BK946); replace BK946 := bb BK946 hb; clear hb hbox hg) | ((with_reducible refine gate_dst (N := 5) rfl ?_); refine bx (N := 5) (cs := #[.int .i64 0, .slice none 0 0]) (t := 70) ?_; intro gb948 hg w14 hbox hb; replace HO937 := rb HO937 hb; replace HO945 := rb HO945 hb; have BK948 := Aside0.mk (hbox); have GW948 := Aside0.mk (ge_ hg HB); have GE948 := Aside0.mk (ge_ hg HB); replace HB := bs HB hb; have NB946_948 := Aside0.mk (nl_ hg BK946); have NB948_946 := Aside0.mk (ng_ hg BK946); replace BK946 := bb BK946 hb; have NB947_948 := Aside0.mk (nl_ hg BK947); have NB948_947 := Aside0.mk (ng_ hg BK947); replace BK947 := bb BK947 hb; clear hb hbox hg; obtain ⟨Ao15, co15, eo15⟩ := Kd.R_slice HO937.out; subst eo15; have hnb16 := NB946_947.out; have hnc16 := NB947_946.out; have hnb17 := NB946_948.out; have hnc17 := NB948_946.out; obtain ⟨hcz18_0, hcz18_1, hfz18_0, hfz18_1⟩ := c2 BK946; have hnb19 := NB947_948.out; have hnc19 := NB948_947.out; obtain ⟨hcz20_0, hcz20_1, hcz20_2, hfz20_0, hfz20_1, hfz20_2⟩ := c3 BK947; obtain ⟨hcz21_0, hcz21_1, hfz21_0, hfz21_1⟩ := c2 BK948; obtain ⟨Ao22, co22, eo22⟩ := Kd.R_slice HO945.out; subst eo22) | ((with_reducible refine gate_callee (f := 46) rfl ?_); refine gL 23 Try.func46 #[.agg #[.slice Ao15 t935.length co15, .int .i64 t938], .agg #[.int .i64 t939, .int .i64 t940, .int .i64 t941], .agg #[.int .i64 t942, .slice Ao22 t943.length co22]] ?_; (with_reducible refine (impl_Allowed.calls k _ _ t935 t938 t939 t940 t941 t942 _ _ t943 t949 _ ?side1 ?side2 ?side3 ?side4 A5.out).mono ?_); (case side1 => refine (Kd.R_reads' (e := 3) (base := w.heap.size) (ok := fun k_ => some k_ ≠ (.slice Ao22 t943.length co22 : Value).ownBlock) (n := t935.length) (c := co15) ?_).2.2; exact (kr ((Kd.R_mono (Kd.R_mono (Kd.R_mono (Kd.R_far (p := ⟨gb948, 1, none⟩) (Kd.R_far (p := ⟨gb948, 0, none⟩) (Kd.R_far (p := ⟨gb947, 2, none⟩) (Kd.R_far (p := ⟨gb947, 1, none⟩) (Kd.R_far (p := ⟨gb947, 0, none⟩) (Kd.R_far (p := ⟨gb946, 1, none⟩) (Kd.R_far (p := ⟨gb946, 0, none⟩) (Kd.R_types (Kd.R_types (Kd.R_types HO937.out BK946.out (by decide)) BK947.out (by decide)) BK948.out (by decide)) (fun _ hk => hk.1.1.2) (.slice Ao15 t935.length co15)) (fun _ hk => hk.1.1.2) (.int .i64 t938)) (fun _ hk => hk.1.2) (.int .i64 t939)) (fun _ hk => hk.1.2) (.int .i64 t940)) (fun _ hk => hk.1.2) (.int .i64 t941)) (fun _ hk => hk.2) (.int .i64 t942)) (fun _ hk => hk.2) (.slice Ao22 t943.length co22)) (fun _ h_ => h_.1)) (fun _ h_ => h_.1)) (fun _ h_ => h_.1))))); (case side2 => exact (Kd.R_reads' HO937.out).2.1); (case side3 => refine (Kd.R_reads' (e := 3) (base := w.heap.size) (ok := fun k_ => some k_ ≠ (.slice Ao15 t935.length co15 : Value).ownBlock) (n := t943.length) (c := co22) ?_).2.2; exact (kr ((Kd.R_mono (Kd.R_mono (Kd.R_mono (Kd.R_far (p := ⟨gb948, 1, none⟩) (Kd.R_far (p := ⟨gb948, 0, none⟩) (Kd.R_far (p := ⟨gb947, 2, none⟩) (Kd.R_far (p := ⟨gb947, 1, none⟩) (Kd.R_far (p := ⟨gb947, 0, none⟩) (Kd.R_far (p := ⟨gb946, 1, none⟩) (Kd.R_far (p := ⟨gb946, 0, none⟩) (Kd.R_types (Kd.R_types (Kd.R_types HO945.out BK946.out (by decide)) BK947.out (by decide)) BK948.out (by decide)) (fun _ hk => hk.1.1.2) (.slice Ao15 t935.length co15)) (fun _ hk => hk.1.1.2) (.int .i64 t938)) (fun _ hk => hk.1.2) (.int .i64 t939)) (fun _ hk => hk.1.2) (.int .i64 t940)) (fun _ hk => hk.1.2) (.int .i64 t941)) (fun _ hk => hk.2) (.int .i64 t942)) (fun _ hk => hk.2) (.slice Ao22 t943.length co22)) (fun _ h_ => h_.1)) (fun _ h_ => h_.1)) (fun _ h_ => h_.1))))); (case side4 => exact (Kd.R_reads' HO945.out).2.1); rintro e w23 ⟨rfl, hb⟩; refine ⟨_, rfl, ?_⟩; replace HO937 := Aside0.mk (Kd.R_below (kr ((Kd.R_mono (Kd.R_mono (Kd.R_mono (Kd.R_far (p := ⟨gb948, 1, none⟩) (Kd.R_far (p := ⟨gb948, 0, none⟩) (Kd.R_far (p := ⟨gb947, 2, none⟩) (Kd.R_far (p := ⟨gb947, 1, none⟩) (Kd.R_far (p := ⟨gb947, 0, none⟩) (Kd.R_far (p := ⟨gb946, 1, none⟩) (Kd.R_far (p := ⟨gb946, 0, none⟩) (Kd.R_types (Kd.R_types (Kd.R_types HO937.out BK946.out (by decide)) BK947.out (by decide)) BK948.out (by decide)) (fun _ hk => hk.1.1.2) (.slice Ao15 t935.length co15)) (fun _ hk => hk.1.1.2) (.int .i64 t938)) (fun _ hk => hk.1.2) (.int .i64 t939)) (fun _ hk => hk.1.2) (.int .i64 t940)) (fun _ hk => hk.1.2) (.int .i64 t941)) (fun _ hk => hk.2) (.int .i64 t942)) (fun _ hk => hk.2) (.slice Ao22 t943.length co22)) (fun _ h_ => h_.1)) (fun _ h_ => h_.1)) (fun _ h_ => h_.1)))) hb); replace HO945 := Aside0.mk (Kd.R_below (kr ((Kd.R_mono (Kd.R_mono (Kd.R_mono (Kd.R_far (p := ⟨gb948, 1, none⟩) (Kd.R_far (p := ⟨gb948, 0, none⟩) (Kd.R_far (p := ⟨gb947, 2, none⟩) (Kd.R_far (p := ⟨gb947, 1, none⟩) (Kd.R_far (p := ⟨gb947, 0, none⟩) (Kd.R_far (p := ⟨gb946, 1, none⟩) (Kd.R_far (p := ⟨gb946, 0, none⟩) (Kd.R_types (Kd.R_types (Kd.R_types HO945.out BK946.out (by decide)) BK947.out (by decide)) BK948.out (by decide)) (fun _ hk => hk.1.1.2) (.slice Ao15 t935.length co15)) (fun _ hk => hk.1.1.2) (.int .i64 t938)) (fun _ hk => hk.1.2) (.int .i64 t939)) (fun _ hk => hk.1.2) (.int .i64 t940)) (fun _ hk => hk.1.2) (.int .i64 t941)) (fun _ hk => hk.2) (.int .i64 t942)) (fun _ hk => hk.2) (.slice Ao22 t943.length co22)) (fun _ h_ => h_.1)) (fun _ h_ => h_.1)) (fun _ h_ => h_.1)))) hb); replace BK946 := Aside0.mk (blk_below (g := gb946) (o := .cells #[.slice Ao15 t935.length co15, .int .i64 t938] 65 (0, 0)) (by (with_reducible repeat (first | refine blk_drewN ?_ _ | refine blk_drew ?_ | refine blk_alloc ?_ _)); refine blk_far ?_ NB946_948.out _; (with_reducible repeat (first | refine blk_drewN ?_ _ | refine blk_drew ?_ | refine blk_alloc ?_ _)); refine blk_far ?_ NB946_948.out _; (with_reducible repeat (first | refine blk_drewN ?_ _ | refine blk_drew ?_ | refine blk_alloc ?_ _)); refine blk_far ?_ NB946_947.out _; (with_reducible repeat (first | refine blk_drewN ?_ _ | refine blk_drew ?_ | refine blk_alloc ?_ _)); refine blk_far ?_ NB946_947.out _; (with_reducible repeat (first | refine blk_drewN ?_ _ | refine blk_drew ?_ | refine blk_alloc ?_ _)); refine blk_far ?_ NB946_947.out _; (with_reducible repeat (first | refine blk_drewN ?_ _ | refine blk_drew ?_ | refine blk_alloc ?_ _)); refine blk_put (cs := #[.slice Ao15 t935.length co15, .int .i64 0]) ?_ 1 _ rfl; (with_reducible repeat (first | refine blk_drewN ?_ _ | refine blk_drew ?_ | refine blk_alloc ?_ _)); refine blk_put (cs := #[.slice none 0 0, .int .i64 0]) ?_ 0 _ rfl; (with_reducible repeat (first | refine blk_drewN ?_ _ | refine blk_drew ?_ | refine blk_alloc ?_ _)); exact BK946.out) hb); replace BK947 := Aside0.mk (blk_below (g := gb947) (o := .cells #[.int .i64 t939, .int .i64 t940, .int .i64 t941] 68 (0, 0)) (by (with_reducible repeat (first | refine blk_drewN ?_ _ | refine blk_drew ?_ | refine blk_alloc ?_ _)); refine blk_far ?_ NB947_948.out _; (with_reducible repeat (first | refine blk_drewN ?_ _ | refine blk_drew ?_ | refine blk_alloc ?_ _)); refine blk_far ?_ NB947_948.out _; (with_reducible repeat (first | refine blk_drewN ?_ _ | refine blk_drew ?_ | refine blk_alloc ?_ _)); refine blk_put (cs := #[.int .i64 t939, .int .i64 t940, .int .i64 0]) ?_ 2 _ rfl; (with_reducible repeat (first | refine blk_drewN ?_ _ | refine blk_drew ?_ | refine blk_alloc ?_ _)); refine blk_put (cs := #[.int .i64 t939, .int .i64 0, .int .i64 0]) ?_ 1 _ rfl; (with_reducible repeat (first | refine blk_drewN ?_ _ | refine blk_drew ?_ | refine blk_alloc ?_ _)); refine blk_put (cs := #[.int .i64 0, .int .i64 0, .int .i64 0]) ?_ 0 _ rfl; (with_reducible repeat (first | refine blk_drewN ?_ _ | refine blk_drew ?_ | refine blk_alloc ?_ _)); refine blk_far ?_ NB947_946.out _; (with_reducible repeat (first | refine blk_drewN ?_ _ | refine blk_drew ?_ | refine blk_alloc ?_ _)); refine blk_far ?_ NB947_946.out _; (with_reducible repeat (first | refine blk_drewN ?_ _ | refine blk_drew ?_ | refine blk_alloc ?_ _)); exact BK947.out) hb); replace BK948 := Aside0.mk (blk_below (g := gb948) (o := .cells #[.int .i64 t942, .slice Ao22 t943.length co22] 70 (0, 0)) (by (with_reducible repeat (first | refine blk_drewN ?_ _ | refine blk_drew ?_ | refine blk_alloc ?_ _)); refine blk_put (cs := #[.int .i64 t942, .slice none 0 0]) ?_ 1 _ rfl; (with_reducible repeat (first | refine blk_drewN ?_ _ | refine blk_drew ?_ | refine blk_alloc ?_ _)); refine blk_put (cs := #[.int .i64 0, .slice none 0 0]) ?_ 0 _ rfl; (with_reducible repeat (first | refine blk_drewN ?_ _ | refine blk_drew ?_ | refine blk_alloc ?_ _)); refine blk_far ?_ NB948_947.out _; (with_reducible repeat (first | refine blk_drewN ?_ _ | refine blk_drew ?_ | refine blk_alloc ?_ _)); refine blk_far ?_ NB948_947.out _; (with_reducible repeat (first | refine blk_drewN ?_ _ | refine blk_drew ?_ | refine blk_alloc ?_ _)); refine blk_far ?_ NB948_947.out _; (with_reducible repeat (first | refine blk_drewN ?_ _ | refine blk_drew ?_ | refine blk_alloc ?_ _)); refine blk_far ?_ NB948_946.out _; (with_reducible repeat (first | refine blk_drewN ?_ _ | refine blk_drew ?_ | refine blk_alloc ?_ _)); refine blk_far ?_ NB948_946.out _; (with_reducible repeat (first | refine blk_drewN ?_ _ | refine blk_drew ?_ | refine blk_alloc ?_ _)); exact BK948.out) hb); replace HB := bs HB hb; (try clear hb); (try clear hb2); (try clear hk); (try clear hi); obtain ⟨hcz24_0, hcz24_1, hfz24_0, hfz24_1⟩ := c2 BK946; obtain ⟨hcz25_0, hcz25_1, hcz25_2, hfz25_0, hfz25_1, hfz25_2⟩ := c3 BK947; obtain ⟨hcz26_0, hcz26_1, hfz26_0, hfz26_1⟩ := c2 BK948) | ((with_reducible refine gate_callee (f := 38) rfl ?_); refine gL 27 Try.func38 #[.agg #[.slice Ao15 t935.length co15, .int .i64 t938], .agg #[.int .i64 t939, .int .i64 t940, .int .i64 t941], .agg #[.int .i64 t942, .slice Ao22 t943.length co22]] ?_; (with_reducible refine (impl_After.calls k _ _ t935 t938 t939 t940 t941 t942 _ _ t943 t950 t953 _ ?side1 ?side2 ?side3 ?side4 A6.out).mono ?_); (case side1 => repeat (first | exact (Kd.R_reads' HO937.out).2.2 | (with_reducible refine Kd.C_alloc ?_ _) | (with_reducible refine Kd.C_drewN ?_ _) | (with_reducible refine Kd.C_drew ?_))); (case side2 => exact (Kd.R_reads' HO937.out).2.1); (case side3 => repeat (first | exact (Kd.R_reads' HO945.out).2.2 | (with_reducible refine Kd.C_alloc ?_ _) | (with_reducible refine Kd.C_drewN ?_ _) | (with_reducible refine Kd.C_drew ?_))); (case side4 => exact (Kd.R_reads' HO945.out).2.1); rintro e w27 ⟨v951, rfl, ho0, hb⟩; refine ⟨_, rfl, ?_⟩; have HO952 := Aside0.mk (Kd.R_lower (Kd.R_new' (Kd.R_new' ho0 (Kd.R_lt (kr HO937.out))) (Kd.R_lt (kr HO945.out))) (below_size (tb HB))); replace HO937 := Aside0.mk (Kd.R_elder' (kr HO937.out) (Kd.R_base ho0) hb); replace HO945 := Aside0.mk (Kd.R_elder' (kr HO945.out) (Kd.R_base ho0) hb); replace BK946 := bb BK946 hb; replace BK947 := bb BK947 hb; replace BK948 := bb BK948 hb; replace HB := bs HB hb; (try clear hb); (try clear hb2); (try clear hk); (try clear hi); (try clear ho0)) | ((with_reducible refine gate_dst (N := 7) rfl ?_); refine bx (N := 7) (cs := #[.slice none 0 0, .int .i64 0]) (t := 65) ?_; intro gb954 hg w28 hbox hb; replace HO937 := rb HO937 hb; replace HO945 := rb HO945 hb; replace HO952 := rb HO952 hb; have BK954 := Aside0.mk (hbox); have GW954 := Aside0.mk (ge_ hg HB); have GE954 := Aside0.mk (ge_ hg HB); replace HB := bs HB hb; have NB946_954 := Aside0.mk (nl_ hg BK946); have NB954_946 := Aside0.mk (ng_ hg BK946); replace BK946 := bb BK946 hb; have NB947_954 := Aside0.mk (nl_ hg BK947); have NB954_947 := Aside0.mk (ng_ hg BK947); replace BK947 := bb BK947 hb; have NB948_954 := Aside0.mk (nl_ hg BK948); have NB954_948 := Aside0.mk (ng_ hg BK948); replace BK948 := bb BK948 hb; clear hb hbox hg; obtain ⟨Ao29, co29, eo29⟩ := Kd.R_slice HO952.out; subst eo29; have hnb30 := NB954_946.out; have hnc30 := NB946_954.out; have hnb31 := NB954_947.out; have hnc31 := NB947_954.out; have hnb32 := NB954_948.out; have hnc32 := NB948_954.out; obtain ⟨hcz33_0, hcz33_1, hfz33_0, hfz33_1⟩ := c2 BK954; obtain ⟨hcz34_0, hcz34_1, hfz34_0, hfz34_1⟩ := c2 BK946; obtain ⟨hcz35_0, hcz35_1, hcz35_2, hfz35_0, hfz35_1, hfz35_2⟩ := c3 BK947; obtain ⟨hcz36_0, hcz36_1, hfz36_0, hfz36_1⟩ := c2 BK948) | ((with_reducible refine gate_callee (f := 34) rfl ?_); refine gL 31 Try.func34 #[.agg #[.slice Ao15 t935.length co15, .int .i64 t938], .agg #[.int .i64 t939, .int .i64 t940, .int .i64 t941], .agg #[.int .i64 t942, .slice Ao22 t943.length co22]] ?_; (with_reducible refine (spec_After.calls k _ _ t935 t938 t939 t940 t941 t942 _ _ t943 t955 t958 _ ?side1 ?side2 ?side3 ?side4 A7.out).mono ?_); (case side1 => refine (Kd.R_reads' (e := 3) (base := w.heap.size) (ok := fun k_ => (some k_ ≠ (.slice Ao22 t943.length co22 : Value).ownBlock ∧ some k_ ≠ (.slice Ao29 t950.length co29 : Value).ownBlock)) (n := t935.length) (c := co15) ?_).2.2; exact (kr ((Kd.R_mono (Kd.R_far (p := ⟨gb954, 1, none⟩) (Kd.R_far (p := ⟨gb954, 0, none⟩) (Kd.R_types HO937.out BK954.out (by decide)) (fun _ hk => hk.2) (.slice Ao29 t950.length co29)) (fun _ hk => hk.2) (.int .i64 t953)) (fun _ h_ => h_.1))))); (case side2 => exact (Kd.R_reads' HO937.out).2.1); (case side3 => refine (Kd.R_reads' (e := 3) (base := w.heap.size) (ok := fun k_ => (some k_ ≠ (.slice Ao15 t935.length co15 : Value).ownBlock ∧ some k_ ≠ (.slice Ao29 t950.length co29 : Value).ownBlock)) (n := t943.length) (c := co22) ?_).2.2; exact (kr ((Kd.R_mono (Kd.R_far (p := ⟨gb954, 1, none⟩) (Kd.R_far (p := ⟨gb954, 0, none⟩) (Kd.R_types HO945.out BK954.out (by decide)) (fun _ hk => hk.2) (.slice Ao29 t950.length co29)) (fun _ hk => hk.2) (.int .i64 t953)) (fun _ h_ => h_.1))))); (case side4 => exact (Kd.R_reads' HO945.out).2.1); rintro e w37 ⟨v956, rfl, ho0, hb⟩; refine ⟨_, rfl, ?_⟩; have HO957 := Aside0.mk (Kd.R_lower (Kd.R_new' (Kd.R_new' (Kd.R_new' ho0 (Kd.R_lt (kr ((Kd.R_mono (Kd.R_far (p := ⟨gb954, 1, none⟩) (Kd.R_far (p := ⟨gb954, 0, none⟩) (Kd.R_types HO937.out BK954.out (by decide)) (fun _ hk => hk.2) (.slice Ao29 t950.length co29)) (fun _ hk => hk.2) (.int .i64 t953)) (fun _ h_ => h_.1)))))) (Kd.R_lt (kr ((Kd.R_mono (Kd.R_far (p := ⟨gb954, 1, none⟩) (Kd.R_far (p := ⟨gb954, 0, none⟩) (Kd.R_types HO945.out BK954.out (by decide)) (fun _ hk => hk.2) (.slice Ao29 t950.length co29)) (fun _ hk => hk.2) (.int .i64 t953)) (fun _ h_ => h_.1)))))) (Kd.R_lt (kr ((Kd.R_mono (Kd.R_far (p := ⟨gb954, 1, none⟩) (Kd.R_far (p := ⟨gb954, 0, none⟩) (Kd.R_types HO952.out BK954.out (by decide)) (fun _ hk => hk.2) (.slice Ao29 t950.length co29)) (fun _ hk => hk.2) (.int .i64 t953)) (fun _ h_ => h_.1)))))) (below_size (tb HB))); replace HO937 := Aside0.mk (Kd.R_elder' (kr ((Kd.R_mono (Kd.R_far (p := ⟨gb954, 1, none⟩) (Kd.R_far (p := ⟨gb954, 0, none⟩) (Kd.R_types HO937.out BK954.out (by decide)) (fun _ hk => hk.2) (.slice Ao29 t950.length co29)) (fun _ hk => hk.2) (.int .i64 t953)) (fun _ h_ => h_.1)))) (Kd.R_base ho0) hb); replace HO945 := Aside0.mk (Kd.R_elder' (kr ((Kd.R_mono (Kd.R_far (p := ⟨gb954, 1, none⟩) (Kd.R_far (p := ⟨gb954, 0, none⟩) (Kd.R_types HO945.out BK954.out (by decide)) (fun _ hk => hk.2) (.slice Ao29 t950.length co29)) (fun _ hk => hk.2) (.int .i64 t953)) (fun _ h_ => h_.1)))) (Kd.R_base ho0) hb); replace HO952 := Aside0.mk (Kd.R_elder' (kr ((Kd.R_mono (Kd.R_far (p := ⟨gb954, 1, none⟩) (Kd.R_far (p := ⟨gb954, 0, none⟩) (Kd.R_types HO952.out BK954.out (by decide)) (fun _ hk => hk.2) (.slice Ao29 t950.length co29)) (fun _ hk => hk.2) (.int .i64 t953)) (fun _ h_ => h_.1)))) (Kd.R_base ho0) hb); replace BK946 := Aside0.mk (blk_below (g := gb946) (o := .cells #[.slice Ao15 t935.length co15, .int .i64 t938] 65 (0, 0)) (bf BK946) hb); replace BK947 := Aside0.mk (blk_below (g := gb947) (o := .cells #[.int .i64 t939, .int .i64 t940, .int .i64 t941] 68 (0, 0)) (bf BK947) hb); replace BK948 := Aside0.mk (blk_below (g := gb948) (o := .cells #[.int .i64 t942, .slice Ao22 t943.length co22] 70 (0, 0)) (bf BK948) hb); replace BK954 := Aside0.mk (blk_below (g := gb954) (o := .cells #[.slice Ao29 t950.length co29, .int .i64 t953] 65 (0, 0)) (by (with_reducible repeat (first | refine blk_drewN ?_ _ | refine blk_drew ?_ | refine blk_alloc ?_ _)); refine blk_put (cs := #[.slice Ao29 t950.length co29, .int .i64 0]) ?_ 1 _ rfl; (with_reducible repeat (first | refine blk_drewN ?_ _ | refine blk_drew ?_ | refine blk_alloc ?_ _)); refine blk_put (cs := #[.slice none 0 0, .int .i64 0]) ?_ 0 _ rfl; (with_reducible repeat (first | refine blk_drewN ?_ _ | refine blk_drew ?_ | refine blk_alloc ?_ _)); exact BK954.out) hb); replace HB := bs HB hb; (try clear hb); (try clear hb2); (try clear hk); (try clear hi); (try clear ho0)) | ((with_reducible refine gate_dst (N := 8) rfl ?_); refine bx (N := 8) (cs := #[.slice none 0 0, .int .i64 0]) (t := 65) ?_; intro gb959 hg w38 hbox hb; replace HO937 := rb HO937 hb; replace HO945 := rb HO945 hb; replace HO952 := rb HO952 hb; replace HO957 := rb HO957 hb; have BK959 := Aside0.mk (hbox); have GW959 := Aside0.mk (ge_ hg HB); have GE959 := Aside0.mk (ge_ hg HB); replace HB := bs HB hb; have NB946_959 := Aside0.mk (nl_ hg BK946); have NB959_946 := Aside0.mk (ng_ hg BK946); replace BK946 := bb BK946 hb; have NB947_959 := Aside0.mk (nl_ hg BK947); have NB959_947 := Aside0.mk (ng_ hg BK947); replace BK947 := bb BK947 hb; have NB948_959 := Aside0.mk (nl_ hg BK948); have NB959_948 := Aside0.mk (ng_ hg BK948); replace BK948 := bb BK948 hb; have NB954_959 := Aside0.mk (nl_ hg BK954); have NB959_954 := Aside0.mk (ng_ hg BK954); replace BK954 := bb BK954 hb; clear hb hbox hg; obtain ⟨Ao39, co39, eo39⟩ := Kd.R_slice HO957.out; subst eo39; have hnb40 := NB959_946.out; have hnc40 := NB946_959.out; have hnb41 := NB959_947.out; have hnc41 := NB947_959.out; have hnb42 := NB959_948.out; have hnc42 := NB948_959.out; have hnb43 := NB959_954.out; have hnc43 := NB954_959.out; obtain ⟨hcz44_0, hcz44_1, hfz44_0, hfz44_1⟩ := c2 BK959) | ((with_reducible refine gate_callee (f := 47) rfl ?_); refine gL 34 Try.func47 #[.slice A0 l0.length c0] ?_; (with_reducible refine (spec_DrawResSame.calls k _ _ l0 t960 t961 t964 t965 _ ?side1 ?side2 A8.out).mono ?_); (case side1 => exact Kd.C_below HR0.out (tb HB)); (case side2 => exact HC0.out); rintro e w45 ⟨v962, v966, rfl, ho0, ho1, hb⟩; refine ⟨_, rfl, ?_⟩; have HO963 := Aside0.mk (Kd.R_lower (Kd.R_new' (Kd.R_new' (Kd.R_new' (Kd.R_new' ho0 (Kd.R_lt (kr ((Kd.R_mono (Kd.R_far (p := ⟨gb959, 1, none⟩) (Kd.R_far (p := ⟨gb959, 0, none⟩) (Kd.R_types HO937.out BK959.out (by decide)) (fun _ hk => hk.2) (.slice Ao39 t955.length co39)) (fun _ hk => hk.2) (.int .i64 t958)) (fun _ h_ => h_.1)))))) (Kd.R_lt (kr ((Kd.R_mono (Kd.R_far (p := ⟨gb959, 1, none⟩) (Kd.R_far (p := ⟨gb959, 0, none⟩) (Kd.R_types HO945.out BK959.out (by decide)) (fun _ hk => hk.2) (.slice Ao39 t955.length co39)) (fun _ hk => hk.2) (.int .i64 t958)) (fun _ h_ => h_.1)))))) (Kd.R_lt (kr ((Kd.R_mono (Kd.R_far (p := ⟨gb959, 1, none⟩) (Kd.R_far (p := ⟨gb959, 0, none⟩) (Kd.R_types HO952.out BK959.out (by decide)) (fun _ hk => hk.2) (.slice Ao39 t955.length co39)) (fun _ hk => hk.2) (.int .i64 t958)) (fun _ h_ => h_.1)))))) (Kd.R_lt (kr ((Kd.R_mono (Kd.R_far (p := ⟨gb959, 1, none⟩) (Kd.R_far (p := ⟨gb959, 0, none⟩) (Kd.R_types HO957.out BK959.out (by decide)) (fun _ hk => hk.2) (.slice Ao39 t955.length co39)) (fun _ hk => hk.2) (.int .i64 t958)) (fun _ h_ => h_.1)))))) (below_size (tb HB))); have HO967 := Aside0.mk (Kd.R_lower (Kd.R_new' (Kd.R_new' (Kd.R_new' (Kd.R_new' ho1 (Kd.R_lt (kr ((Kd.R_mono (Kd.R_far (p := ⟨gb959, 1, none⟩) (Kd.R_far (p := ⟨gb959, 0, none⟩) (Kd.R_types HO937.out BK959.out (by decide)) (fun _ hk => hk.2) (.slice Ao39 t955.length co39)) (fun _ hk => hk.2) (.int .i64 t958)) (fun _ h_ => h_.1)))))) (Kd.R_lt (kr ((Kd.R_mono (Kd.R_far (p := ⟨gb959, 1, none⟩) (Kd.R_far (p := ⟨gb959, 0, none⟩) (Kd.R_types HO945.out BK959.out (by decide)) (fun _ hk => hk.2) (.slice Ao39 t955.length co39)) (fun _ hk => hk.2) (.int .i64 t958)) (fun _ h_ => h_.1)))))) (Kd.R_lt (kr ((Kd.R_mono (Kd.R_far (p := ⟨gb959, 1, none⟩) (Kd.R_far (p := ⟨gb959, 0, none⟩) (Kd.R_types HO952.out BK959.out (by decide)) (fun _ hk => hk.2) (.slice Ao39 t955.length co39)) (fun _ hk => hk.2) (.int .i64 t958)) (fun _ h_ => h_.1)))))) (Kd.R_lt (kr ((Kd.R_mono (Kd.R_far (p := ⟨gb959, 1, none⟩) (Kd.R_far (p := ⟨gb959, 0, none⟩) (Kd.R_types HO957.out BK959.out (by decide)) (fun _ hk => hk.2) (.slice Ao39 t955.length co39)) (fun _ hk => hk.2) (.int .i64 t958)) (fun _ h_ => h_.1)))))) (below_size (tb HB))); replace HO937 := Aside0.mk (Kd.R_mono (Kd.R_told (Kd.R_told (Kd.R_old (kr ((Kd.R_mono (Kd.R_far (p := ⟨gb959, 1, none⟩) (Kd.R_far (p := ⟨gb959, 0, none⟩) (Kd.R_types HO937.out BK959.out (by decide)) (fun _ hk => hk.2) (.slice Ao39 t955.length co39)) (fun _ hk => hk.2) (.int .i64 t958)) (fun _ h_ => h_.1)))) hb) (Kd.R_base ho0)) (Kd.R_base ho1)) (fun _ h_ => h_.1)); replace HO945 := Aside0.mk (Kd.R_mono (Kd.R_told (Kd.R_told (Kd.R_old (kr ((Kd.R_mono (Kd.R_far (p := ⟨gb959, 1, none⟩) (Kd.R_far (p := ⟨gb959, 0, none⟩) (Kd.R_types HO945.out BK959.out (by decide)) (fun _ hk => hk.2) (.slice Ao39 t955.length co39)) (fun _ hk => hk.2) (.int .i64 t958)) (fun _ h_ => h_.1)))) hb) (Kd.R_base ho0)) (Kd.R_base ho1)) (fun _ h_ => h_.1)); replace HO952 := Aside0.mk (Kd.R_mono (Kd.R_told (Kd.R_told (Kd.R_old (kr ((Kd.R_mono (Kd.R_far (p := ⟨gb959, 1, none⟩) (Kd.R_far (p := ⟨gb959, 0, none⟩) (Kd.R_types HO952.out BK959.out (by decide)) (fun _ hk => hk.2) (.slice Ao39 t955.length co39)) (fun _ hk => hk.2) (.int .i64 t958)) (fun _ h_ => h_.1)))) hb) (Kd.R_base ho0)) (Kd.R_base ho1)) (fun _ h_ => h_.1)); replace HO957 := Aside0.mk (Kd.R_mono (Kd.R_told (Kd.R_told (Kd.R_old (kr ((Kd.R_mono (Kd.R_far (p := ⟨gb959, 1, none⟩) (Kd.R_far (p := ⟨gb959, 0, none⟩) (Kd.R_types HO957.out BK959.out (by decide)) (fun _ hk => hk.2) (.slice Ao39 t955.length co39)) (fun _ hk => hk.2) (.int .i64 t958)) (fun _ h_ => h_.1)))) hb) (Kd.R_base ho0)) (Kd.R_base ho1)) (fun _ h_ => h_.1)); replace BK946 := Aside0.mk (blk_below (g := gb946) (o := .cells #[.slice Ao15 t935.length co15, .int .i64 t938] 65 (0, 0)) (bf BK946) hb); replace BK947 := Aside0.mk (blk_below (g := gb947) (o := .cells #[.int .i64 t939, .int .i64 t940, .int .i64 t941] 68 (0, 0)) (bf BK947) hb); replace BK948 := Aside0.mk (blk_below (g := gb948) (o := .cells #[.int .i64 t942, .slice Ao22 t943.length co22] 70 (0, 0)) (bf BK948) hb); replace BK954 := Aside0.mk (blk_below (g := gb954) (o := .cells #[.slice Ao29 t950.length co29, .int .i64 t953] 65 (0, 0)) (bf BK954) hb); replace BK959 := Aside0.mk (blk_below (g := gb959) (o := .cells #[.slice Ao39 t955.length co39, .int .i64 t958] 65 (0, 0)) (by (with_reducible repeat (first | refine blk_drewN ?_ _ | refine blk_drew ?_ | refine blk_alloc ?_ _)); refine blk_put (cs := #[.slice Ao39 t955.length co39, .int .i64 0]) ?_ 1 _ rfl; (with_reducible repeat (first | refine blk_drewN ?_ _ | refine blk_drew ?_ | refine blk_alloc ?_ _)); refine blk_put (cs := #[.slice none 0 0, .int .i64 0]) ?_ 0 _ rfl; (with_reducible repeat (first | refine blk_drewN ?_ _ | refine blk_drew ?_ | refine blk_alloc ?_ _)); exact BK959.out) hb); replace HB := bs HB hb; (try clear hb); (try clear hb2); (try clear hk); (try clear hi); (try clear ho0); (try clear ho1)) | ((with_reducible refine gate_dst (N := 9) rfl ?_); refine bx (N := 9) (cs := #[.int .i64 0, .slice none 0 0]) (t := 70) ?_; intro gb968 hg w46 hbox hb; replace HO937 := rb HO937 hb; replace HO945 := rb HO945 hb; replace HO952 := rb HO952 hb; replace HO957 := rb HO957 hb; replace HO963 := rb HO963 hb; replace HO967 := rb HO967 hb; have BK968 := Aside0.mk (hbox); have GW968 := Aside0.mk (ge_ hg HB); have GE968 := Aside0.mk (ge_ hg HB); replace HB := bs HB hb; have NB946_968 := Aside0.mk (nl_ hg BK946); have NB968_946 := Aside0.mk (ng_ hg BK946); replace BK946 := bb BK946 hb; have NB947_968 := Aside0.mk (nl_ hg BK947); have NB968_947 := Aside0.mk (ng_ hg BK947); replace BK947 := bb BK947 hb; have NB948_968 := Aside0.mk (nl_ hg BK948); have NB968_948 := Aside0.mk (ng_ hg BK948); replace BK948 := bb BK948 hb; have NB954_968 := Aside0.mk (nl_ hg BK954); have NB968_954 := Aside0.mk (ng_ hg BK954); replace BK954 := bb BK954 hb; have NB959_968 := Aside0.mk (nl_ hg BK959); have NB968_959 := Aside0.mk (ng_ hg BK959); replace BK959 := bb BK959 hb; clear hb hbox hg) | ((with_reducible refine gate_dst (N := 10) rfl ?_); refine bx (N := 10) (cs := #[.int .i64 0, .slice none 0 0]) (t := 70) ?_; intro gb969 hg w47 hbox hb; replace HO937 := rb HO937 hb; replace HO945 := rb HO945 hb; replace HO952 := rb HO952 hb; replace HO957 := rb HO957 hb; replace HO963 := rb HO963 hb; replace HO967 := rb HO967 hb; have BK969 := Aside0.mk (hbox); have GW969 := Aside0.mk (ge_ hg HB); have GE969 := Aside0.mk (ge_ hg HB); replace HB := bs HB hb; have NB946_969 := Aside0.mk (nl_ hg BK946); have NB969_946 := Aside0.mk (ng_ hg BK946); replace BK946 := bb BK946 hb; have NB947_969 := Aside0.mk (nl_ hg BK947); have NB969_947 := Aside0.mk (ng_ hg BK947); replace BK947 := bb BK947 hb; have NB948_969 := Aside0.mk (nl_ hg BK948); have NB969_948 := Aside0.mk (ng_ hg BK948); replace BK948 := bb BK948 hb; have NB954_969 := Aside0.mk (nl_ hg BK954); have NB969_954 := Aside0.mk (ng_ hg BK954); replace BK954 := bb BK954 hb; have NB959_969 := Aside0.mk (nl_ hg BK959); have NB969_959 := Aside0.mk (ng_ hg BK959); replace BK959 := bb BK959 hb; have NB968_969 := Aside0.mk (nl_ hg BK968); have NB969_968 := Aside0.mk (ng_ hg BK968); replace BK968 := bb BK968 hb; clear hb hbox hg; have hnb48 := NB968_946.out; have hnc48 := NB946_968.out; have hnb49 := NB968_947.out; have hnc49 := NB947_968.out; have hnb50 := NB968_948.out; have hnc50 := NB948_968.out; have hnb51 := NB968_954.out; have hnc51 := NB954_968.out; have hnb52 := NB968_959.out; have hnc52 := NB959_968.out; have hnb53 := NB968_969.out; have hnc53 := NB969_968.out; obtain ⟨hcz54_0, hcz54_1, hfz54_0, hfz54_1⟩ := c2 BK968; obtain ⟨Ao55, co55, eo55⟩ := Kd.R_slice HO963.out; subst eo55; have hnb56 := NB969_946.out; have hnc56 := NB946_969.out; have hnb57 := NB969_947.out; have hnc57 := NB947_969.out; have hnb58 := NB969_948.out; have hnc58 := NB948_969.out; have hnb59 := NB969_954.out; have hnc59 := NB954_969.out; have hnb60 := NB969_959.out; have hnc60 := NB959_969.out; obtain ⟨hcz61_0, hcz61_1, hfz61_0, hfz61_1⟩ := c2 BK969; obtain ⟨Ao62, co62, eo62⟩ := Kd.R_slice HO967.out; subst eo62) | ((with_reducible refine gate_callee (f := 48) rfl ?_); refine gL 38 Try.func48 #[.slice A0 l0.length c0] ?_; (with_reducible refine (spec_DrawOpOk.calls k _ _ l0 t970 t971 t972 _ ?side1 ?side2 A9.out).mono ?_); (case side1 => exact Kd.C_below HR0.out (tb HB)); (case side2 => exact HC0.out); rintro e w63 ⟨rfl, hb⟩; refine ⟨_, rfl, ?_⟩; replace HO937 := Aside0.mk (Kd.R_below (kr ((Kd.R_mono (Kd.R_mono (Kd.R_far (p := ⟨gb969, 1, none⟩) (Kd.R_far (p := ⟨gb969, 0, none⟩) (Kd.R_far (p := ⟨gb968, 1, none⟩) (Kd.R_far (p := ⟨gb968, 0, none⟩) (Kd.R_types (Kd.R_types HO937.out BK968.out (by decide)) BK969.out (by decide)) (fun _ hk => hk.1.2) (.int .i64 t960)) (fun _ hk => hk.1.2) (.slice Ao55 t961.length co55)) (fun _ hk => hk.2) (.int .i64 t964)) (fun _ hk => hk.2) (.slice Ao62 t965.length co62)) (fun _ h_ => h_.1)) (fun _ h_ => h_.1)))) hb); replace HO945 := Aside0.mk (Kd.R_below (kr ((Kd.R_mono (Kd.R_mono (Kd.R_far (p := ⟨gb969, 1, none⟩) (Kd.R_far (p := ⟨gb969, 0, none⟩) (Kd.R_far (p := ⟨gb968, 1, none⟩) (Kd.R_far (p := ⟨gb968, 0, none⟩) (Kd.R_types (Kd.R_types HO945.out BK968.out (by decide)) BK969.out (by decide)) (fun _ hk => hk.1.2) (.int .i64 t960)) (fun _ hk => hk.1.2) (.slice Ao55 t961.length co55)) (fun _ hk => hk.2) (.int .i64 t964)) (fun _ hk => hk.2) (.slice Ao62 t965.length co62)) (fun _ h_ => h_.1)) (fun _ h_ => h_.1)))) hb); replace HO952 := Aside0.mk (Kd.R_below (kr ((Kd.R_mono (Kd.R_mono (Kd.R_far (p := ⟨gb969, 1, none⟩) (Kd.R_far (p := ⟨gb969, 0, none⟩) (Kd.R_far (p := ⟨gb968, 1, none⟩) (Kd.R_far (p := ⟨gb968, 0, none⟩) (Kd.R_types (Kd.R_types HO952.out BK968.out (by decide)) BK969.out (by decide)) (fun _ hk => hk.1.2) (.int .i64 t960)) (fun _ hk => hk.1.2) (.slice Ao55 t961.length co55)) (fun _ hk => hk.2) (.int .i64 t964)) (fun _ hk => hk.2) (.slice Ao62 t965.length co62)) (fun _ h_ => h_.1)) (fun _ h_ => h_.1)))) hb); replace HO957 := Aside0.mk (Kd.R_below (kr ((Kd.R_mono (Kd.R_mono (Kd.R_far (p := ⟨gb969, 1, none⟩) (Kd.R_far (p := ⟨gb969, 0, none⟩) (Kd.R_far (p := ⟨gb968, 1, none⟩) (Kd.R_far (p := ⟨gb968, 0, none⟩) (Kd.R_types (Kd.R_types HO957.out BK968.out (by decide)) BK969.out (by decide)) (fun _ hk => hk.1.2) (.int .i64 t960)) (fun _ hk => hk.1.2) (.slice Ao55 t961.length co55)) (fun _ hk => hk.2) (.int .i64 t964)) (fun _ hk => hk.2) (.slice Ao62 t965.length co62)) (fun _ h_ => h_.1)) (fun _ h_ => h_.1)))) hb); replace HO963 := Aside0.mk (Kd.R_below (kr ((Kd.R_mono (Kd.R_mono (Kd.R_far (p := ⟨gb969, 1, none⟩) (Kd.R_far (p := ⟨gb969, 0, none⟩) (Kd.R_far (p := ⟨gb968, 1, none⟩) (Kd.R_far (p := ⟨gb968, 0, none⟩) (Kd.R_types (Kd.R_types HO963.out BK968.out (by decide)) BK969.out (by decide)) (fun _ hk => hk.1.2) (.int .i64 t960)) (fun _ hk => hk.1.2) (.slice Ao55 t961.length co55)) (fun _ hk => hk.2) (.int .i64 t964)) (fun _ hk => hk.2) (.slice Ao62 t965.length co62)) (fun _ h_ => h_.1)) (fun _ h_ => h_.1)))) hb); replace HO967 := Aside0.mk (Kd.R_below (kr ((Kd.R_mono (Kd.R_mono (Kd.R_far (p := ⟨gb969, 1, none⟩) (Kd.R_far (p := ⟨gb969, 0, none⟩) (Kd.R_far (p := ⟨gb968, 1, none⟩) (Kd.R_far (p := ⟨gb968, 0, none⟩) (Kd.R_types (Kd.R_types HO967.out BK968.out (by decide)) BK969.out (by decide)) (fun _ hk => hk.1.2) (.int .i64 t960)) (fun _ hk => hk.1.2) (.slice Ao55 t961.length co55)) (fun _ hk => hk.2) (.int .i64 t964)) (fun _ hk => hk.2) (.slice Ao62 t965.length co62)) (fun _ h_ => h_.1)) (fun _ h_ => h_.1)))) hb); replace BK946 := Aside0.mk (blk_below (g := gb946) (o := .cells #[.slice Ao15 t935.length co15, .int .i64 t938] 65 (0, 0)) (bf BK946) hb); replace BK947 := Aside0.mk (blk_below (g := gb947) (o := .cells #[.int .i64 t939, .int .i64 t940, .int .i64 t941] 68 (0, 0)) (bf BK947) hb); replace BK948 := Aside0.mk (blk_below (g := gb948) (o := .cells #[.int .i64 t942, .slice Ao22 t943.length co22] 70 (0, 0)) (bf BK948) hb); replace BK954 := Aside0.mk (blk_below (g := gb954) (o := .cells #[.slice Ao29 t950.length co29, .int .i64 t953] 65 (0, 0)) (bf BK954) hb); replace BK959 := Aside0.mk (blk_below (g := gb959) (o := .cells #[.slice Ao39 t955.length co39, .int .i64 t958] 65 (0, 0)) (bf BK959) hb); replace BK968 := Aside0.mk (blk_below (g := gb968) (o := .cells #[.int .i64 t960, .slice Ao55 t961.length co55] 70 (0, 0)) (by (with_reducible repeat (first | refine blk_drewN ?_ _ | refine blk_drew ?_ | refine blk_alloc ?_ _)); refine blk_far ?_ NB968_969.out _; (with_reducible repeat (first | refine blk_drewN ?_ _ | refine blk_drew ?_ | refine blk_alloc ?_ _)); refine blk_far ?_ NB968_969.out _; (with_reducible repeat (first | refine blk_drewN ?_ _ | refine blk_drew ?_ | refine blk_alloc ?_ _)); refine blk_put (cs := #[.int .i64 t960, .slice none 0 0]) ?_ 1 _ rfl; (with_reducible repeat (first | refine blk_drewN ?_ _ | refine blk_drew ?_ | refine blk_alloc ?_ _)); refine blk_put (cs := #[.int .i64 0, .slice none 0 0]) ?_ 0 _ rfl; (with_reducible repeat (first | refine blk_drewN ?_ _ | refine blk_drew ?_ | refine blk_alloc ?_ _)); exact BK968.out) hb); replace BK969 := Aside0.mk (blk_below (g := gb969) (o := .cells #[.int .i64 t964, .slice Ao62 t965.length co62] 70 (0, 0)) (by (with_reducible repeat (first | refine blk_drewN ?_ _ | refine blk_drew ?_ | refine blk_alloc ?_ _)); refine blk_put (cs := #[.int .i64 t964, .slice none 0 0]) ?_ 1 _ rfl; (with_reducible repeat (first | refine blk_drewN ?_ _ | refine blk_drew ?_ | refine blk_alloc ?_ _)); refine blk_put (cs := #[.int .i64 0, .slice none 0 0]) ?_ 0 _ rfl; (with_reducible repeat (first | refine blk_drewN ?_ _ | refine blk_drew ?_ | refine blk_alloc ?_ _)); refine blk_far ?_ NB969_968.out _; (with_reducible repeat (first | refine blk_drewN ?_ _ | refine blk_drew ?_ | refine blk_alloc ?_ _)); refine blk_far ?_ NB969_968.out _; (with_reducible repeat (first | refine blk_drewN ?_ _ | refine blk_drew ?_ | refine blk_alloc ?_ _)); exact BK969.out) hb); replace HB := bs HB hb; (try clear hb); (try clear hb2); (try clear hk); (try clear hi)) | ((with_reducible refine gate_dst (N := 11) rfl ?_); refine bx (N := 11) (cs := #[.int .i64 0, .int .i64 0, .int .i64 0]) (t := 68) ?_; intro gb973 hg w64 hbox hb; replace HO937 := rb HO937 hb; replace HO945 := rb HO945 hb; replace HO952 := rb HO952 hb; replace HO957 := rb HO957 hb; replace HO963 := rb HO963 hb; replace HO967 := rb HO967 hb; have BK973 := Aside0.mk (hbox); have GW973 := Aside0.mk (ge_ hg HB); have GE973 := Aside0.mk (ge_ hg HB); replace HB := bs HB hb; have NB946_973 := Aside0.mk (nl_ hg BK946); have NB973_946 := Aside0.mk (ng_ hg BK946); replace BK946 := bb BK946 hb; have NB947_973 := Aside0.mk (nl_ hg BK947); have NB973_947 := Aside0.mk (ng_ hg BK947); replace BK947 := bb BK947 hb; have NB948_973 := Aside0.mk (nl_ hg BK948); have NB973_948 := Aside0.mk (ng_ hg BK948); replace BK948 := bb BK948 hb; have NB954_973 := Aside0.mk (nl_ hg BK954); have NB973_954 := Aside0.mk (ng_ hg BK954); replace BK954 := bb BK954 hb; have NB959_973 := Aside0.mk (nl_ hg BK959); have NB973_959 := Aside0.mk (ng_ hg BK959); replace BK959 := bb BK959 hb; have NB968_973 := Aside0.mk (nl_ hg BK968); have NB973_968 := Aside0.mk (ng_ hg BK968); replace BK968 := bb BK968 hb; have NB969_973 := Aside0.mk (nl_ hg BK969); have NB973_969 := Aside0.mk (ng_ hg BK969); replace BK969 := bb BK969 hb; clear hb hbox hg; have hnb65 := NB973_946.out; have hnc65 := NB946_973.out; have hnb66 := NB973_947.out; have hnc66 := NB947_973.out; have hnb67 := NB973_948.out; have hnc67 := NB948_973.out; have hnb68 := NB973_954.out; have hnc68 := NB954_973.out; have hnb69 := NB973_959.out; have hnc69 := NB959_973.out; have hnb70 := NB973_968.out; have hnc70 := NB968_973.out; have hnb71 := NB973_969.out; have hnc71 := NB969_973.out; obtain ⟨hcz72_0, hcz72_1, hcz72_2, hfz72_0, hfz72_1, hfz72_2⟩ := c3 BK973))
  (try simp only [Act.put, sA, sB, sC])
  go_cut [75] (fun v75 wc => ∃ (kq : Nat) (x75_9 : Bool), v75 = .bool x75_9 ∧ Aside0 (laws_FnAllowed.j0 kq t949 x75_9 t935 t938 t942 t943 t950 t953 = some r) ∧ Aside0 (kq ≤ k) ∧ Aside0 (Kd.R (Kd.int .i64) 3 wc w.heap.size (fun k_ => some k_ ≠ ((.slice Ao22 t943.length co22) : Value).ownBlock ∧ some k_ ≠ ((.slice Ao29 t950.length co29) : Value).ownBlock ∧ some k_ ≠ ((.slice Ao39 t955.length co39) : Value).ownBlock ∧ some k_ ≠ ((.slice Ao55 t961.length co55) : Value).ownBlock ∧ some k_ ≠ ((.slice Ao62 t965.length co62) : Value).ownBlock) (.slice Ao15 t935.length co15) t935) ∧ Aside0 (Kd.R (Kd.int .i64) 3 wc w.heap.size (fun k_ => some k_ ≠ ((.slice Ao15 t935.length co15) : Value).ownBlock ∧ some k_ ≠ ((.slice Ao29 t950.length co29) : Value).ownBlock ∧ some k_ ≠ ((.slice Ao39 t955.length co39) : Value).ownBlock ∧ some k_ ≠ ((.slice Ao55 t961.length co55) : Value).ownBlock ∧ some k_ ≠ ((.slice Ao62 t965.length co62) : Value).ownBlock) (.slice Ao22 t943.length co22) t943) ∧ Aside0 (Kd.R (Kd.int .i64) 3 wc w.heap.size (fun k_ => some k_ ≠ ((.slice Ao15 t935.length co15) : Value).ownBlock ∧ some k_ ≠ ((.slice Ao22 t943.length co22) : Value).ownBlock ∧ some k_ ≠ ((.slice Ao39 t955.length co39) : Value).ownBlock ∧ some k_ ≠ ((.slice Ao55 t961.length co55) : Value).ownBlock ∧ some k_ ≠ ((.slice Ao62 t965.length co62) : Value).ownBlock) (.slice Ao29 t950.length co29) t950) ∧ Aside0 (Kd.R (Kd.int .i64) 3 wc w.heap.size (fun k_ => some k_ ≠ ((.slice Ao15 t935.length co15) : Value).ownBlock ∧ some k_ ≠ ((.slice Ao22 t943.length co22) : Value).ownBlock ∧ some k_ ≠ ((.slice Ao29 t950.length co29) : Value).ownBlock ∧ some k_ ≠ ((.slice Ao55 t961.length co55) : Value).ownBlock ∧ some k_ ≠ ((.slice Ao62 t965.length co62) : Value).ownBlock) (.slice Ao39 t955.length co39) t955) ∧ Aside0 (Kd.R (Kd.int .i64) 3 wc w.heap.size (fun k_ => some k_ ≠ ((.slice Ao15 t935.length co15) : Value).ownBlock ∧ some k_ ≠ ((.slice Ao22 t943.length co22) : Value).ownBlock ∧ some k_ ≠ ((.slice Ao29 t950.length co29) : Value).ownBlock ∧ some k_ ≠ ((.slice Ao39 t955.length co39) : Value).ownBlock ∧ some k_ ≠ ((.slice Ao62 t965.length co62) : Value).ownBlock) (.slice Ao55 t961.length co55) t961) ∧ Aside0 (Kd.R (Kd.int .i64) 3 wc w.heap.size (fun k_ => some k_ ≠ ((.slice Ao15 t935.length co15) : Value).ownBlock ∧ some k_ ≠ ((.slice Ao22 t943.length co22) : Value).ownBlock ∧ some k_ ≠ ((.slice Ao29 t950.length co29) : Value).ownBlock ∧ some k_ ≠ ((.slice Ao39 t955.length co39) : Value).ownBlock ∧ some k_ ≠ ((.slice Ao55 t961.length co55) : Value).ownBlock) (.slice Ao62 t965.length co62) t965) ∧ Aside0 (wc.heap[gb946]? = some (.cells #[(.slice Ao15 t935.length co15), .int .i64 t938] 65 (0, 0))) ∧ Aside0 (wc.heap[gb947]? = some (.cells #[.int .i64 t939, .int .i64 t940, .int .i64 t941] 68 (0, 0))) ∧ Aside0 (wc.heap[gb948]? = some (.cells #[.int .i64 t942, (.slice Ao22 t943.length co22)] 70 (0, 0))) ∧ Aside0 (wc.heap[gb954]? = some (.cells #[(.slice Ao29 t950.length co29), .int .i64 t953] 65 (0, 0))) ∧ Aside0 (wc.heap[gb959]? = some (.cells #[(.slice Ao39 t955.length co39), .int .i64 t958] 65 (0, 0))) ∧ Aside0 (wc.heap[gb968]? = some (.cells #[.int .i64 t960, (.slice Ao55 t961.length co55)] 70 (0, 0))) ∧ Aside0 (wc.heap[gb969]? = some (.cells #[.int .i64 t964, (.slice Ao62 t965.length co62)] 70 (0, 0))) ∧ Aside0 (wc.heap[gb973]? = some (.cells #[.int .i64 t970, .int .i64 t971, .int .i64 t972] 68 (0, 0))) ∧ Aside0 (Below w.heap.size w wc))
  case first =>
   have H := HC10.out
   clear HC10
   replace H := Option.bind_eq_some_iff.mp H
   obtain ⟨t974, A730, H⟩ := H
   replace H : (if (t949 != t974) = true then (laws_FnAllowed.j0 k t949 true t935 t938 t942 t943 t950 t953) else ((laws_sameInts.f k t950 t955).bind fun t975 => (if t975 = true then (if t953 = t958 then ((impl_ResSame.f k t960 t961 t964 t965).bind fun t976 => ((spec_ResSame.f k t960 t961 t964 t965).bind fun t977 => (if (t976 != t977) = true then (laws_FnAllowed.j0 k t949 true t935 t938 t942 t943 t950 t953) else ((impl_OpOk.f k t970 t971 t972).bind fun t978 => ((spec_OpOk.f k t970 t971 t972).bind fun t979 => (laws_FnAllowed.j0 k t949 (t978 != t979) t935 t938 t942 t943 t950 t953)))))) else (laws_FnAllowed.j0 k t949 true t935 t938 t942 t943 t950 t953)) else (laws_FnAllowed.j0 k t949 true t935 t938 t942 t943 t950 t953)))) = some r := H
   have A73 := Aside0.mk A730
   clear A730
   by_cases c74 : (t949 != t974) = true
   ·rw [if_pos c74] at H
    have c74b0 : (t949 != t974) = true := c74
    (try (have c74b1 : decide (t949 = t974) = false := by simpa using c74))
    (try (have c74b2 : (t949 == t974) = false := by simpa using c74))
    (try (have c74b3 : ¬ (t949 = t974) := by simpa using c74))
    clear c74
    (first | rw [c74b0] | (simp only [i64_w, i32_w]; rw [c74b0]) | skip)
    have H' := Aside0.mk H
    clear H
    try go_wp2
    have n0_ : Aside0 (Kd.R (Kd.int .i64) 3 (((w64.setCell ⟨gb973, 0, none⟩ (.int .i64 t970)).setCell ⟨gb973, 1, none⟩ (.int .i64 t971)).setCell ⟨gb973, 2, none⟩ (.int .i64 t972)) w.heap.size (fun k_ => some k_ ≠ (.slice Ao22 t943.length co22 : Value).ownBlock ∧ some k_ ≠ (.slice Ao29 t950.length co29 : Value).ownBlock ∧ some k_ ≠ (.slice Ao39 t955.length co39 : Value).ownBlock ∧ some k_ ≠ (.slice Ao55 t961.length co55 : Value).ownBlock ∧ some k_ ≠ (.slice Ao62 t965.length co62 : Value).ownBlock) (.slice Ao15 t935.length co15) t935) := ⟨by (with_reducible repeat (first | apply Kd.R_alloc | apply Kd.R_drewN | apply Kd.R_drew)); exact Kd.R_mono (Kd.R_far (p := ⟨gb973, 2, none⟩) (Kd.R_far (p := ⟨gb973, 1, none⟩) (Kd.R_far (p := ⟨gb973, 0, none⟩) (Kd.R_types HO937.out BK973.out (by decide)) (fun _ hk => hk.2) (.int .i64 t970)) (fun _ hk => hk.2) (.int .i64 t971)) (fun _ hk => hk.2) (.int .i64 t972)) (fun _ hk => ⟨hk.1.1.1.1.1, ⟨hk.1.1.1.1.2, ⟨hk.1.1.1.2, ⟨hk.1.1.2, hk.1.2⟩⟩⟩⟩)⟩
    have n1_ : Aside0 (Kd.R (Kd.int .i64) 3 (((w64.setCell ⟨gb973, 0, none⟩ (.int .i64 t970)).setCell ⟨gb973, 1, none⟩ (.int .i64 t971)).setCell ⟨gb973, 2, none⟩ (.int .i64 t972)) w.heap.size (fun k_ => some k_ ≠ (.slice Ao15 t935.length co15 : Value).ownBlock ∧ some k_ ≠ (.slice Ao29 t950.length co29 : Value).ownBlock ∧ some k_ ≠ (.slice Ao39 t955.length co39 : Value).ownBlock ∧ some k_ ≠ (.slice Ao55 t961.length co55 : Value).ownBlock ∧ some k_ ≠ (.slice Ao62 t965.length co62 : Value).ownBlock) (.slice Ao22 t943.length co22) t943) := ⟨by (with_reducible repeat (first | apply Kd.R_alloc | apply Kd.R_drewN | apply Kd.R_drew)); exact Kd.R_mono (Kd.R_far (p := ⟨gb973, 2, none⟩) (Kd.R_far (p := ⟨gb973, 1, none⟩) (Kd.R_far (p := ⟨gb973, 0, none⟩) (Kd.R_types HO945.out BK973.out (by decide)) (fun _ hk => hk.2) (.int .i64 t970)) (fun _ hk => hk.2) (.int .i64 t971)) (fun _ hk => hk.2) (.int .i64 t972)) (fun _ hk => ⟨hk.1.1.1.1.1, ⟨hk.1.1.1.1.2, ⟨hk.1.1.1.2, ⟨hk.1.1.2, hk.1.2⟩⟩⟩⟩)⟩
    have n2_ : Aside0 (Kd.R (Kd.int .i64) 3 (((w64.setCell ⟨gb973, 0, none⟩ (.int .i64 t970)).setCell ⟨gb973, 1, none⟩ (.int .i64 t971)).setCell ⟨gb973, 2, none⟩ (.int .i64 t972)) w.heap.size (fun k_ => some k_ ≠ (.slice Ao15 t935.length co15 : Value).ownBlock ∧ some k_ ≠ (.slice Ao22 t943.length co22 : Value).ownBlock ∧ some k_ ≠ (.slice Ao39 t955.length co39 : Value).ownBlock ∧ some k_ ≠ (.slice Ao55 t961.length co55 : Value).ownBlock ∧ some k_ ≠ (.slice Ao62 t965.length co62 : Value).ownBlock) (.slice Ao29 t950.length co29) t950) := ⟨by (with_reducible repeat (first | apply Kd.R_alloc | apply Kd.R_drewN | apply Kd.R_drew)); exact Kd.R_mono (Kd.R_far (p := ⟨gb973, 2, none⟩) (Kd.R_far (p := ⟨gb973, 1, none⟩) (Kd.R_far (p := ⟨gb973, 0, none⟩) (Kd.R_types HO952.out BK973.out (by decide)) (fun _ hk => hk.2) (.int .i64 t970)) (fun _ hk => hk.2) (.int .i64 t971)) (fun _ hk => hk.2) (.int .i64 t972)) (fun _ hk => ⟨hk.1.1.1.1.1.2, ⟨hk.1.1.1.1.2, ⟨hk.1.1.1.2, ⟨hk.1.1.2, hk.1.2⟩⟩⟩⟩)⟩
    have n3_ : Aside0 (Kd.R (Kd.int .i64) 3 (((w64.setCell ⟨gb973, 0, none⟩ (.int .i64 t970)).setCell ⟨gb973, 1, none⟩ (.int .i64 t971)).setCell ⟨gb973, 2, none⟩ (.int .i64 t972)) w.heap.size (fun k_ => some k_ ≠ (.slice Ao15 t935.length co15 : Value).ownBlock ∧ some k_ ≠ (.slice Ao22 t943.length co22 : Value).ownBlock ∧ some k_ ≠ (.slice Ao29 t950.length co29 : Value).ownBlock ∧ some k_ ≠ (.slice Ao55 t961.length co55 : Value).ownBlock ∧ some k_ ≠ (.slice Ao62 t965.length co62 : Value).ownBlock) (.slice Ao39 t955.length co39) t955) := ⟨by (with_reducible repeat (first | apply Kd.R_alloc | apply Kd.R_drewN | apply Kd.R_drew)); exact Kd.R_mono (Kd.R_far (p := ⟨gb973, 2, none⟩) (Kd.R_far (p := ⟨gb973, 1, none⟩) (Kd.R_far (p := ⟨gb973, 0, none⟩) (Kd.R_types HO957.out BK973.out (by decide)) (fun _ hk => hk.2) (.int .i64 t970)) (fun _ hk => hk.2) (.int .i64 t971)) (fun _ hk => hk.2) (.int .i64 t972)) (fun _ hk => ⟨hk.1.1.1.1.1.2, ⟨hk.1.1.1.1.2, ⟨hk.1.1.1.2, ⟨hk.1.1.2, hk.1.2⟩⟩⟩⟩)⟩
    have n4_ : Aside0 (Kd.R (Kd.int .i64) 3 (((w64.setCell ⟨gb973, 0, none⟩ (.int .i64 t970)).setCell ⟨gb973, 1, none⟩ (.int .i64 t971)).setCell ⟨gb973, 2, none⟩ (.int .i64 t972)) w.heap.size (fun k_ => some k_ ≠ (.slice Ao15 t935.length co15 : Value).ownBlock ∧ some k_ ≠ (.slice Ao22 t943.length co22 : Value).ownBlock ∧ some k_ ≠ (.slice Ao29 t950.length co29 : Value).ownBlock ∧ some k_ ≠ (.slice Ao39 t955.length co39 : Value).ownBlock ∧ some k_ ≠ (.slice Ao62 t965.length co62 : Value).ownBlock) (.slice Ao55 t961.length co55) t961) := ⟨by (with_reducible repeat (first | apply Kd.R_alloc | apply Kd.R_drewN | apply Kd.R_drew)); exact Kd.R_mono (Kd.R_far (p := ⟨gb973, 2, none⟩) (Kd.R_far (p := ⟨gb973, 1, none⟩) (Kd.R_far (p := ⟨gb973, 0, none⟩) (Kd.R_types HO963.out BK973.out (by decide)) (fun _ hk => hk.2) (.int .i64 t970)) (fun _ hk => hk.2) (.int .i64 t971)) (fun _ hk => hk.2) (.int .i64 t972)) (fun _ hk => ⟨hk.1.1.1.1.2, ⟨hk.1.1.1.2, ⟨hk.1.1.2, ⟨hk.1.2, hk.1.1.1.1.1⟩⟩⟩⟩)⟩
    have n5_ : Aside0 (Kd.R (Kd.int .i64) 3 (((w64.setCell ⟨gb973, 0, none⟩ (.int .i64 t970)).setCell ⟨gb973, 1, none⟩ (.int .i64 t971)).setCell ⟨gb973, 2, none⟩ (.int .i64 t972)) w.heap.size (fun k_ => some k_ ≠ (.slice Ao15 t935.length co15 : Value).ownBlock ∧ some k_ ≠ (.slice Ao22 t943.length co22 : Value).ownBlock ∧ some k_ ≠ (.slice Ao29 t950.length co29 : Value).ownBlock ∧ some k_ ≠ (.slice Ao39 t955.length co39 : Value).ownBlock ∧ some k_ ≠ (.slice Ao55 t961.length co55 : Value).ownBlock) (.slice Ao62 t965.length co62) t965) := ⟨by (with_reducible repeat (first | apply Kd.R_alloc | apply Kd.R_drewN | apply Kd.R_drew)); exact Kd.R_mono (Kd.R_far (p := ⟨gb973, 2, none⟩) (Kd.R_far (p := ⟨gb973, 1, none⟩) (Kd.R_far (p := ⟨gb973, 0, none⟩) (Kd.R_types HO967.out BK973.out (by decide)) (fun _ hk => hk.2) (.int .i64 t970)) (fun _ hk => hk.2) (.int .i64 t971)) (fun _ hk => hk.2) (.int .i64 t972)) (fun _ hk => ⟨hk.1.1.1.1.2, ⟨hk.1.1.1.2, ⟨hk.1.1.2, ⟨hk.1.2, hk.1.1.1.1.1⟩⟩⟩⟩)⟩
    have n6_ : Aside0 ((((w64.setCell ⟨gb973, 0, none⟩ (.int .i64 t970)).setCell ⟨gb973, 1, none⟩ (.int .i64 t971)).setCell ⟨gb973, 2, none⟩ (.int .i64 t972)).heap[gb946]? = some (.cells #[.slice Ao15 t935.length co15, .int .i64 t938] 65 (0, 0))) := ⟨bf BK946⟩
    have n7_ : Aside0 ((((w64.setCell ⟨gb973, 0, none⟩ (.int .i64 t970)).setCell ⟨gb973, 1, none⟩ (.int .i64 t971)).setCell ⟨gb973, 2, none⟩ (.int .i64 t972)).heap[gb947]? = some (.cells #[.int .i64 t939, .int .i64 t940, .int .i64 t941] 68 (0, 0))) := ⟨bf BK947⟩
    have n8_ : Aside0 ((((w64.setCell ⟨gb973, 0, none⟩ (.int .i64 t970)).setCell ⟨gb973, 1, none⟩ (.int .i64 t971)).setCell ⟨gb973, 2, none⟩ (.int .i64 t972)).heap[gb948]? = some (.cells #[.int .i64 t942, .slice Ao22 t943.length co22] 70 (0, 0))) := ⟨bf BK948⟩
    have n9_ : Aside0 ((((w64.setCell ⟨gb973, 0, none⟩ (.int .i64 t970)).setCell ⟨gb973, 1, none⟩ (.int .i64 t971)).setCell ⟨gb973, 2, none⟩ (.int .i64 t972)).heap[gb954]? = some (.cells #[.slice Ao29 t950.length co29, .int .i64 t953] 65 (0, 0))) := ⟨bf BK954⟩
    have n10_ : Aside0 ((((w64.setCell ⟨gb973, 0, none⟩ (.int .i64 t970)).setCell ⟨gb973, 1, none⟩ (.int .i64 t971)).setCell ⟨gb973, 2, none⟩ (.int .i64 t972)).heap[gb959]? = some (.cells #[.slice Ao39 t955.length co39, .int .i64 t958] 65 (0, 0))) := ⟨bf BK959⟩
    have n11_ : Aside0 ((((w64.setCell ⟨gb973, 0, none⟩ (.int .i64 t970)).setCell ⟨gb973, 1, none⟩ (.int .i64 t971)).setCell ⟨gb973, 2, none⟩ (.int .i64 t972)).heap[gb968]? = some (.cells #[.int .i64 t960, .slice Ao55 t961.length co55] 70 (0, 0))) := ⟨bf BK968⟩
    have n12_ : Aside0 ((((w64.setCell ⟨gb973, 0, none⟩ (.int .i64 t970)).setCell ⟨gb973, 1, none⟩ (.int .i64 t971)).setCell ⟨gb973, 2, none⟩ (.int .i64 t972)).heap[gb969]? = some (.cells #[.int .i64 t964, .slice Ao62 t965.length co62] 70 (0, 0))) := ⟨bf BK969⟩
    have n13_ : Aside0 ((((w64.setCell ⟨gb973, 0, none⟩ (.int .i64 t970)).setCell ⟨gb973, 1, none⟩ (.int .i64 t971)).setCell ⟨gb973, 2, none⟩ (.int .i64 t972)).heap[gb973]? = some (.cells #[.int .i64 t970, .int .i64 t971, .int .i64 t972] 68 (0, 0))) := ⟨by (with_reducible repeat (first | refine blk_drewN ?_ _ | refine blk_drew ?_ | refine blk_alloc ?_ _)); refine blk_put (cs := #[.int .i64 t970, .int .i64 t971, .int .i64 0]) ?_ 2 _ rfl; (with_reducible repeat (first | refine blk_drewN ?_ _ | refine blk_drew ?_ | refine blk_alloc ?_ _)); refine blk_put (cs := #[.int .i64 t970, .int .i64 0, .int .i64 0]) ?_ 1 _ rfl; (with_reducible repeat (first | refine blk_drewN ?_ _ | refine blk_drew ?_ | refine blk_alloc ?_ _)); refine blk_put (cs := #[.int .i64 0, .int .i64 0, .int .i64 0]) ?_ 0 _ rfl; (with_reducible repeat (first | refine blk_drewN ?_ _ | refine blk_drew ?_ | refine blk_alloc ?_ _)); exact BK973.out⟩
    have n14_ : Aside0 (Below w.heap.size w (((w64.setCell ⟨gb973, 0, none⟩ (.int .i64 t970)).setCell ⟨gb973, 1, none⟩ (.int .i64 t971)).setCell ⟨gb973, 2, none⟩ (.int .i64 t972))) := ⟨tb HB⟩
    (try clear HO937)
    (try clear HO945)
    (try clear HO952)
    (try clear HO957)
    (try clear HO963)
    (try clear HO967)
    (try clear BK946)
    (try clear BK947)
    (try clear BK948)
    (try clear BK954)
    (try clear BK959)
    (try clear BK968)
    (try clear BK969)
    (try clear BK973)
    (try clear HB)
    generalize (((w64.setCell ⟨gb973, 0, none⟩ (.int .i64 t970)).setCell ⟨gb973, 1, none⟩ (.int .i64 t971)).setCell ⟨gb973, 2, none⟩ (.int .i64 t972)) = w75 at n0_ n1_ n2_ n3_ n4_ n5_ n6_ n7_ n8_ n9_ n10_ n11_ n12_ n13_ n14_ ⊢
    have HO937 := n0_
    have HO945 := n1_
    have HO952 := n2_
    have HO957 := n3_
    have HO963 := n4_
    have HO967 := n5_
    have BK946 := n6_
    have BK947 := n7_
    have BK948 := n8_
    have BK954 := n9_
    have BK959 := n10_
    have BK968 := n11_
    have BK969 := n12_
    have BK973 := n13_
    have HB := n14_
    clear n0_ n1_ n2_ n3_ n4_ n5_ n6_ n7_ n8_ n9_ n10_ n11_ n12_ n13_ n14_
    replace HO937 := rd_ HO937
    replace HO945 := rd_ HO945
    replace HO952 := rd_ HO952
    replace HO957 := rd_ HO957
    replace HO963 := rd_ HO963
    replace HO967 := rd_ HO967
    replace BK946 := bd BK946
    replace BK947 := bd BK947
    replace BK948 := bd BK948
    replace BK954 := bd BK954
    replace BK959 := bd BK959
    replace BK968 := bd BK968
    replace BK969 := bd BK969
    replace BK973 := bd BK973
    replace HB := Aside0.mk (below_drew1 HB.out)
    refine start_ (n := 37) (S := fun w' => w'.cell? ⟨gb946, 0, none⟩ = some (.slice Ao15 t935.length co15) ∧ w'.cell? ⟨gb946, 1, none⟩ = some (.int .i64 t938) ∧ w'.cell? ⟨gb947, 0, none⟩ = some (.int .i64 t939) ∧ w'.cell? ⟨gb947, 1, none⟩ = some (.int .i64 t940) ∧ w'.cell? ⟨gb947, 2, none⟩ = some (.int .i64 t941) ∧ w'.cell? ⟨gb948, 0, none⟩ = some (.int .i64 t942) ∧ w'.cell? ⟨gb948, 1, none⟩ = some (.slice Ao22 t943.length co22)) (ds := []) #[false, false, false, false, false, false, false, false, false, false, false, false, false, false, false, false, false, false, false, false, false, false, false, false, false, false, false, false, false, false, false, false, false, false, false, false, false] (by kernel_rfl) rfl rfl ⟨cz BK946 0, cz BK946 1, cz BK947 0, cz BK947 1, cz BK947 2, cz BK948 0, cz BK948 1⟩ (fun hHeld => ?_); refine with_tabW laws_FnAllowed.tab9 laws_FnAllowed.bits9 (fun HT_ HW_ => ?_)
    generalize w75.drew = w76 at HO937 HO945 HO952 HO957 HO963 HO967 BK946 BK947 BK948 BK954 BK959 BK968 BK969 BK973 HB hHeld ⊢
    refine pu 0 39 ?_
    refine ta 1 40 ?_
    refine ta 2 41 ?_
    refine ta 3 42 ?_
    refine one_ (i := 4) (N := some 43) #[true, true, true, true, true, false, false, false, false, false, false, false, false, false, false, false, false, false, false, false, false, false, false, false, false, false, false, false, false, false, false, false, false, false, false, false, false] rfl rfl (one_of HT_.out (by kernel_rfl)) (by decide) (fun K hK => ?_)
    refine gS Try.func49 #[.agg #[.slice Ao15 t935.length co15, .int .i64 t938], .agg #[.int .i64 t939, .int .i64 t940, .int .i64 t941], .agg #[.int .i64 t942, .slice Ao22 t943.length co22]] ?_
    with_reducible refine (spec_Allowed.calls k _ _ t935 t938 t939 t940 t941 t942 _ _ t943 t974 _ ?side1 ?side2 ?side3 ?side4 A73.out).mono ?_
    (case side1 => repeat (first | exact (Kd.R_reads' HO937.out).2.2 | (with_reducible refine Kd.C_alloc ?_ _) | (with_reducible refine Kd.C_drewN ?_ _) | (with_reducible refine Kd.C_drew ?_)))
    (case side2 => exact (Kd.R_reads' HO937.out).2.1)
    (case side3 => repeat (first | exact (Kd.R_reads' HO945.out).2.2 | (with_reducible refine Kd.C_alloc ?_ _) | (with_reducible refine Kd.C_drewN ?_ _) | (with_reducible refine Kd.C_drew ?_)))
    (case side4 => exact (Kd.R_reads' HO945.out).2.1)
    rintro e w77 ⟨rfl, hb⟩
    refine ⟨_, rfl, ?_⟩
    replace HO937 := rb HO937 hb
    replace HO945 := rb HO945 hb
    replace HO952 := rb HO952 hb
    replace HO957 := rb HO957 hb
    replace HO963 := rb HO963 hb
    replace HO967 := rb HO967 hb
    replace BK946 := bb BK946 hb
    replace BK947 := bb BK947 hb
    replace BK948 := bb BK948 hb
    replace BK954 := bb BK954 hb
    replace BK959 := bb BK959 hb
    replace BK968 := bb BK968 hb
    replace BK969 := bb BK969 hb
    replace BK973 := bb BK973 hb
    replace HB := bs HB hb
    (try clear hb)
    (try clear hb2)
    (try clear hk)
    (try clear hi)
    refine hK.out _ _ ⟨cz BK946 0, cz BK946 1, cz BK947 0, cz BK947 1, cz BK947 2, cz BK948 0, cz BK948 1⟩ (fun hHeld => ?_)
    clear hK K
    refine nm 43 ?_
    refine pu 5 44 ?_
    refine pu 6 45 ?_
    refine pn 7 46 ?_
    refine pn 8 47 ?_
    refine pn 9 48 ?_
    refine pn 10 49 ?_
    refine pn 11 50 ?_
    refine pn 12 51 ?_
    refine pu 13 52 ?_
    refine pu 14 53 ?_
    refine pn 15 54 ?_
    refine pn 16 55 ?_
    refine pn 17 56 ?_
    refine pn 18 57 ?_
    refine pn 19 58 ?_
    refine pu 20 59 ?_
    refine pu 21 60 ?_
    refine pn 22 61 ?_
    refine pn 23 62 ?_
    refine pn 24 63 ?_
    refine pn 25 64 ?_
    refine pn 26 65 ?_
    refine pn 27 66 ?_
    refine pn 28 67 ?_
    refine pu 29 68 ?_
    refine pu 30 69 ?_
    refine pn 31 70 ?_
    refine pn 32 71 ?_
    refine pn 33 72 ?_
    refine pn 34 73 ?_
    refine pn 35 74 ?_
    refine pu 36 75 ?_
    refine done_ (done_of HT_.out (by kernel_rfl)) ?_
    try go_wp2
    go_meet
    case rel => exact ⟨_, (true), (by first | rfl | (simp; done) | (simp [*]; done)), H', ⟨by first | omega | exact Nat.le_refl _⟩, ⟨kr HO937.out⟩, ⟨kr HO945.out⟩, ⟨kr HO952.out⟩, ⟨kr HO957.out⟩, ⟨kr HO963.out⟩, ⟨kr HO967.out⟩, ⟨by (with_reducible repeat (first | refine blk_drewN ?_ _ | refine blk_drew ?_ | refine blk_alloc ?_ _)); exact BK946.out⟩, ⟨by (with_reducible repeat (first | refine blk_drewN ?_ _ | refine blk_drew ?_ | refine blk_alloc ?_ _)); exact BK947.out⟩, ⟨by (with_reducible repeat (first | refine blk_drewN ?_ _ | refine blk_drew ?_ | refine blk_alloc ?_ _)); exact BK948.out⟩, ⟨by (with_reducible repeat (first | refine blk_drewN ?_ _ | refine blk_drew ?_ | refine blk_alloc ?_ _)); exact BK954.out⟩, ⟨by (with_reducible repeat (first | refine blk_drewN ?_ _ | refine blk_drew ?_ | refine blk_alloc ?_ _)); exact BK959.out⟩, ⟨by (with_reducible repeat (first | refine blk_drewN ?_ _ | refine blk_drew ?_ | refine blk_alloc ?_ _)); exact BK968.out⟩, ⟨by (with_reducible repeat (first | refine blk_drewN ?_ _ | refine blk_drew ?_ | refine blk_alloc ?_ _)); exact BK969.out⟩, ⟨by (with_reducible repeat (first | refine blk_drewN ?_ _ | refine blk_drew ?_ | refine blk_alloc ?_ _)); exact BK973.out⟩, ⟨tb HB⟩⟩
   ·rw [if_neg c74] at H
    have c74b0 : (t949 != t974) = false := by simpa using c74
    (try (have c74b1 : decide (t949 = t974) = true := by simpa using c74))
    (try (have c74b2 : (t949 == t974) = true := by simpa using c74))
    clear c74
    (first | rw [c74b0] | (simp only [i64_w, i32_w]; rw [c74b0]) | skip)
    replace H := Option.bind_eq_some_iff.mp H
    obtain ⟨t975, A780, H⟩ := H
    replace H : (if t975 = true then (if t953 = t958 then ((impl_ResSame.f k t960 t961 t964 t965).bind fun t976 => ((spec_ResSame.f k t960 t961 t964 t965).bind fun t977 => (if (t976 != t977) = true then (laws_FnAllowed.j0 k t949 true t935 t938 t942 t943 t950 t953) else ((impl_OpOk.f k t970 t971 t972).bind fun t978 => ((spec_OpOk.f k t970 t971 t972).bind fun t979 => (laws_FnAllowed.j0 k t949 (t978 != t979) t935 t938 t942 t943 t950 t953)))))) else (laws_FnAllowed.j0 k t949 true t935 t938 t942 t943 t950 t953)) else (laws_FnAllowed.j0 k t949 true t935 t938 t942 t943 t950 t953)) = some r := H
    have A78 := Aside0.mk A780
    clear A780
    by_cases c79 : t975 = true
    ·subst c79
     have H1 : (if t953 = t958 then ((impl_ResSame.f k t960 t961 t964 t965).bind fun t976 => ((spec_ResSame.f k t960 t961 t964 t965).bind fun t977 => (if (t976 != t977) = true then (laws_FnAllowed.j0 k t949 true t935 t938 t942 t943 t950 t953) else ((impl_OpOk.f k t970 t971 t972).bind fun t978 => ((spec_OpOk.f k t970 t971 t972).bind fun t979 => (laws_FnAllowed.j0 k t949 (t978 != t979) t935 t938 t942 t943 t950 t953)))))) else (laws_FnAllowed.j0 k t949 true t935 t938 t942 t943 t950 t953)) = some r := by rw [if_pos rfl] at H; exact H
     clear H
     have H := H1
     clear H1
     by_cases c80 : t953 = t958
     ·rw [if_pos c80] at H
      have c80b0 : (t953 == t958) = true := beq_iff_eq.mpr c80
      have c80b1 : (t953 != t958) = false := bne_eq_false_iff_eq.mpr c80
      clear c80
      replace H := Option.bind_eq_some_iff.mp H
      obtain ⟨t976, A810, H⟩ := H
      replace H : ((spec_ResSame.f k t960 t961 t964 t965).bind fun t977 => (if (t976 != t977) = true then (laws_FnAllowed.j0 k t949 true t935 t938 t942 t943 t950 t953) else ((impl_OpOk.f k t970 t971 t972).bind fun t978 => ((spec_OpOk.f k t970 t971 t972).bind fun t979 => (laws_FnAllowed.j0 k t949 (t978 != t979) t935 t938 t942 t943 t950 t953))))) = some r := H
      have A81 := Aside0.mk A810
      clear A810
      replace H := Option.bind_eq_some_iff.mp H
      obtain ⟨t977, A820, H⟩ := H
      replace H : (if (t976 != t977) = true then (laws_FnAllowed.j0 k t949 true t935 t938 t942 t943 t950 t953) else ((impl_OpOk.f k t970 t971 t972).bind fun t978 => ((spec_OpOk.f k t970 t971 t972).bind fun t979 => (laws_FnAllowed.j0 k t949 (t978 != t979) t935 t938 t942 t943 t950 t953)))) = some r := H
      have A82 := Aside0.mk A820
      clear A820
      by_cases c83 : (t976 != t977) = true
      ·rw [if_pos c83] at H
       have c83b0 : (t976 != t977) = true := c83
       (try (have c83b1 : decide (t976 = t977) = false := by simpa using c83))
       (try (have c83b2 : (t976 == t977) = false := by simpa using c83))
       (try (have c83b3 : ¬ (t976 = t977) := by simpa using c83))
       clear c83
       have H' := Aside0.mk H
       clear H
       try go_wp2
       have n0_ : Aside0 (Kd.R (Kd.int .i64) 3 (((w64.setCell ⟨gb973, 0, none⟩ (.int .i64 t970)).setCell ⟨gb973, 1, none⟩ (.int .i64 t971)).setCell ⟨gb973, 2, none⟩ (.int .i64 t972)) w.heap.size (fun k_ => some k_ ≠ (.slice Ao22 t943.length co22 : Value).ownBlock ∧ some k_ ≠ (.slice Ao29 t950.length co29 : Value).ownBlock ∧ some k_ ≠ (.slice Ao39 t955.length co39 : Value).ownBlock ∧ some k_ ≠ (.slice Ao55 t961.length co55 : Value).ownBlock ∧ some k_ ≠ (.slice Ao62 t965.length co62 : Value).ownBlock) (.slice Ao15 t935.length co15) t935) := ⟨by (with_reducible repeat (first | apply Kd.R_alloc | apply Kd.R_drewN | apply Kd.R_drew)); exact Kd.R_mono (Kd.R_far (p := ⟨gb973, 2, none⟩) (Kd.R_far (p := ⟨gb973, 1, none⟩) (Kd.R_far (p := ⟨gb973, 0, none⟩) (Kd.R_types HO937.out BK973.out (by decide)) (fun _ hk => hk.2) (.int .i64 t970)) (fun _ hk => hk.2) (.int .i64 t971)) (fun _ hk => hk.2) (.int .i64 t972)) (fun _ hk => ⟨hk.1.1.1.1.1, ⟨hk.1.1.1.1.2, ⟨hk.1.1.1.2, ⟨hk.1.1.2, hk.1.2⟩⟩⟩⟩)⟩
       have n1_ : Aside0 (Kd.R (Kd.int .i64) 3 (((w64.setCell ⟨gb973, 0, none⟩ (.int .i64 t970)).setCell ⟨gb973, 1, none⟩ (.int .i64 t971)).setCell ⟨gb973, 2, none⟩ (.int .i64 t972)) w.heap.size (fun k_ => some k_ ≠ (.slice Ao15 t935.length co15 : Value).ownBlock ∧ some k_ ≠ (.slice Ao29 t950.length co29 : Value).ownBlock ∧ some k_ ≠ (.slice Ao39 t955.length co39 : Value).ownBlock ∧ some k_ ≠ (.slice Ao55 t961.length co55 : Value).ownBlock ∧ some k_ ≠ (.slice Ao62 t965.length co62 : Value).ownBlock) (.slice Ao22 t943.length co22) t943) := ⟨by (with_reducible repeat (first | apply Kd.R_alloc | apply Kd.R_drewN | apply Kd.R_drew)); exact Kd.R_mono (Kd.R_far (p := ⟨gb973, 2, none⟩) (Kd.R_far (p := ⟨gb973, 1, none⟩) (Kd.R_far (p := ⟨gb973, 0, none⟩) (Kd.R_types HO945.out BK973.out (by decide)) (fun _ hk => hk.2) (.int .i64 t970)) (fun _ hk => hk.2) (.int .i64 t971)) (fun _ hk => hk.2) (.int .i64 t972)) (fun _ hk => ⟨hk.1.1.1.1.1, ⟨hk.1.1.1.1.2, ⟨hk.1.1.1.2, ⟨hk.1.1.2, hk.1.2⟩⟩⟩⟩)⟩
       have n2_ : Aside0 (Kd.R (Kd.int .i64) 3 (((w64.setCell ⟨gb973, 0, none⟩ (.int .i64 t970)).setCell ⟨gb973, 1, none⟩ (.int .i64 t971)).setCell ⟨gb973, 2, none⟩ (.int .i64 t972)) w.heap.size (fun k_ => some k_ ≠ (.slice Ao15 t935.length co15 : Value).ownBlock ∧ some k_ ≠ (.slice Ao22 t943.length co22 : Value).ownBlock ∧ some k_ ≠ (.slice Ao39 t955.length co39 : Value).ownBlock ∧ some k_ ≠ (.slice Ao55 t961.length co55 : Value).ownBlock ∧ some k_ ≠ (.slice Ao62 t965.length co62 : Value).ownBlock) (.slice Ao29 t950.length co29) t950) := ⟨by (with_reducible repeat (first | apply Kd.R_alloc | apply Kd.R_drewN | apply Kd.R_drew)); exact Kd.R_mono (Kd.R_far (p := ⟨gb973, 2, none⟩) (Kd.R_far (p := ⟨gb973, 1, none⟩) (Kd.R_far (p := ⟨gb973, 0, none⟩) (Kd.R_types HO952.out BK973.out (by decide)) (fun _ hk => hk.2) (.int .i64 t970)) (fun _ hk => hk.2) (.int .i64 t971)) (fun _ hk => hk.2) (.int .i64 t972)) (fun _ hk => ⟨hk.1.1.1.1.1.2, ⟨hk.1.1.1.1.2, ⟨hk.1.1.1.2, ⟨hk.1.1.2, hk.1.2⟩⟩⟩⟩)⟩
       have n3_ : Aside0 (Kd.R (Kd.int .i64) 3 (((w64.setCell ⟨gb973, 0, none⟩ (.int .i64 t970)).setCell ⟨gb973, 1, none⟩ (.int .i64 t971)).setCell ⟨gb973, 2, none⟩ (.int .i64 t972)) w.heap.size (fun k_ => some k_ ≠ (.slice Ao15 t935.length co15 : Value).ownBlock ∧ some k_ ≠ (.slice Ao22 t943.length co22 : Value).ownBlock ∧ some k_ ≠ (.slice Ao29 t950.length co29 : Value).ownBlock ∧ some k_ ≠ (.slice Ao55 t961.length co55 : Value).ownBlock ∧ some k_ ≠ (.slice Ao62 t965.length co62 : Value).ownBlock) (.slice Ao39 t955.length co39) t955) := ⟨by (with_reducible repeat (first | apply Kd.R_alloc | apply Kd.R_drewN | apply Kd.R_drew)); exact Kd.R_mono (Kd.R_far (p := ⟨gb973, 2, none⟩) (Kd.R_far (p := ⟨gb973, 1, none⟩) (Kd.R_far (p := ⟨gb973, 0, none⟩) (Kd.R_types HO957.out BK973.out (by decide)) (fun _ hk => hk.2) (.int .i64 t970)) (fun _ hk => hk.2) (.int .i64 t971)) (fun _ hk => hk.2) (.int .i64 t972)) (fun _ hk => ⟨hk.1.1.1.1.1.2, ⟨hk.1.1.1.1.2, ⟨hk.1.1.1.2, ⟨hk.1.1.2, hk.1.2⟩⟩⟩⟩)⟩
       have n4_ : Aside0 (Kd.R (Kd.int .i64) 3 (((w64.setCell ⟨gb973, 0, none⟩ (.int .i64 t970)).setCell ⟨gb973, 1, none⟩ (.int .i64 t971)).setCell ⟨gb973, 2, none⟩ (.int .i64 t972)) w.heap.size (fun k_ => some k_ ≠ (.slice Ao15 t935.length co15 : Value).ownBlock ∧ some k_ ≠ (.slice Ao22 t943.length co22 : Value).ownBlock ∧ some k_ ≠ (.slice Ao29 t950.length co29 : Value).ownBlock ∧ some k_ ≠ (.slice Ao39 t955.length co39 : Value).ownBlock ∧ some k_ ≠ (.slice Ao62 t965.length co62 : Value).ownBlock) (.slice Ao55 t961.length co55) t961) := ⟨by (with_reducible repeat (first | apply Kd.R_alloc | apply Kd.R_drewN | apply Kd.R_drew)); exact Kd.R_mono (Kd.R_far (p := ⟨gb973, 2, none⟩) (Kd.R_far (p := ⟨gb973, 1, none⟩) (Kd.R_far (p := ⟨gb973, 0, none⟩) (Kd.R_types HO963.out BK973.out (by decide)) (fun _ hk => hk.2) (.int .i64 t970)) (fun _ hk => hk.2) (.int .i64 t971)) (fun _ hk => hk.2) (.int .i64 t972)) (fun _ hk => ⟨hk.1.1.1.1.2, ⟨hk.1.1.1.2, ⟨hk.1.1.2, ⟨hk.1.2, hk.1.1.1.1.1⟩⟩⟩⟩)⟩
       have n5_ : Aside0 (Kd.R (Kd.int .i64) 3 (((w64.setCell ⟨gb973, 0, none⟩ (.int .i64 t970)).setCell ⟨gb973, 1, none⟩ (.int .i64 t971)).setCell ⟨gb973, 2, none⟩ (.int .i64 t972)) w.heap.size (fun k_ => some k_ ≠ (.slice Ao15 t935.length co15 : Value).ownBlock ∧ some k_ ≠ (.slice Ao22 t943.length co22 : Value).ownBlock ∧ some k_ ≠ (.slice Ao29 t950.length co29 : Value).ownBlock ∧ some k_ ≠ (.slice Ao39 t955.length co39 : Value).ownBlock ∧ some k_ ≠ (.slice Ao55 t961.length co55 : Value).ownBlock) (.slice Ao62 t965.length co62) t965) := ⟨by (with_reducible repeat (first | apply Kd.R_alloc | apply Kd.R_drewN | apply Kd.R_drew)); exact Kd.R_mono (Kd.R_far (p := ⟨gb973, 2, none⟩) (Kd.R_far (p := ⟨gb973, 1, none⟩) (Kd.R_far (p := ⟨gb973, 0, none⟩) (Kd.R_types HO967.out BK973.out (by decide)) (fun _ hk => hk.2) (.int .i64 t970)) (fun _ hk => hk.2) (.int .i64 t971)) (fun _ hk => hk.2) (.int .i64 t972)) (fun _ hk => ⟨hk.1.1.1.1.2, ⟨hk.1.1.1.2, ⟨hk.1.1.2, ⟨hk.1.2, hk.1.1.1.1.1⟩⟩⟩⟩)⟩
       have n6_ : Aside0 ((((w64.setCell ⟨gb973, 0, none⟩ (.int .i64 t970)).setCell ⟨gb973, 1, none⟩ (.int .i64 t971)).setCell ⟨gb973, 2, none⟩ (.int .i64 t972)).heap[gb946]? = some (.cells #[.slice Ao15 t935.length co15, .int .i64 t938] 65 (0, 0))) := ⟨bf BK946⟩
       have n7_ : Aside0 ((((w64.setCell ⟨gb973, 0, none⟩ (.int .i64 t970)).setCell ⟨gb973, 1, none⟩ (.int .i64 t971)).setCell ⟨gb973, 2, none⟩ (.int .i64 t972)).heap[gb947]? = some (.cells #[.int .i64 t939, .int .i64 t940, .int .i64 t941] 68 (0, 0))) := ⟨bf BK947⟩
       have n8_ : Aside0 ((((w64.setCell ⟨gb973, 0, none⟩ (.int .i64 t970)).setCell ⟨gb973, 1, none⟩ (.int .i64 t971)).setCell ⟨gb973, 2, none⟩ (.int .i64 t972)).heap[gb948]? = some (.cells #[.int .i64 t942, .slice Ao22 t943.length co22] 70 (0, 0))) := ⟨bf BK948⟩
       have n9_ : Aside0 ((((w64.setCell ⟨gb973, 0, none⟩ (.int .i64 t970)).setCell ⟨gb973, 1, none⟩ (.int .i64 t971)).setCell ⟨gb973, 2, none⟩ (.int .i64 t972)).heap[gb954]? = some (.cells #[.slice Ao29 t950.length co29, .int .i64 t953] 65 (0, 0))) := ⟨bf BK954⟩
       have n10_ : Aside0 ((((w64.setCell ⟨gb973, 0, none⟩ (.int .i64 t970)).setCell ⟨gb973, 1, none⟩ (.int .i64 t971)).setCell ⟨gb973, 2, none⟩ (.int .i64 t972)).heap[gb959]? = some (.cells #[.slice Ao39 t955.length co39, .int .i64 t958] 65 (0, 0))) := ⟨bf BK959⟩
       have n11_ : Aside0 ((((w64.setCell ⟨gb973, 0, none⟩ (.int .i64 t970)).setCell ⟨gb973, 1, none⟩ (.int .i64 t971)).setCell ⟨gb973, 2, none⟩ (.int .i64 t972)).heap[gb968]? = some (.cells #[.int .i64 t960, .slice Ao55 t961.length co55] 70 (0, 0))) := ⟨bf BK968⟩
       have n12_ : Aside0 ((((w64.setCell ⟨gb973, 0, none⟩ (.int .i64 t970)).setCell ⟨gb973, 1, none⟩ (.int .i64 t971)).setCell ⟨gb973, 2, none⟩ (.int .i64 t972)).heap[gb969]? = some (.cells #[.int .i64 t964, .slice Ao62 t965.length co62] 70 (0, 0))) := ⟨bf BK969⟩
       have n13_ : Aside0 ((((w64.setCell ⟨gb973, 0, none⟩ (.int .i64 t970)).setCell ⟨gb973, 1, none⟩ (.int .i64 t971)).setCell ⟨gb973, 2, none⟩ (.int .i64 t972)).heap[gb973]? = some (.cells #[.int .i64 t970, .int .i64 t971, .int .i64 t972] 68 (0, 0))) := ⟨by (with_reducible repeat (first | refine blk_drewN ?_ _ | refine blk_drew ?_ | refine blk_alloc ?_ _)); refine blk_put (cs := #[.int .i64 t970, .int .i64 t971, .int .i64 0]) ?_ 2 _ rfl; (with_reducible repeat (first | refine blk_drewN ?_ _ | refine blk_drew ?_ | refine blk_alloc ?_ _)); refine blk_put (cs := #[.int .i64 t970, .int .i64 0, .int .i64 0]) ?_ 1 _ rfl; (with_reducible repeat (first | refine blk_drewN ?_ _ | refine blk_drew ?_ | refine blk_alloc ?_ _)); refine blk_put (cs := #[.int .i64 0, .int .i64 0, .int .i64 0]) ?_ 0 _ rfl; (with_reducible repeat (first | refine blk_drewN ?_ _ | refine blk_drew ?_ | refine blk_alloc ?_ _)); exact BK973.out⟩
       have n14_ : Aside0 (Below w.heap.size w (((w64.setCell ⟨gb973, 0, none⟩ (.int .i64 t970)).setCell ⟨gb973, 1, none⟩ (.int .i64 t971)).setCell ⟨gb973, 2, none⟩ (.int .i64 t972))) := ⟨tb HB⟩
       (try clear HO937)
       (try clear HO945)
       (try clear HO952)
       (try clear HO957)
       (try clear HO963)
       (try clear HO967)
       (try clear BK946)
       (try clear BK947)
       (try clear BK948)
       (try clear BK954)
       (try clear BK959)
       (try clear BK968)
       (try clear BK969)
       (try clear BK973)
       (try clear HB)
       generalize (((w64.setCell ⟨gb973, 0, none⟩ (.int .i64 t970)).setCell ⟨gb973, 1, none⟩ (.int .i64 t971)).setCell ⟨gb973, 2, none⟩ (.int .i64 t972)) = w84 at n0_ n1_ n2_ n3_ n4_ n5_ n6_ n7_ n8_ n9_ n10_ n11_ n12_ n13_ n14_ ⊢
       have HO937 := n0_
       have HO945 := n1_
       have HO952 := n2_
       have HO957 := n3_
       have HO963 := n4_
       have HO967 := n5_
       have BK946 := n6_
       have BK947 := n7_
       have BK948 := n8_
       have BK954 := n9_
       have BK959 := n10_
       have BK968 := n11_
       have BK969 := n12_
       have BK973 := n13_
       have HB := n14_
       clear n0_ n1_ n2_ n3_ n4_ n5_ n6_ n7_ n8_ n9_ n10_ n11_ n12_ n13_ n14_
       replace HO937 := rd_ HO937
       replace HO945 := rd_ HO945
       replace HO952 := rd_ HO952
       replace HO957 := rd_ HO957
       replace HO963 := rd_ HO963
       replace HO967 := rd_ HO967
       replace BK946 := bd BK946
       replace BK947 := bd BK947
       replace BK948 := bd BK948
       replace BK954 := bd BK954
       replace BK959 := bd BK959
       replace BK968 := bd BK968
       replace BK969 := bd BK969
       replace BK973 := bd BK973
       replace HB := Aside0.mk (below_drew1 HB.out)
       refine start_ (n := 37) (S := fun w' => w'.cell? ⟨gb946, 0, none⟩ = some (.slice Ao15 t935.length co15) ∧ w'.cell? ⟨gb946, 1, none⟩ = some (.int .i64 t938) ∧ w'.cell? ⟨gb947, 0, none⟩ = some (.int .i64 t939) ∧ w'.cell? ⟨gb947, 1, none⟩ = some (.int .i64 t940) ∧ w'.cell? ⟨gb947, 2, none⟩ = some (.int .i64 t941) ∧ w'.cell? ⟨gb948, 0, none⟩ = some (.int .i64 t942) ∧ w'.cell? ⟨gb948, 1, none⟩ = some (.slice Ao22 t943.length co22) ∧ w'.cell? ⟨gb954, 0, none⟩ = some (.slice Ao29 t950.length co29) ∧ w'.cell? ⟨gb954, 1, none⟩ = some (.int .i64 t953) ∧ w'.cell? ⟨gb959, 0, none⟩ = some (.slice Ao39 t955.length co39) ∧ w'.cell? ⟨gb959, 1, none⟩ = some (.int .i64 t958) ∧ w'.cell? ⟨gb968, 0, none⟩ = some (.int .i64 t960) ∧ w'.cell? ⟨gb968, 1, none⟩ = some (.slice Ao55 t961.length co55) ∧ w'.cell? ⟨gb969, 0, none⟩ = some (.int .i64 t964) ∧ w'.cell? ⟨gb969, 1, none⟩ = some (.slice Ao62 t965.length co62)) (ds := []) #[false, false, false, false, false, false, false, false, false, false, false, false, false, false, false, false, false, false, false, false, false, false, false, false, false, false, false, false, false, false, false, false, false, false, false, false, false] (by kernel_rfl) rfl rfl ⟨cz BK946 0, cz BK946 1, cz BK947 0, cz BK947 1, cz BK947 2, cz BK948 0, cz BK948 1, cz BK954 0, cz BK954 1, cz BK959 0, cz BK959 1, cz BK968 0, cz BK968 1, cz BK969 0, cz BK969 1⟩ (fun hHeld => ?_); refine with_tabW laws_FnAllowed.tab9 laws_FnAllowed.bits9 (fun HT_ HW_ => ?_)
       generalize w84.drew = w85 at HO937 HO945 HO952 HO957 HO963 HO967 BK946 BK947 BK948 BK954 BK959 BK968 BK969 BK973 HB hHeld ⊢
       refine pu 0 39 ?_
       refine ta 1 40 ?_
       refine ta 2 41 ?_
       refine ta 3 42 ?_
       refine one_ (i := 4) (N := some 43) #[true, true, true, true, true, false, false, false, false, false, false, false, false, false, false, false, false, false, false, false, false, false, false, false, false, false, false, false, false, false, false, false, false, false, false, false, false] rfl rfl (one_of HT_.out (by kernel_rfl)) (by decide) (fun K hK => ?_)
       refine gS Try.func49 #[.agg #[.slice Ao15 t935.length co15, .int .i64 t938], .agg #[.int .i64 t939, .int .i64 t940, .int .i64 t941], .agg #[.int .i64 t942, .slice Ao22 t943.length co22]] ?_
       with_reducible refine (spec_Allowed.calls k _ _ t935 t938 t939 t940 t941 t942 _ _ t943 t974 _ ?side1 ?side2 ?side3 ?side4 A73.out).mono ?_
       (case side1 => repeat (first | exact (Kd.R_reads' HO937.out).2.2 | (with_reducible refine Kd.C_alloc ?_ _) | (with_reducible refine Kd.C_drewN ?_ _) | (with_reducible refine Kd.C_drew ?_)))
       (case side2 => exact (Kd.R_reads' HO937.out).2.1)
       (case side3 => repeat (first | exact (Kd.R_reads' HO945.out).2.2 | (with_reducible refine Kd.C_alloc ?_ _) | (with_reducible refine Kd.C_drewN ?_ _) | (with_reducible refine Kd.C_drew ?_)))
       (case side4 => exact (Kd.R_reads' HO945.out).2.1)
       rintro e w86 ⟨rfl, hb⟩
       refine ⟨_, rfl, ?_⟩
       replace HO937 := rb HO937 hb
       replace HO945 := rb HO945 hb
       replace HO952 := rb HO952 hb
       replace HO957 := rb HO957 hb
       replace HO963 := rb HO963 hb
       replace HO967 := rb HO967 hb
       replace BK946 := bb BK946 hb
       replace BK947 := bb BK947 hb
       replace BK948 := bb BK948 hb
       replace BK954 := bb BK954 hb
       replace BK959 := bb BK959 hb
       replace BK968 := bb BK968 hb
       replace BK969 := bb BK969 hb
       replace BK973 := bb BK973 hb
       replace HB := bs HB hb
       (try clear hb)
       (try clear hb2)
       (try clear hk)
       (try clear hi)
       refine hK.out _ _ ⟨cz BK946 0, cz BK946 1, cz BK947 0, cz BK947 1, cz BK947 2, cz BK948 0, cz BK948 1, cz BK954 0, cz BK954 1, cz BK959 0, cz BK959 1, cz BK968 0, cz BK968 1, cz BK969 0, cz BK969 1⟩ (fun hHeld => ?_)
       clear hK K
       refine nm 43 ?_
       refine pu 5 44 ?_
       refine pu 6 45 ?_
       refine pu 7 46 ?_
       refine pu 9 48 ?_
       refine ta 8 47 ?_
       refine ta 10 49 ?_
       refine one_ (i := 11) (N := some 50) #[true, true, true, true, true, true, true, true, true, true, true, true, false, false, false, false, false, false, false, false, false, false, false, false, false, false, false, false, false, false, false, false, false, false, false, false, false] rfl rfl (one_of HT_.out (by kernel_rfl)) (by decide) (fun K hK => ?_)
       refine gS Try.func50 #[.slice Ao29 t950.length co29, .slice Ao39 t955.length co39] ?_
       with_reducible refine (laws_sameInts.calls k _ _ t950 _ _ t955 true _ ?side1 ?side2 ?side3 ?side4 A78.out).mono ?_
       (case side1 => repeat (first | exact (Kd.R_reads' HO952.out).2.2 | (with_reducible refine Kd.C_alloc ?_ _) | (with_reducible refine Kd.C_drewN ?_ _) | (with_reducible refine Kd.C_drew ?_)))
       (case side2 => exact (Kd.R_reads' HO952.out).2.1)
       (case side3 => repeat (first | exact (Kd.R_reads' HO957.out).2.2 | (with_reducible refine Kd.C_alloc ?_ _) | (with_reducible refine Kd.C_drewN ?_ _) | (with_reducible refine Kd.C_drew ?_)))
       (case side4 => exact (Kd.R_reads' HO957.out).2.1)
       rintro e w' ⟨rfl, ⟨nd, rfl⟩⟩
       refine ⟨_, rfl, ?_⟩
       refine hK.out _ _ ⟨cz BK946 0, cz BK946 1, cz BK947 0, cz BK947 1, cz BK947 2, cz BK948 0, cz BK948 1, cz BK954 0, cz BK954 1, cz BK959 0, cz BK959 1, cz BK968 0, cz BK968 1, cz BK969 0, cz BK969 1⟩ (fun hHeld => ?_)
       clear hK K
       refine nm 50 ?_
       refine pu 12 51 ?_
       refine pu 13 52 ?_
       refine pu 14 53 ?_
       refine pu 15 54 ?_
       refine pu 17 56 ?_
       refine ta 16 55 ?_
       refine ta 18 57 ?_
       refine pu 19 58 ?_
       refine pu 20 59 ?_
       refine pu 21 60 ?_
       refine ta 22 61 ?_
       refine ta 23 62 ?_
       refine ta 25 64 ?_
       refine ta 26 65 ?_
       refine one_ (i := 24) (N := some 63) #[true, true, true, true, true, true, true, true, true, true, true, true, true, true, true, true, true, true, true, true, true, true, true, true, true, true, true, false, false, false, false, false, false, false, false, false, false] rfl rfl (one_of HT_.out (by kernel_rfl)) (by decide) (fun K hK => ?_)
       refine gS Try.func51 #[.agg #[.int .i64 t960, .slice Ao55 t961.length co55], .agg #[.int .i64 t964, .slice Ao62 t965.length co62]] ?_
       with_reducible refine (impl_ResSame.calls k t960 _ _ t961 t964 _ _ t965 t976 _ ?side1 ?side2 ?side3 ?side4 A81.out).mono ?_
       (case side1 => repeat (first | exact (Kd.R_reads' HO963.out).2.2 | (with_reducible refine Kd.C_alloc ?_ _) | (with_reducible refine Kd.C_drewN ?_ _) | (with_reducible refine Kd.C_drew ?_)))
       (case side2 => exact (Kd.R_reads' HO963.out).2.1)
       (case side3 => repeat (first | exact (Kd.R_reads' HO967.out).2.2 | (with_reducible refine Kd.C_alloc ?_ _) | (with_reducible refine Kd.C_drewN ?_ _) | (with_reducible refine Kd.C_drew ?_)))
       (case side4 => exact (Kd.R_reads' HO967.out).2.1)
       rintro e w87 ⟨rfl, hb⟩
       refine ⟨_, rfl, ?_⟩
       replace HO937 := rb HO937 hb
       replace HO945 := rb HO945 hb
       replace HO952 := rb HO952 hb
       replace HO957 := rb HO957 hb
       replace HO963 := rb HO963 hb
       replace HO967 := rb HO967 hb
       replace BK946 := bb BK946 hb
       replace BK947 := bb BK947 hb
       replace BK948 := bb BK948 hb
       replace BK954 := bb BK954 hb
       replace BK959 := bb BK959 hb
       replace BK968 := bb BK968 hb
       replace BK969 := bb BK969 hb
       replace BK973 := bb BK973 hb
       replace HB := bs HB hb
       (try clear hb)
       (try clear hb2)
       (try clear hk)
       (try clear hi)
       refine hK.out _ _ ⟨cz BK946 0, cz BK946 1, cz BK947 0, cz BK947 1, cz BK947 2, cz BK948 0, cz BK948 1, cz BK954 0, cz BK954 1, cz BK959 0, cz BK959 1, cz BK968 0, cz BK968 1, cz BK969 0, cz BK969 1⟩ (fun hHeld => ?_)
       clear hK K
       refine nm 63 ?_
       refine one_ (i := 27) (N := some 66) #[true, true, true, true, true, true, true, true, true, true, true, true, true, true, true, true, true, true, true, true, true, true, true, true, true, true, true, true, false, false, false, false, false, false, false, false, false] rfl rfl (one_of HT_.out (by kernel_rfl)) (by decide) (fun K hK => ?_)
       refine gS Try.func52 #[.agg #[.int .i64 t960, .slice Ao55 t961.length co55], .agg #[.int .i64 t964, .slice Ao62 t965.length co62]] ?_
       with_reducible refine (spec_ResSame.calls k t960 _ _ t961 t964 _ _ t965 t977 _ ?side1 ?side2 ?side3 ?side4 A82.out).mono ?_
       (case side1 => repeat (first | exact (Kd.R_reads' HO963.out).2.2 | (with_reducible refine Kd.C_alloc ?_ _) | (with_reducible refine Kd.C_drewN ?_ _) | (with_reducible refine Kd.C_drew ?_)))
       (case side2 => exact (Kd.R_reads' HO963.out).2.1)
       (case side3 => repeat (first | exact (Kd.R_reads' HO967.out).2.2 | (with_reducible refine Kd.C_alloc ?_ _) | (with_reducible refine Kd.C_drewN ?_ _) | (with_reducible refine Kd.C_drew ?_)))
       (case side4 => exact (Kd.R_reads' HO967.out).2.1)
       rintro e w88 ⟨rfl, hb⟩
       refine ⟨_, rfl, ?_⟩
       replace HO937 := rb HO937 hb
       replace HO945 := rb HO945 hb
       replace HO952 := rb HO952 hb
       replace HO957 := rb HO957 hb
       replace HO963 := rb HO963 hb
       replace HO967 := rb HO967 hb
       replace BK946 := bb BK946 hb
       replace BK947 := bb BK947 hb
       replace BK948 := bb BK948 hb
       replace BK954 := bb BK954 hb
       replace BK959 := bb BK959 hb
       replace BK968 := bb BK968 hb
       replace BK969 := bb BK969 hb
       replace BK973 := bb BK973 hb
       replace HB := bs HB hb
       (try clear hb)
       (try clear hb2)
       (try clear hk)
       (try clear hi)
       refine hK.out _ _ ⟨cz BK946 0, cz BK946 1, cz BK947 0, cz BK947 1, cz BK947 2, cz BK948 0, cz BK948 1, cz BK954 0, cz BK954 1, cz BK959 0, cz BK959 1, cz BK968 0, cz BK968 1, cz BK969 0, cz BK969 1⟩ (fun hHeld => ?_)
       clear hK K
       refine nm 66 ?_
       refine pu 28 67 ?_
       refine pu 29 68 ?_
       refine pu 30 69 ?_
       refine pn 31 70 ?_
       refine pn 32 71 ?_
       refine pn 33 72 ?_
       refine pn 34 73 ?_
       refine pn 35 74 ?_
       refine pu 36 75 ?_
       refine done_ (done_of HT_.out (by kernel_rfl)) ?_
       try go_wp2
       go_meet
       case rel => exact ⟨_, (true), (by first | rfl | (simp; done) | (simp [*]; done)), H', ⟨by first | omega | exact Nat.le_refl _⟩, ⟨kr HO937.out⟩, ⟨kr HO945.out⟩, ⟨kr HO952.out⟩, ⟨kr HO957.out⟩, ⟨kr HO963.out⟩, ⟨kr HO967.out⟩, ⟨by (with_reducible repeat (first | refine blk_drewN ?_ _ | refine blk_drew ?_ | refine blk_alloc ?_ _)); exact BK946.out⟩, ⟨by (with_reducible repeat (first | refine blk_drewN ?_ _ | refine blk_drew ?_ | refine blk_alloc ?_ _)); exact BK947.out⟩, ⟨by (with_reducible repeat (first | refine blk_drewN ?_ _ | refine blk_drew ?_ | refine blk_alloc ?_ _)); exact BK948.out⟩, ⟨by (with_reducible repeat (first | refine blk_drewN ?_ _ | refine blk_drew ?_ | refine blk_alloc ?_ _)); exact BK954.out⟩, ⟨by (with_reducible repeat (first | refine blk_drewN ?_ _ | refine blk_drew ?_ | refine blk_alloc ?_ _)); exact BK959.out⟩, ⟨by (with_reducible repeat (first | refine blk_drewN ?_ _ | refine blk_drew ?_ | refine blk_alloc ?_ _)); exact BK968.out⟩, ⟨by (with_reducible repeat (first | refine blk_drewN ?_ _ | refine blk_drew ?_ | refine blk_alloc ?_ _)); exact BK969.out⟩, ⟨by (with_reducible repeat (first | refine blk_drewN ?_ _ | refine blk_drew ?_ | refine blk_alloc ?_ _)); exact BK973.out⟩, ⟨tb HB⟩⟩
      ·rw [if_neg c83] at H
       have c83b0 : (t976 != t977) = false := by simpa using c83
       (try (have c83b1 : decide (t976 = t977) = true := by simpa using c83))
       (try (have c83b2 : (t976 == t977) = true := by simpa using c83))
       clear c83
       replace H := Option.bind_eq_some_iff.mp H
       obtain ⟨t978, A890, H⟩ := H
       replace H : ((spec_OpOk.f k t970 t971 t972).bind fun t979 => (laws_FnAllowed.j0 k t949 (t978 != t979) t935 t938 t942 t943 t950 t953)) = some r := H
       have A89 := Aside0.mk A890
       clear A890
       replace H := Option.bind_eq_some_iff.mp H
       obtain ⟨t979, A900, H⟩ := H
       replace H : (laws_FnAllowed.j0 k t949 (t978 != t979) t935 t938 t942 t943 t950 t953) = some r := H
       have A90 := Aside0.mk A900
       clear A900
       have H' := Aside0.mk H
       clear H
       try go_wp2
       have n0_ : Aside0 (Kd.R (Kd.int .i64) 3 (((w64.setCell ⟨gb973, 0, none⟩ (.int .i64 t970)).setCell ⟨gb973, 1, none⟩ (.int .i64 t971)).setCell ⟨gb973, 2, none⟩ (.int .i64 t972)) w.heap.size (fun k_ => some k_ ≠ (.slice Ao22 t943.length co22 : Value).ownBlock ∧ some k_ ≠ (.slice Ao29 t950.length co29 : Value).ownBlock ∧ some k_ ≠ (.slice Ao39 t955.length co39 : Value).ownBlock ∧ some k_ ≠ (.slice Ao55 t961.length co55 : Value).ownBlock ∧ some k_ ≠ (.slice Ao62 t965.length co62 : Value).ownBlock) (.slice Ao15 t935.length co15) t935) := ⟨by (with_reducible repeat (first | apply Kd.R_alloc | apply Kd.R_drewN | apply Kd.R_drew)); exact Kd.R_mono (Kd.R_far (p := ⟨gb973, 2, none⟩) (Kd.R_far (p := ⟨gb973, 1, none⟩) (Kd.R_far (p := ⟨gb973, 0, none⟩) (Kd.R_types HO937.out BK973.out (by decide)) (fun _ hk => hk.2) (.int .i64 t970)) (fun _ hk => hk.2) (.int .i64 t971)) (fun _ hk => hk.2) (.int .i64 t972)) (fun _ hk => ⟨hk.1.1.1.1.1, ⟨hk.1.1.1.1.2, ⟨hk.1.1.1.2, ⟨hk.1.1.2, hk.1.2⟩⟩⟩⟩)⟩
       have n1_ : Aside0 (Kd.R (Kd.int .i64) 3 (((w64.setCell ⟨gb973, 0, none⟩ (.int .i64 t970)).setCell ⟨gb973, 1, none⟩ (.int .i64 t971)).setCell ⟨gb973, 2, none⟩ (.int .i64 t972)) w.heap.size (fun k_ => some k_ ≠ (.slice Ao15 t935.length co15 : Value).ownBlock ∧ some k_ ≠ (.slice Ao29 t950.length co29 : Value).ownBlock ∧ some k_ ≠ (.slice Ao39 t955.length co39 : Value).ownBlock ∧ some k_ ≠ (.slice Ao55 t961.length co55 : Value).ownBlock ∧ some k_ ≠ (.slice Ao62 t965.length co62 : Value).ownBlock) (.slice Ao22 t943.length co22) t943) := ⟨by (with_reducible repeat (first | apply Kd.R_alloc | apply Kd.R_drewN | apply Kd.R_drew)); exact Kd.R_mono (Kd.R_far (p := ⟨gb973, 2, none⟩) (Kd.R_far (p := ⟨gb973, 1, none⟩) (Kd.R_far (p := ⟨gb973, 0, none⟩) (Kd.R_types HO945.out BK973.out (by decide)) (fun _ hk => hk.2) (.int .i64 t970)) (fun _ hk => hk.2) (.int .i64 t971)) (fun _ hk => hk.2) (.int .i64 t972)) (fun _ hk => ⟨hk.1.1.1.1.1, ⟨hk.1.1.1.1.2, ⟨hk.1.1.1.2, ⟨hk.1.1.2, hk.1.2⟩⟩⟩⟩)⟩
       have n2_ : Aside0 (Kd.R (Kd.int .i64) 3 (((w64.setCell ⟨gb973, 0, none⟩ (.int .i64 t970)).setCell ⟨gb973, 1, none⟩ (.int .i64 t971)).setCell ⟨gb973, 2, none⟩ (.int .i64 t972)) w.heap.size (fun k_ => some k_ ≠ (.slice Ao15 t935.length co15 : Value).ownBlock ∧ some k_ ≠ (.slice Ao22 t943.length co22 : Value).ownBlock ∧ some k_ ≠ (.slice Ao39 t955.length co39 : Value).ownBlock ∧ some k_ ≠ (.slice Ao55 t961.length co55 : Value).ownBlock ∧ some k_ ≠ (.slice Ao62 t965.length co62 : Value).ownBlock) (.slice Ao29 t950.length co29) t950) := ⟨by (with_reducible repeat (first | apply Kd.R_alloc | apply Kd.R_drewN | apply Kd.R_drew)); exact Kd.R_mono (Kd.R_far (p := ⟨gb973, 2, none⟩) (Kd.R_far (p := ⟨gb973, 1, none⟩) (Kd.R_far (p := ⟨gb973, 0, none⟩) (Kd.R_types HO952.out BK973.out (by decide)) (fun _ hk => hk.2) (.int .i64 t970)) (fun _ hk => hk.2) (.int .i64 t971)) (fun _ hk => hk.2) (.int .i64 t972)) (fun _ hk => ⟨hk.1.1.1.1.1.2, ⟨hk.1.1.1.1.2, ⟨hk.1.1.1.2, ⟨hk.1.1.2, hk.1.2⟩⟩⟩⟩)⟩
       have n3_ : Aside0 (Kd.R (Kd.int .i64) 3 (((w64.setCell ⟨gb973, 0, none⟩ (.int .i64 t970)).setCell ⟨gb973, 1, none⟩ (.int .i64 t971)).setCell ⟨gb973, 2, none⟩ (.int .i64 t972)) w.heap.size (fun k_ => some k_ ≠ (.slice Ao15 t935.length co15 : Value).ownBlock ∧ some k_ ≠ (.slice Ao22 t943.length co22 : Value).ownBlock ∧ some k_ ≠ (.slice Ao29 t950.length co29 : Value).ownBlock ∧ some k_ ≠ (.slice Ao55 t961.length co55 : Value).ownBlock ∧ some k_ ≠ (.slice Ao62 t965.length co62 : Value).ownBlock) (.slice Ao39 t955.length co39) t955) := ⟨by (with_reducible repeat (first | apply Kd.R_alloc | apply Kd.R_drewN | apply Kd.R_drew)); exact Kd.R_mono (Kd.R_far (p := ⟨gb973, 2, none⟩) (Kd.R_far (p := ⟨gb973, 1, none⟩) (Kd.R_far (p := ⟨gb973, 0, none⟩) (Kd.R_types HO957.out BK973.out (by decide)) (fun _ hk => hk.2) (.int .i64 t970)) (fun _ hk => hk.2) (.int .i64 t971)) (fun _ hk => hk.2) (.int .i64 t972)) (fun _ hk => ⟨hk.1.1.1.1.1.2, ⟨hk.1.1.1.1.2, ⟨hk.1.1.1.2, ⟨hk.1.1.2, hk.1.2⟩⟩⟩⟩)⟩
       have n4_ : Aside0 (Kd.R (Kd.int .i64) 3 (((w64.setCell ⟨gb973, 0, none⟩ (.int .i64 t970)).setCell ⟨gb973, 1, none⟩ (.int .i64 t971)).setCell ⟨gb973, 2, none⟩ (.int .i64 t972)) w.heap.size (fun k_ => some k_ ≠ (.slice Ao15 t935.length co15 : Value).ownBlock ∧ some k_ ≠ (.slice Ao22 t943.length co22 : Value).ownBlock ∧ some k_ ≠ (.slice Ao29 t950.length co29 : Value).ownBlock ∧ some k_ ≠ (.slice Ao39 t955.length co39 : Value).ownBlock ∧ some k_ ≠ (.slice Ao62 t965.length co62 : Value).ownBlock) (.slice Ao55 t961.length co55) t961) := ⟨by (with_reducible repeat (first | apply Kd.R_alloc | apply Kd.R_drewN | apply Kd.R_drew)); exact Kd.R_mono (Kd.R_far (p := ⟨gb973, 2, none⟩) (Kd.R_far (p := ⟨gb973, 1, none⟩) (Kd.R_far (p := ⟨gb973, 0, none⟩) (Kd.R_types HO963.out BK973.out (by decide)) (fun _ hk => hk.2) (.int .i64 t970)) (fun _ hk => hk.2) (.int .i64 t971)) (fun _ hk => hk.2) (.int .i64 t972)) (fun _ hk => ⟨hk.1.1.1.1.2, ⟨hk.1.1.1.2, ⟨hk.1.1.2, ⟨hk.1.2, hk.1.1.1.1.1⟩⟩⟩⟩)⟩
       have n5_ : Aside0 (Kd.R (Kd.int .i64) 3 (((w64.setCell ⟨gb973, 0, none⟩ (.int .i64 t970)).setCell ⟨gb973, 1, none⟩ (.int .i64 t971)).setCell ⟨gb973, 2, none⟩ (.int .i64 t972)) w.heap.size (fun k_ => some k_ ≠ (.slice Ao15 t935.length co15 : Value).ownBlock ∧ some k_ ≠ (.slice Ao22 t943.length co22 : Value).ownBlock ∧ some k_ ≠ (.slice Ao29 t950.length co29 : Value).ownBlock ∧ some k_ ≠ (.slice Ao39 t955.length co39 : Value).ownBlock ∧ some k_ ≠ (.slice Ao55 t961.length co55 : Value).ownBlock) (.slice Ao62 t965.length co62) t965) := ⟨by (with_reducible repeat (first | apply Kd.R_alloc | apply Kd.R_drewN | apply Kd.R_drew)); exact Kd.R_mono (Kd.R_far (p := ⟨gb973, 2, none⟩) (Kd.R_far (p := ⟨gb973, 1, none⟩) (Kd.R_far (p := ⟨gb973, 0, none⟩) (Kd.R_types HO967.out BK973.out (by decide)) (fun _ hk => hk.2) (.int .i64 t970)) (fun _ hk => hk.2) (.int .i64 t971)) (fun _ hk => hk.2) (.int .i64 t972)) (fun _ hk => ⟨hk.1.1.1.1.2, ⟨hk.1.1.1.2, ⟨hk.1.1.2, ⟨hk.1.2, hk.1.1.1.1.1⟩⟩⟩⟩)⟩
       have n6_ : Aside0 ((((w64.setCell ⟨gb973, 0, none⟩ (.int .i64 t970)).setCell ⟨gb973, 1, none⟩ (.int .i64 t971)).setCell ⟨gb973, 2, none⟩ (.int .i64 t972)).heap[gb946]? = some (.cells #[.slice Ao15 t935.length co15, .int .i64 t938] 65 (0, 0))) := ⟨bf BK946⟩
       have n7_ : Aside0 ((((w64.setCell ⟨gb973, 0, none⟩ (.int .i64 t970)).setCell ⟨gb973, 1, none⟩ (.int .i64 t971)).setCell ⟨gb973, 2, none⟩ (.int .i64 t972)).heap[gb947]? = some (.cells #[.int .i64 t939, .int .i64 t940, .int .i64 t941] 68 (0, 0))) := ⟨bf BK947⟩
       have n8_ : Aside0 ((((w64.setCell ⟨gb973, 0, none⟩ (.int .i64 t970)).setCell ⟨gb973, 1, none⟩ (.int .i64 t971)).setCell ⟨gb973, 2, none⟩ (.int .i64 t972)).heap[gb948]? = some (.cells #[.int .i64 t942, .slice Ao22 t943.length co22] 70 (0, 0))) := ⟨bf BK948⟩
       have n9_ : Aside0 ((((w64.setCell ⟨gb973, 0, none⟩ (.int .i64 t970)).setCell ⟨gb973, 1, none⟩ (.int .i64 t971)).setCell ⟨gb973, 2, none⟩ (.int .i64 t972)).heap[gb954]? = some (.cells #[.slice Ao29 t950.length co29, .int .i64 t953] 65 (0, 0))) := ⟨bf BK954⟩
       have n10_ : Aside0 ((((w64.setCell ⟨gb973, 0, none⟩ (.int .i64 t970)).setCell ⟨gb973, 1, none⟩ (.int .i64 t971)).setCell ⟨gb973, 2, none⟩ (.int .i64 t972)).heap[gb959]? = some (.cells #[.slice Ao39 t955.length co39, .int .i64 t958] 65 (0, 0))) := ⟨bf BK959⟩
       have n11_ : Aside0 ((((w64.setCell ⟨gb973, 0, none⟩ (.int .i64 t970)).setCell ⟨gb973, 1, none⟩ (.int .i64 t971)).setCell ⟨gb973, 2, none⟩ (.int .i64 t972)).heap[gb968]? = some (.cells #[.int .i64 t960, .slice Ao55 t961.length co55] 70 (0, 0))) := ⟨bf BK968⟩
       have n12_ : Aside0 ((((w64.setCell ⟨gb973, 0, none⟩ (.int .i64 t970)).setCell ⟨gb973, 1, none⟩ (.int .i64 t971)).setCell ⟨gb973, 2, none⟩ (.int .i64 t972)).heap[gb969]? = some (.cells #[.int .i64 t964, .slice Ao62 t965.length co62] 70 (0, 0))) := ⟨bf BK969⟩
       have n13_ : Aside0 ((((w64.setCell ⟨gb973, 0, none⟩ (.int .i64 t970)).setCell ⟨gb973, 1, none⟩ (.int .i64 t971)).setCell ⟨gb973, 2, none⟩ (.int .i64 t972)).heap[gb973]? = some (.cells #[.int .i64 t970, .int .i64 t971, .int .i64 t972] 68 (0, 0))) := ⟨by (with_reducible repeat (first | refine blk_drewN ?_ _ | refine blk_drew ?_ | refine blk_alloc ?_ _)); refine blk_put (cs := #[.int .i64 t970, .int .i64 t971, .int .i64 0]) ?_ 2 _ rfl; (with_reducible repeat (first | refine blk_drewN ?_ _ | refine blk_drew ?_ | refine blk_alloc ?_ _)); refine blk_put (cs := #[.int .i64 t970, .int .i64 0, .int .i64 0]) ?_ 1 _ rfl; (with_reducible repeat (first | refine blk_drewN ?_ _ | refine blk_drew ?_ | refine blk_alloc ?_ _)); refine blk_put (cs := #[.int .i64 0, .int .i64 0, .int .i64 0]) ?_ 0 _ rfl; (with_reducible repeat (first | refine blk_drewN ?_ _ | refine blk_drew ?_ | refine blk_alloc ?_ _)); exact BK973.out⟩
       have n14_ : Aside0 (Below w.heap.size w (((w64.setCell ⟨gb973, 0, none⟩ (.int .i64 t970)).setCell ⟨gb973, 1, none⟩ (.int .i64 t971)).setCell ⟨gb973, 2, none⟩ (.int .i64 t972))) := ⟨tb HB⟩
       (try clear HO937)
       (try clear HO945)
       (try clear HO952)
       (try clear HO957)
       (try clear HO963)
       (try clear HO967)
       (try clear BK946)
       (try clear BK947)
       (try clear BK948)
       (try clear BK954)
       (try clear BK959)
       (try clear BK968)
       (try clear BK969)
       (try clear BK973)
       (try clear HB)
       generalize (((w64.setCell ⟨gb973, 0, none⟩ (.int .i64 t970)).setCell ⟨gb973, 1, none⟩ (.int .i64 t971)).setCell ⟨gb973, 2, none⟩ (.int .i64 t972)) = w91 at n0_ n1_ n2_ n3_ n4_ n5_ n6_ n7_ n8_ n9_ n10_ n11_ n12_ n13_ n14_ ⊢
       have HO937 := n0_
       have HO945 := n1_
       have HO952 := n2_
       have HO957 := n3_
       have HO963 := n4_
       have HO967 := n5_
       have BK946 := n6_
       have BK947 := n7_
       have BK948 := n8_
       have BK954 := n9_
       have BK959 := n10_
       have BK968 := n11_
       have BK969 := n12_
       have BK973 := n13_
       have HB := n14_
       clear n0_ n1_ n2_ n3_ n4_ n5_ n6_ n7_ n8_ n9_ n10_ n11_ n12_ n13_ n14_
       replace HO937 := rd_ HO937
       replace HO945 := rd_ HO945
       replace HO952 := rd_ HO952
       replace HO957 := rd_ HO957
       replace HO963 := rd_ HO963
       replace HO967 := rd_ HO967
       replace BK946 := bd BK946
       replace BK947 := bd BK947
       replace BK948 := bd BK948
       replace BK954 := bd BK954
       replace BK959 := bd BK959
       replace BK968 := bd BK968
       replace BK969 := bd BK969
       replace BK973 := bd BK973
       replace HB := Aside0.mk (below_drew1 HB.out)
       refine start_ (n := 37) (S := fun w' => w'.cell? ⟨gb946, 0, none⟩ = some (.slice Ao15 t935.length co15) ∧ w'.cell? ⟨gb946, 1, none⟩ = some (.int .i64 t938) ∧ w'.cell? ⟨gb947, 0, none⟩ = some (.int .i64 t939) ∧ w'.cell? ⟨gb947, 1, none⟩ = some (.int .i64 t940) ∧ w'.cell? ⟨gb947, 2, none⟩ = some (.int .i64 t941) ∧ w'.cell? ⟨gb948, 0, none⟩ = some (.int .i64 t942) ∧ w'.cell? ⟨gb948, 1, none⟩ = some (.slice Ao22 t943.length co22) ∧ w'.cell? ⟨gb954, 0, none⟩ = some (.slice Ao29 t950.length co29) ∧ w'.cell? ⟨gb954, 1, none⟩ = some (.int .i64 t953) ∧ w'.cell? ⟨gb959, 0, none⟩ = some (.slice Ao39 t955.length co39) ∧ w'.cell? ⟨gb959, 1, none⟩ = some (.int .i64 t958) ∧ w'.cell? ⟨gb968, 0, none⟩ = some (.int .i64 t960) ∧ w'.cell? ⟨gb968, 1, none⟩ = some (.slice Ao55 t961.length co55) ∧ w'.cell? ⟨gb969, 0, none⟩ = some (.int .i64 t964) ∧ w'.cell? ⟨gb969, 1, none⟩ = some (.slice Ao62 t965.length co62) ∧ w'.cell? ⟨gb973, 0, none⟩ = some (.int .i64 t970) ∧ w'.cell? ⟨gb973, 1, none⟩ = some (.int .i64 t971) ∧ w'.cell? ⟨gb973, 2, none⟩ = some (.int .i64 t972)) (ds := []) #[false, false, false, false, false, false, false, false, false, false, false, false, false, false, false, false, false, false, false, false, false, false, false, false, false, false, false, false, false, false, false, false, false, false, false, false, false] (by kernel_rfl) rfl rfl ⟨cz BK946 0, cz BK946 1, cz BK947 0, cz BK947 1, cz BK947 2, cz BK948 0, cz BK948 1, cz BK954 0, cz BK954 1, cz BK959 0, cz BK959 1, cz BK968 0, cz BK968 1, cz BK969 0, cz BK969 1, cz BK973 0, cz BK973 1, cz BK973 2⟩ (fun hHeld => ?_); refine with_tabW laws_FnAllowed.tab9 laws_FnAllowed.bits9 (fun HT_ HW_ => ?_)
       generalize w91.drew = w92 at HO937 HO945 HO952 HO957 HO963 HO967 BK946 BK947 BK948 BK954 BK959 BK968 BK969 BK973 HB hHeld ⊢
       refine pu 0 39 ?_
       refine ta 1 40 ?_
       refine ta 2 41 ?_
       refine ta 3 42 ?_
       refine one_ (i := 4) (N := some 43) #[true, true, true, true, true, false, false, false, false, false, false, false, false, false, false, false, false, false, false, false, false, false, false, false, false, false, false, false, false, false, false, false, false, false, false, false, false] rfl rfl (one_of HT_.out (by kernel_rfl)) (by decide) (fun K hK => ?_)
       refine gS Try.func49 #[.agg #[.slice Ao15 t935.length co15, .int .i64 t938], .agg #[.int .i64 t939, .int .i64 t940, .int .i64 t941], .agg #[.int .i64 t942, .slice Ao22 t943.length co22]] ?_
       with_reducible refine (spec_Allowed.calls k _ _ t935 t938 t939 t940 t941 t942 _ _ t943 t974 _ ?side1 ?side2 ?side3 ?side4 A73.out).mono ?_
       (case side1 => repeat (first | exact (Kd.R_reads' HO937.out).2.2 | (with_reducible refine Kd.C_alloc ?_ _) | (with_reducible refine Kd.C_drewN ?_ _) | (with_reducible refine Kd.C_drew ?_)))
       (case side2 => exact (Kd.R_reads' HO937.out).2.1)
       (case side3 => repeat (first | exact (Kd.R_reads' HO945.out).2.2 | (with_reducible refine Kd.C_alloc ?_ _) | (with_reducible refine Kd.C_drewN ?_ _) | (with_reducible refine Kd.C_drew ?_)))
       (case side4 => exact (Kd.R_reads' HO945.out).2.1)
       rintro e w93 ⟨rfl, hb⟩
       refine ⟨_, rfl, ?_⟩
       replace HO937 := rb HO937 hb
       replace HO945 := rb HO945 hb
       replace HO952 := rb HO952 hb
       replace HO957 := rb HO957 hb
       replace HO963 := rb HO963 hb
       replace HO967 := rb HO967 hb
       replace BK946 := bb BK946 hb
       replace BK947 := bb BK947 hb
       replace BK948 := bb BK948 hb
       replace BK954 := bb BK954 hb
       replace BK959 := bb BK959 hb
       replace BK968 := bb BK968 hb
       replace BK969 := bb BK969 hb
       replace BK973 := bb BK973 hb
       replace HB := bs HB hb
       (try clear hb)
       (try clear hb2)
       (try clear hk)
       (try clear hi)
       refine hK.out _ _ ⟨cz BK946 0, cz BK946 1, cz BK947 0, cz BK947 1, cz BK947 2, cz BK948 0, cz BK948 1, cz BK954 0, cz BK954 1, cz BK959 0, cz BK959 1, cz BK968 0, cz BK968 1, cz BK969 0, cz BK969 1, cz BK973 0, cz BK973 1, cz BK973 2⟩ (fun hHeld => ?_)
       clear hK K
       refine nm 43 ?_
       refine pu 5 44 ?_
       refine pu 6 45 ?_
       refine pu 7 46 ?_
       refine pu 9 48 ?_
       refine ta 8 47 ?_
       refine ta 10 49 ?_
       refine one_ (i := 11) (N := some 50) #[true, true, true, true, true, true, true, true, true, true, true, true, false, false, false, false, false, false, false, false, false, false, false, false, false, false, false, false, false, false, false, false, false, false, false, false, false] rfl rfl (one_of HT_.out (by kernel_rfl)) (by decide) (fun K hK => ?_)
       refine gS Try.func50 #[.slice Ao29 t950.length co29, .slice Ao39 t955.length co39] ?_
       with_reducible refine (laws_sameInts.calls k _ _ t950 _ _ t955 true _ ?side1 ?side2 ?side3 ?side4 A78.out).mono ?_
       (case side1 => repeat (first | exact (Kd.R_reads' HO952.out).2.2 | (with_reducible refine Kd.C_alloc ?_ _) | (with_reducible refine Kd.C_drewN ?_ _) | (with_reducible refine Kd.C_drew ?_)))
       (case side2 => exact (Kd.R_reads' HO952.out).2.1)
       (case side3 => repeat (first | exact (Kd.R_reads' HO957.out).2.2 | (with_reducible refine Kd.C_alloc ?_ _) | (with_reducible refine Kd.C_drewN ?_ _) | (with_reducible refine Kd.C_drew ?_)))
       (case side4 => exact (Kd.R_reads' HO957.out).2.1)
       rintro e w' ⟨rfl, ⟨nd, rfl⟩⟩
       refine ⟨_, rfl, ?_⟩
       refine hK.out _ _ ⟨cz BK946 0, cz BK946 1, cz BK947 0, cz BK947 1, cz BK947 2, cz BK948 0, cz BK948 1, cz BK954 0, cz BK954 1, cz BK959 0, cz BK959 1, cz BK968 0, cz BK968 1, cz BK969 0, cz BK969 1, cz BK973 0, cz BK973 1, cz BK973 2⟩ (fun hHeld => ?_)
       clear hK K
       refine nm 50 ?_
       refine pu 12 51 ?_
       refine pu 13 52 ?_
       refine pu 14 53 ?_
       refine pu 15 54 ?_
       refine pu 17 56 ?_
       refine ta 16 55 ?_
       refine ta 18 57 ?_
       refine pu 19 58 ?_
       refine pu 20 59 ?_
       refine pu 21 60 ?_
       refine ta 22 61 ?_
       refine ta 23 62 ?_
       refine ta 25 64 ?_
       refine ta 26 65 ?_
       refine one_ (i := 24) (N := some 63) #[true, true, true, true, true, true, true, true, true, true, true, true, true, true, true, true, true, true, true, true, true, true, true, true, true, true, true, false, false, false, false, false, false, false, false, false, false] rfl rfl (one_of HT_.out (by kernel_rfl)) (by decide) (fun K hK => ?_)
       refine gS Try.func51 #[.agg #[.int .i64 t960, .slice Ao55 t961.length co55], .agg #[.int .i64 t964, .slice Ao62 t965.length co62]] ?_
       with_reducible refine (impl_ResSame.calls k t960 _ _ t961 t964 _ _ t965 t976 _ ?side1 ?side2 ?side3 ?side4 A81.out).mono ?_
       (case side1 => repeat (first | exact (Kd.R_reads' HO963.out).2.2 | (with_reducible refine Kd.C_alloc ?_ _) | (with_reducible refine Kd.C_drewN ?_ _) | (with_reducible refine Kd.C_drew ?_)))
       (case side2 => exact (Kd.R_reads' HO963.out).2.1)
       (case side3 => repeat (first | exact (Kd.R_reads' HO967.out).2.2 | (with_reducible refine Kd.C_alloc ?_ _) | (with_reducible refine Kd.C_drewN ?_ _) | (with_reducible refine Kd.C_drew ?_)))
       (case side4 => exact (Kd.R_reads' HO967.out).2.1)
       rintro e w94 ⟨rfl, hb⟩
       refine ⟨_, rfl, ?_⟩
       replace HO937 := rb HO937 hb
       replace HO945 := rb HO945 hb
       replace HO952 := rb HO952 hb
       replace HO957 := rb HO957 hb
       replace HO963 := rb HO963 hb
       replace HO967 := rb HO967 hb
       replace BK946 := bb BK946 hb
       replace BK947 := bb BK947 hb
       replace BK948 := bb BK948 hb
       replace BK954 := bb BK954 hb
       replace BK959 := bb BK959 hb
       replace BK968 := bb BK968 hb
       replace BK969 := bb BK969 hb
       replace BK973 := bb BK973 hb
       replace HB := bs HB hb
       (try clear hb)
       (try clear hb2)
       (try clear hk)
       (try clear hi)
       refine hK.out _ _ ⟨cz BK946 0, cz BK946 1, cz BK947 0, cz BK947 1, cz BK947 2, cz BK948 0, cz BK948 1, cz BK954 0, cz BK954 1, cz BK959 0, cz BK959 1, cz BK968 0, cz BK968 1, cz BK969 0, cz BK969 1, cz BK973 0, cz BK973 1, cz BK973 2⟩ (fun hHeld => ?_)
       clear hK K
       refine nm 63 ?_
       refine one_ (i := 27) (N := some 66) #[true, true, true, true, true, true, true, true, true, true, true, true, true, true, true, true, true, true, true, true, true, true, true, true, true, true, true, true, false, false, false, false, false, false, false, false, false] rfl rfl (one_of HT_.out (by kernel_rfl)) (by decide) (fun K hK => ?_)
       refine gS Try.func52 #[.agg #[.int .i64 t960, .slice Ao55 t961.length co55], .agg #[.int .i64 t964, .slice Ao62 t965.length co62]] ?_
       with_reducible refine (spec_ResSame.calls k t960 _ _ t961 t964 _ _ t965 t977 _ ?side1 ?side2 ?side3 ?side4 A82.out).mono ?_
       (case side1 => repeat (first | exact (Kd.R_reads' HO963.out).2.2 | (with_reducible refine Kd.C_alloc ?_ _) | (with_reducible refine Kd.C_drewN ?_ _) | (with_reducible refine Kd.C_drew ?_)))
       (case side2 => exact (Kd.R_reads' HO963.out).2.1)
       (case side3 => repeat (first | exact (Kd.R_reads' HO967.out).2.2 | (with_reducible refine Kd.C_alloc ?_ _) | (with_reducible refine Kd.C_drewN ?_ _) | (with_reducible refine Kd.C_drew ?_)))
       (case side4 => exact (Kd.R_reads' HO967.out).2.1)
       rintro e w95 ⟨rfl, hb⟩
       refine ⟨_, rfl, ?_⟩
       replace HO937 := rb HO937 hb
       replace HO945 := rb HO945 hb
       replace HO952 := rb HO952 hb
       replace HO957 := rb HO957 hb
       replace HO963 := rb HO963 hb
       replace HO967 := rb HO967 hb
       replace BK946 := bb BK946 hb
       replace BK947 := bb BK947 hb
       replace BK948 := bb BK948 hb
       replace BK954 := bb BK954 hb
       replace BK959 := bb BK959 hb
       replace BK968 := bb BK968 hb
       replace BK969 := bb BK969 hb
       replace BK973 := bb BK973 hb
       replace HB := bs HB hb
       (try clear hb)
       (try clear hb2)
       (try clear hk)
       (try clear hi)
       refine hK.out _ _ ⟨cz BK946 0, cz BK946 1, cz BK947 0, cz BK947 1, cz BK947 2, cz BK948 0, cz BK948 1, cz BK954 0, cz BK954 1, cz BK959 0, cz BK959 1, cz BK968 0, cz BK968 1, cz BK969 0, cz BK969 1, cz BK973 0, cz BK973 1, cz BK973 2⟩ (fun hHeld => ?_)
       clear hK K
       refine nm 66 ?_
       refine pu 28 67 ?_
       refine pu 29 68 ?_
       refine pu 30 69 ?_
       refine ta 31 70 ?_
       refine ta 33 72 ?_
       refine one_ (i := 32) (N := some 71) #[true, true, true, true, true, true, true, true, true, true, true, true, true, true, true, true, true, true, true, true, true, true, true, true, true, true, true, true, true, true, true, true, true, true, false, false, false] rfl rfl (one_of HT_.out (by kernel_rfl)) (by decide) (fun K hK => ?_)
       refine gS Try.func53 #[.agg #[.int .i64 t970, .int .i64 t971, .int .i64 t972]] ?_
       with_reducible refine (impl_OpOk.calls k t970 t971 t972 t978 _ A89.out).mono ?_
       rintro e w96 ⟨rfl, hb⟩
       refine ⟨_, rfl, ?_⟩
       replace HO937 := rb HO937 hb
       replace HO945 := rb HO945 hb
       replace HO952 := rb HO952 hb
       replace HO957 := rb HO957 hb
       replace HO963 := rb HO963 hb
       replace HO967 := rb HO967 hb
       replace BK946 := bb BK946 hb
       replace BK947 := bb BK947 hb
       replace BK948 := bb BK948 hb
       replace BK954 := bb BK954 hb
       replace BK959 := bb BK959 hb
       replace BK968 := bb BK968 hb
       replace BK969 := bb BK969 hb
       replace BK973 := bb BK973 hb
       replace HB := bs HB hb
       (try clear hb)
       (try clear hb2)
       (try clear hk)
       (try clear hi)
       refine hK.out _ _ ⟨cz BK946 0, cz BK946 1, cz BK947 0, cz BK947 1, cz BK947 2, cz BK948 0, cz BK948 1, cz BK954 0, cz BK954 1, cz BK959 0, cz BK959 1, cz BK968 0, cz BK968 1, cz BK969 0, cz BK969 1, cz BK973 0, cz BK973 1, cz BK973 2⟩ (fun hHeld => ?_)
       clear hK K
       refine nm 71 ?_
       refine one_ (i := 34) (N := some 73) #[true, true, true, true, true, true, true, true, true, true, true, true, true, true, true, true, true, true, true, true, true, true, true, true, true, true, true, true, true, true, true, true, true, true, true, false, false] rfl rfl (one_of HT_.out (by kernel_rfl)) (by decide) (fun K hK => ?_)
       refine gS Try.func54 #[.agg #[.int .i64 t970, .int .i64 t971, .int .i64 t972]] ?_
       with_reducible refine (spec_OpOk.calls k t970 t971 t972 t979 _ A90.out).mono ?_
       rintro e w97 ⟨rfl, hb⟩
       refine ⟨_, rfl, ?_⟩
       replace HO937 := rb HO937 hb
       replace HO945 := rb HO945 hb
       replace HO952 := rb HO952 hb
       replace HO957 := rb HO957 hb
       replace HO963 := rb HO963 hb
       replace HO967 := rb HO967 hb
       replace BK946 := bb BK946 hb
       replace BK947 := bb BK947 hb
       replace BK948 := bb BK948 hb
       replace BK954 := bb BK954 hb
       replace BK959 := bb BK959 hb
       replace BK968 := bb BK968 hb
       replace BK969 := bb BK969 hb
       replace BK973 := bb BK973 hb
       replace HB := bs HB hb
       (try clear hb)
       (try clear hb2)
       (try clear hk)
       (try clear hi)
       refine hK.out _ _ ⟨cz BK946 0, cz BK946 1, cz BK947 0, cz BK947 1, cz BK947 2, cz BK948 0, cz BK948 1, cz BK954 0, cz BK954 1, cz BK959 0, cz BK959 1, cz BK968 0, cz BK968 1, cz BK969 0, cz BK969 1, cz BK973 0, cz BK973 1, cz BK973 2⟩ (fun hHeld => ?_)
       clear hK K
       refine nm 73 ?_
       refine pu 35 74 ?_
       refine pu 36 75 ?_
       refine done_ (done_of HT_.out (by kernel_rfl)) ?_
       try go_wp2
       go_meet
       case rel => exact ⟨_, ((t978 != t979)), (by first | rfl | (simp; done) | (simp [*]; done)), H', ⟨by first | omega | exact Nat.le_refl _⟩, ⟨kr HO937.out⟩, ⟨kr HO945.out⟩, ⟨kr HO952.out⟩, ⟨kr HO957.out⟩, ⟨kr HO963.out⟩, ⟨kr HO967.out⟩, ⟨by (with_reducible repeat (first | refine blk_drewN ?_ _ | refine blk_drew ?_ | refine blk_alloc ?_ _)); exact BK946.out⟩, ⟨by (with_reducible repeat (first | refine blk_drewN ?_ _ | refine blk_drew ?_ | refine blk_alloc ?_ _)); exact BK947.out⟩, ⟨by (with_reducible repeat (first | refine blk_drewN ?_ _ | refine blk_drew ?_ | refine blk_alloc ?_ _)); exact BK948.out⟩, ⟨by (with_reducible repeat (first | refine blk_drewN ?_ _ | refine blk_drew ?_ | refine blk_alloc ?_ _)); exact BK954.out⟩, ⟨by (with_reducible repeat (first | refine blk_drewN ?_ _ | refine blk_drew ?_ | refine blk_alloc ?_ _)); exact BK959.out⟩, ⟨by (with_reducible repeat (first | refine blk_drewN ?_ _ | refine blk_drew ?_ | refine blk_alloc ?_ _)); exact BK968.out⟩, ⟨by (with_reducible repeat (first | refine blk_drewN ?_ _ | refine blk_drew ?_ | refine blk_alloc ?_ _)); exact BK969.out⟩, ⟨by (with_reducible repeat (first | refine blk_drewN ?_ _ | refine blk_drew ?_ | refine blk_alloc ?_ _)); exact BK973.out⟩, ⟨tb HB⟩⟩
     ·rw [if_neg c80] at H
      have c80b0 : (t953 == t958) = false := beq_eq_false_iff_ne.mpr c80
      have c80b1 : (t953 != t958) = true := bne_iff_ne.mpr c80
      have H' := Aside0.mk H
      clear H
      try go_wp2
      have n0_ : Aside0 (Kd.R (Kd.int .i64) 3 (((w64.setCell ⟨gb973, 0, none⟩ (.int .i64 t970)).setCell ⟨gb973, 1, none⟩ (.int .i64 t971)).setCell ⟨gb973, 2, none⟩ (.int .i64 t972)) w.heap.size (fun k_ => some k_ ≠ (.slice Ao22 t943.length co22 : Value).ownBlock ∧ some k_ ≠ (.slice Ao29 t950.length co29 : Value).ownBlock ∧ some k_ ≠ (.slice Ao39 t955.length co39 : Value).ownBlock ∧ some k_ ≠ (.slice Ao55 t961.length co55 : Value).ownBlock ∧ some k_ ≠ (.slice Ao62 t965.length co62 : Value).ownBlock) (.slice Ao15 t935.length co15) t935) := ⟨by (with_reducible repeat (first | apply Kd.R_alloc | apply Kd.R_drewN | apply Kd.R_drew)); exact Kd.R_mono (Kd.R_far (p := ⟨gb973, 2, none⟩) (Kd.R_far (p := ⟨gb973, 1, none⟩) (Kd.R_far (p := ⟨gb973, 0, none⟩) (Kd.R_types HO937.out BK973.out (by decide)) (fun _ hk => hk.2) (.int .i64 t970)) (fun _ hk => hk.2) (.int .i64 t971)) (fun _ hk => hk.2) (.int .i64 t972)) (fun _ hk => ⟨hk.1.1.1.1.1, ⟨hk.1.1.1.1.2, ⟨hk.1.1.1.2, ⟨hk.1.1.2, hk.1.2⟩⟩⟩⟩)⟩
      have n1_ : Aside0 (Kd.R (Kd.int .i64) 3 (((w64.setCell ⟨gb973, 0, none⟩ (.int .i64 t970)).setCell ⟨gb973, 1, none⟩ (.int .i64 t971)).setCell ⟨gb973, 2, none⟩ (.int .i64 t972)) w.heap.size (fun k_ => some k_ ≠ (.slice Ao15 t935.length co15 : Value).ownBlock ∧ some k_ ≠ (.slice Ao29 t950.length co29 : Value).ownBlock ∧ some k_ ≠ (.slice Ao39 t955.length co39 : Value).ownBlock ∧ some k_ ≠ (.slice Ao55 t961.length co55 : Value).ownBlock ∧ some k_ ≠ (.slice Ao62 t965.length co62 : Value).ownBlock) (.slice Ao22 t943.length co22) t943) := ⟨by (with_reducible repeat (first | apply Kd.R_alloc | apply Kd.R_drewN | apply Kd.R_drew)); exact Kd.R_mono (Kd.R_far (p := ⟨gb973, 2, none⟩) (Kd.R_far (p := ⟨gb973, 1, none⟩) (Kd.R_far (p := ⟨gb973, 0, none⟩) (Kd.R_types HO945.out BK973.out (by decide)) (fun _ hk => hk.2) (.int .i64 t970)) (fun _ hk => hk.2) (.int .i64 t971)) (fun _ hk => hk.2) (.int .i64 t972)) (fun _ hk => ⟨hk.1.1.1.1.1, ⟨hk.1.1.1.1.2, ⟨hk.1.1.1.2, ⟨hk.1.1.2, hk.1.2⟩⟩⟩⟩)⟩
      have n2_ : Aside0 (Kd.R (Kd.int .i64) 3 (((w64.setCell ⟨gb973, 0, none⟩ (.int .i64 t970)).setCell ⟨gb973, 1, none⟩ (.int .i64 t971)).setCell ⟨gb973, 2, none⟩ (.int .i64 t972)) w.heap.size (fun k_ => some k_ ≠ (.slice Ao15 t935.length co15 : Value).ownBlock ∧ some k_ ≠ (.slice Ao22 t943.length co22 : Value).ownBlock ∧ some k_ ≠ (.slice Ao39 t955.length co39 : Value).ownBlock ∧ some k_ ≠ (.slice Ao55 t961.length co55 : Value).ownBlock ∧ some k_ ≠ (.slice Ao62 t965.length co62 : Value).ownBlock) (.slice Ao29 t950.length co29) t950) := ⟨by (with_reducible repeat (first | apply Kd.R_alloc | apply Kd.R_drewN | apply Kd.R_drew)); exact Kd.R_mono (Kd.R_far (p := ⟨gb973, 2, none⟩) (Kd.R_far (p := ⟨gb973, 1, none⟩) (Kd.R_far (p := ⟨gb973, 0, none⟩) (Kd.R_types HO952.out BK973.out (by decide)) (fun _ hk => hk.2) (.int .i64 t970)) (fun _ hk => hk.2) (.int .i64 t971)) (fun _ hk => hk.2) (.int .i64 t972)) (fun _ hk => ⟨hk.1.1.1.1.1.2, ⟨hk.1.1.1.1.2, ⟨hk.1.1.1.2, ⟨hk.1.1.2, hk.1.2⟩⟩⟩⟩)⟩
      have n3_ : Aside0 (Kd.R (Kd.int .i64) 3 (((w64.setCell ⟨gb973, 0, none⟩ (.int .i64 t970)).setCell ⟨gb973, 1, none⟩ (.int .i64 t971)).setCell ⟨gb973, 2, none⟩ (.int .i64 t972)) w.heap.size (fun k_ => some k_ ≠ (.slice Ao15 t935.length co15 : Value).ownBlock ∧ some k_ ≠ (.slice Ao22 t943.length co22 : Value).ownBlock ∧ some k_ ≠ (.slice Ao29 t950.length co29 : Value).ownBlock ∧ some k_ ≠ (.slice Ao55 t961.length co55 : Value).ownBlock ∧ some k_ ≠ (.slice Ao62 t965.length co62 : Value).ownBlock) (.slice Ao39 t955.length co39) t955) := ⟨by (with_reducible repeat (first | apply Kd.R_alloc | apply Kd.R_drewN | apply Kd.R_drew)); exact Kd.R_mono (Kd.R_far (p := ⟨gb973, 2, none⟩) (Kd.R_far (p := ⟨gb973, 1, none⟩) (Kd.R_far (p := ⟨gb973, 0, none⟩) (Kd.R_types HO957.out BK973.out (by decide)) (fun _ hk => hk.2) (.int .i64 t970)) (fun _ hk => hk.2) (.int .i64 t971)) (fun _ hk => hk.2) (.int .i64 t972)) (fun _ hk => ⟨hk.1.1.1.1.1.2, ⟨hk.1.1.1.1.2, ⟨hk.1.1.1.2, ⟨hk.1.1.2, hk.1.2⟩⟩⟩⟩)⟩
      have n4_ : Aside0 (Kd.R (Kd.int .i64) 3 (((w64.setCell ⟨gb973, 0, none⟩ (.int .i64 t970)).setCell ⟨gb973, 1, none⟩ (.int .i64 t971)).setCell ⟨gb973, 2, none⟩ (.int .i64 t972)) w.heap.size (fun k_ => some k_ ≠ (.slice Ao15 t935.length co15 : Value).ownBlock ∧ some k_ ≠ (.slice Ao22 t943.length co22 : Value).ownBlock ∧ some k_ ≠ (.slice Ao29 t950.length co29 : Value).ownBlock ∧ some k_ ≠ (.slice Ao39 t955.length co39 : Value).ownBlock ∧ some k_ ≠ (.slice Ao62 t965.length co62 : Value).ownBlock) (.slice Ao55 t961.length co55) t961) := ⟨by (with_reducible repeat (first | apply Kd.R_alloc | apply Kd.R_drewN | apply Kd.R_drew)); exact Kd.R_mono (Kd.R_far (p := ⟨gb973, 2, none⟩) (Kd.R_far (p := ⟨gb973, 1, none⟩) (Kd.R_far (p := ⟨gb973, 0, none⟩) (Kd.R_types HO963.out BK973.out (by decide)) (fun _ hk => hk.2) (.int .i64 t970)) (fun _ hk => hk.2) (.int .i64 t971)) (fun _ hk => hk.2) (.int .i64 t972)) (fun _ hk => ⟨hk.1.1.1.1.2, ⟨hk.1.1.1.2, ⟨hk.1.1.2, ⟨hk.1.2, hk.1.1.1.1.1⟩⟩⟩⟩)⟩
      have n5_ : Aside0 (Kd.R (Kd.int .i64) 3 (((w64.setCell ⟨gb973, 0, none⟩ (.int .i64 t970)).setCell ⟨gb973, 1, none⟩ (.int .i64 t971)).setCell ⟨gb973, 2, none⟩ (.int .i64 t972)) w.heap.size (fun k_ => some k_ ≠ (.slice Ao15 t935.length co15 : Value).ownBlock ∧ some k_ ≠ (.slice Ao22 t943.length co22 : Value).ownBlock ∧ some k_ ≠ (.slice Ao29 t950.length co29 : Value).ownBlock ∧ some k_ ≠ (.slice Ao39 t955.length co39 : Value).ownBlock ∧ some k_ ≠ (.slice Ao55 t961.length co55 : Value).ownBlock) (.slice Ao62 t965.length co62) t965) := ⟨by (with_reducible repeat (first | apply Kd.R_alloc | apply Kd.R_drewN | apply Kd.R_drew)); exact Kd.R_mono (Kd.R_far (p := ⟨gb973, 2, none⟩) (Kd.R_far (p := ⟨gb973, 1, none⟩) (Kd.R_far (p := ⟨gb973, 0, none⟩) (Kd.R_types HO967.out BK973.out (by decide)) (fun _ hk => hk.2) (.int .i64 t970)) (fun _ hk => hk.2) (.int .i64 t971)) (fun _ hk => hk.2) (.int .i64 t972)) (fun _ hk => ⟨hk.1.1.1.1.2, ⟨hk.1.1.1.2, ⟨hk.1.1.2, ⟨hk.1.2, hk.1.1.1.1.1⟩⟩⟩⟩)⟩
      have n6_ : Aside0 ((((w64.setCell ⟨gb973, 0, none⟩ (.int .i64 t970)).setCell ⟨gb973, 1, none⟩ (.int .i64 t971)).setCell ⟨gb973, 2, none⟩ (.int .i64 t972)).heap[gb946]? = some (.cells #[.slice Ao15 t935.length co15, .int .i64 t938] 65 (0, 0))) := ⟨bf BK946⟩
      have n7_ : Aside0 ((((w64.setCell ⟨gb973, 0, none⟩ (.int .i64 t970)).setCell ⟨gb973, 1, none⟩ (.int .i64 t971)).setCell ⟨gb973, 2, none⟩ (.int .i64 t972)).heap[gb947]? = some (.cells #[.int .i64 t939, .int .i64 t940, .int .i64 t941] 68 (0, 0))) := ⟨bf BK947⟩
      have n8_ : Aside0 ((((w64.setCell ⟨gb973, 0, none⟩ (.int .i64 t970)).setCell ⟨gb973, 1, none⟩ (.int .i64 t971)).setCell ⟨gb973, 2, none⟩ (.int .i64 t972)).heap[gb948]? = some (.cells #[.int .i64 t942, .slice Ao22 t943.length co22] 70 (0, 0))) := ⟨bf BK948⟩
      have n9_ : Aside0 ((((w64.setCell ⟨gb973, 0, none⟩ (.int .i64 t970)).setCell ⟨gb973, 1, none⟩ (.int .i64 t971)).setCell ⟨gb973, 2, none⟩ (.int .i64 t972)).heap[gb954]? = some (.cells #[.slice Ao29 t950.length co29, .int .i64 t953] 65 (0, 0))) := ⟨bf BK954⟩
      have n10_ : Aside0 ((((w64.setCell ⟨gb973, 0, none⟩ (.int .i64 t970)).setCell ⟨gb973, 1, none⟩ (.int .i64 t971)).setCell ⟨gb973, 2, none⟩ (.int .i64 t972)).heap[gb959]? = some (.cells #[.slice Ao39 t955.length co39, .int .i64 t958] 65 (0, 0))) := ⟨bf BK959⟩
      have n11_ : Aside0 ((((w64.setCell ⟨gb973, 0, none⟩ (.int .i64 t970)).setCell ⟨gb973, 1, none⟩ (.int .i64 t971)).setCell ⟨gb973, 2, none⟩ (.int .i64 t972)).heap[gb968]? = some (.cells #[.int .i64 t960, .slice Ao55 t961.length co55] 70 (0, 0))) := ⟨bf BK968⟩
      have n12_ : Aside0 ((((w64.setCell ⟨gb973, 0, none⟩ (.int .i64 t970)).setCell ⟨gb973, 1, none⟩ (.int .i64 t971)).setCell ⟨gb973, 2, none⟩ (.int .i64 t972)).heap[gb969]? = some (.cells #[.int .i64 t964, .slice Ao62 t965.length co62] 70 (0, 0))) := ⟨bf BK969⟩
      have n13_ : Aside0 ((((w64.setCell ⟨gb973, 0, none⟩ (.int .i64 t970)).setCell ⟨gb973, 1, none⟩ (.int .i64 t971)).setCell ⟨gb973, 2, none⟩ (.int .i64 t972)).heap[gb973]? = some (.cells #[.int .i64 t970, .int .i64 t971, .int .i64 t972] 68 (0, 0))) := ⟨by (with_reducible repeat (first | refine blk_drewN ?_ _ | refine blk_drew ?_ | refine blk_alloc ?_ _)); refine blk_put (cs := #[.int .i64 t970, .int .i64 t971, .int .i64 0]) ?_ 2 _ rfl; (with_reducible repeat (first | refine blk_drewN ?_ _ | refine blk_drew ?_ | refine blk_alloc ?_ _)); refine blk_put (cs := #[.int .i64 t970, .int .i64 0, .int .i64 0]) ?_ 1 _ rfl; (with_reducible repeat (first | refine blk_drewN ?_ _ | refine blk_drew ?_ | refine blk_alloc ?_ _)); refine blk_put (cs := #[.int .i64 0, .int .i64 0, .int .i64 0]) ?_ 0 _ rfl; (with_reducible repeat (first | refine blk_drewN ?_ _ | refine blk_drew ?_ | refine blk_alloc ?_ _)); exact BK973.out⟩
      have n14_ : Aside0 (Below w.heap.size w (((w64.setCell ⟨gb973, 0, none⟩ (.int .i64 t970)).setCell ⟨gb973, 1, none⟩ (.int .i64 t971)).setCell ⟨gb973, 2, none⟩ (.int .i64 t972))) := ⟨tb HB⟩
      (try clear HO937)
      (try clear HO945)
      (try clear HO952)
      (try clear HO957)
      (try clear HO963)
      (try clear HO967)
      (try clear BK946)
      (try clear BK947)
      (try clear BK948)
      (try clear BK954)
      (try clear BK959)
      (try clear BK968)
      (try clear BK969)
      (try clear BK973)
      (try clear HB)
      generalize (((w64.setCell ⟨gb973, 0, none⟩ (.int .i64 t970)).setCell ⟨gb973, 1, none⟩ (.int .i64 t971)).setCell ⟨gb973, 2, none⟩ (.int .i64 t972)) = w98 at n0_ n1_ n2_ n3_ n4_ n5_ n6_ n7_ n8_ n9_ n10_ n11_ n12_ n13_ n14_ ⊢
      have HO937 := n0_
      have HO945 := n1_
      have HO952 := n2_
      have HO957 := n3_
      have HO963 := n4_
      have HO967 := n5_
      have BK946 := n6_
      have BK947 := n7_
      have BK948 := n8_
      have BK954 := n9_
      have BK959 := n10_
      have BK968 := n11_
      have BK969 := n12_
      have BK973 := n13_
      have HB := n14_
      clear n0_ n1_ n2_ n3_ n4_ n5_ n6_ n7_ n8_ n9_ n10_ n11_ n12_ n13_ n14_
      replace HO937 := rd_ HO937
      replace HO945 := rd_ HO945
      replace HO952 := rd_ HO952
      replace HO957 := rd_ HO957
      replace HO963 := rd_ HO963
      replace HO967 := rd_ HO967
      replace BK946 := bd BK946
      replace BK947 := bd BK947
      replace BK948 := bd BK948
      replace BK954 := bd BK954
      replace BK959 := bd BK959
      replace BK968 := bd BK968
      replace BK969 := bd BK969
      replace BK973 := bd BK973
      replace HB := Aside0.mk (below_drew1 HB.out)
      refine start_ (n := 37) (S := fun w' => w'.cell? ⟨gb946, 0, none⟩ = some (.slice Ao15 t935.length co15) ∧ w'.cell? ⟨gb946, 1, none⟩ = some (.int .i64 t938) ∧ w'.cell? ⟨gb947, 0, none⟩ = some (.int .i64 t939) ∧ w'.cell? ⟨gb947, 1, none⟩ = some (.int .i64 t940) ∧ w'.cell? ⟨gb947, 2, none⟩ = some (.int .i64 t941) ∧ w'.cell? ⟨gb948, 0, none⟩ = some (.int .i64 t942) ∧ w'.cell? ⟨gb948, 1, none⟩ = some (.slice Ao22 t943.length co22) ∧ w'.cell? ⟨gb954, 0, none⟩ = some (.slice Ao29 t950.length co29) ∧ w'.cell? ⟨gb954, 1, none⟩ = some (.int .i64 t953) ∧ w'.cell? ⟨gb959, 0, none⟩ = some (.slice Ao39 t955.length co39) ∧ w'.cell? ⟨gb959, 1, none⟩ = some (.int .i64 t958)) (ds := []) #[false, false, false, false, false, false, false, false, false, false, false, false, false, false, false, false, false, false, false, false, false, false, false, false, false, false, false, false, false, false, false, false, false, false, false, false, false] (by kernel_rfl) rfl rfl ⟨cz BK946 0, cz BK946 1, cz BK947 0, cz BK947 1, cz BK947 2, cz BK948 0, cz BK948 1, cz BK954 0, cz BK954 1, cz BK959 0, cz BK959 1⟩ (fun hHeld => ?_); refine with_tabW laws_FnAllowed.tab9 laws_FnAllowed.bits9 (fun HT_ HW_ => ?_)
      generalize w98.drew = w99 at HO937 HO945 HO952 HO957 HO963 HO967 BK946 BK947 BK948 BK954 BK959 BK968 BK969 BK973 HB hHeld ⊢
      refine pu 0 39 ?_
      refine ta 1 40 ?_
      refine ta 2 41 ?_
      refine ta 3 42 ?_
      refine one_ (i := 4) (N := some 43) #[true, true, true, true, true, false, false, false, false, false, false, false, false, false, false, false, false, false, false, false, false, false, false, false, false, false, false, false, false, false, false, false, false, false, false, false, false] rfl rfl (one_of HT_.out (by kernel_rfl)) (by decide) (fun K hK => ?_)
      refine gS Try.func49 #[.agg #[.slice Ao15 t935.length co15, .int .i64 t938], .agg #[.int .i64 t939, .int .i64 t940, .int .i64 t941], .agg #[.int .i64 t942, .slice Ao22 t943.length co22]] ?_
      with_reducible refine (spec_Allowed.calls k _ _ t935 t938 t939 t940 t941 t942 _ _ t943 t974 _ ?side1 ?side2 ?side3 ?side4 A73.out).mono ?_
      (case side1 => repeat (first | exact (Kd.R_reads' HO937.out).2.2 | (with_reducible refine Kd.C_alloc ?_ _) | (with_reducible refine Kd.C_drewN ?_ _) | (with_reducible refine Kd.C_drew ?_)))
      (case side2 => exact (Kd.R_reads' HO937.out).2.1)
      (case side3 => repeat (first | exact (Kd.R_reads' HO945.out).2.2 | (with_reducible refine Kd.C_alloc ?_ _) | (with_reducible refine Kd.C_drewN ?_ _) | (with_reducible refine Kd.C_drew ?_)))
      (case side4 => exact (Kd.R_reads' HO945.out).2.1)
      rintro e w100 ⟨rfl, hb⟩
      refine ⟨_, rfl, ?_⟩
      replace HO937 := rb HO937 hb
      replace HO945 := rb HO945 hb
      replace HO952 := rb HO952 hb
      replace HO957 := rb HO957 hb
      replace HO963 := rb HO963 hb
      replace HO967 := rb HO967 hb
      replace BK946 := bb BK946 hb
      replace BK947 := bb BK947 hb
      replace BK948 := bb BK948 hb
      replace BK954 := bb BK954 hb
      replace BK959 := bb BK959 hb
      replace BK968 := bb BK968 hb
      replace BK969 := bb BK969 hb
      replace BK973 := bb BK973 hb
      replace HB := bs HB hb
      (try clear hb)
      (try clear hb2)
      (try clear hk)
      (try clear hi)
      refine hK.out _ _ ⟨cz BK946 0, cz BK946 1, cz BK947 0, cz BK947 1, cz BK947 2, cz BK948 0, cz BK948 1, cz BK954 0, cz BK954 1, cz BK959 0, cz BK959 1⟩ (fun hHeld => ?_)
      clear hK K
      refine nm 43 ?_
      refine pu 5 44 ?_
      refine pu 6 45 ?_
      refine pu 7 46 ?_
      refine pu 9 48 ?_
      refine ta 8 47 ?_
      refine ta 10 49 ?_
      refine one_ (i := 11) (N := some 50) #[true, true, true, true, true, true, true, true, true, true, true, true, false, false, false, false, false, false, false, false, false, false, false, false, false, false, false, false, false, false, false, false, false, false, false, false, false] rfl rfl (one_of HT_.out (by kernel_rfl)) (by decide) (fun K hK => ?_)
      refine gS Try.func50 #[.slice Ao29 t950.length co29, .slice Ao39 t955.length co39] ?_
      with_reducible refine (laws_sameInts.calls k _ _ t950 _ _ t955 true _ ?side1 ?side2 ?side3 ?side4 A78.out).mono ?_
      (case side1 => repeat (first | exact (Kd.R_reads' HO952.out).2.2 | (with_reducible refine Kd.C_alloc ?_ _) | (with_reducible refine Kd.C_drewN ?_ _) | (with_reducible refine Kd.C_drew ?_)))
      (case side2 => exact (Kd.R_reads' HO952.out).2.1)
      (case side3 => repeat (first | exact (Kd.R_reads' HO957.out).2.2 | (with_reducible refine Kd.C_alloc ?_ _) | (with_reducible refine Kd.C_drewN ?_ _) | (with_reducible refine Kd.C_drew ?_)))
      (case side4 => exact (Kd.R_reads' HO957.out).2.1)
      rintro e w' ⟨rfl, ⟨nd, rfl⟩⟩
      refine ⟨_, rfl, ?_⟩
      refine hK.out _ _ ⟨cz BK946 0, cz BK946 1, cz BK947 0, cz BK947 1, cz BK947 2, cz BK948 0, cz BK948 1, cz BK954 0, cz BK954 1, cz BK959 0, cz BK959 1⟩ (fun hHeld => ?_)
      clear hK K
      refine nm 50 ?_
      refine pu 12 51 ?_
      refine pu 13 52 ?_
      refine pu 14 53 ?_
      refine pu 15 54 ?_
      refine pu 17 56 ?_
      refine ta 16 55 ?_
      refine ta 18 57 ?_
      refine pu 19 58 ?_
      refine pu 20 59 ?_
      refine pu 21 60 ?_
      refine pn 22 61 ?_
      refine pn 23 62 ?_
      refine pn 24 63 ?_
      refine pn 25 64 ?_
      refine pn 26 65 ?_
      refine pn 27 66 ?_
      refine pn 28 67 ?_
      refine pu 29 68 ?_
      refine pu 30 69 ?_
      refine pn 31 70 ?_
      refine pn 32 71 ?_
      refine pn 33 72 ?_
      refine pn 34 73 ?_
      refine pn 35 74 ?_
      refine pu 36 75 ?_
      refine done_ (done_of HT_.out (by kernel_rfl)) ?_
      try go_wp2
      go_meet
      case rel => exact ⟨_, (true), (by first | rfl | (simp; done) | (simp [*]; done)), H', ⟨by first | omega | exact Nat.le_refl _⟩, ⟨kr HO937.out⟩, ⟨kr HO945.out⟩, ⟨kr HO952.out⟩, ⟨kr HO957.out⟩, ⟨kr HO963.out⟩, ⟨kr HO967.out⟩, ⟨by (with_reducible repeat (first | refine blk_drewN ?_ _ | refine blk_drew ?_ | refine blk_alloc ?_ _)); exact BK946.out⟩, ⟨by (with_reducible repeat (first | refine blk_drewN ?_ _ | refine blk_drew ?_ | refine blk_alloc ?_ _)); exact BK947.out⟩, ⟨by (with_reducible repeat (first | refine blk_drewN ?_ _ | refine blk_drew ?_ | refine blk_alloc ?_ _)); exact BK948.out⟩, ⟨by (with_reducible repeat (first | refine blk_drewN ?_ _ | refine blk_drew ?_ | refine blk_alloc ?_ _)); exact BK954.out⟩, ⟨by (with_reducible repeat (first | refine blk_drewN ?_ _ | refine blk_drew ?_ | refine blk_alloc ?_ _)); exact BK959.out⟩, ⟨by (with_reducible repeat (first | refine blk_drewN ?_ _ | refine blk_drew ?_ | refine blk_alloc ?_ _)); exact BK968.out⟩, ⟨by (with_reducible repeat (first | refine blk_drewN ?_ _ | refine blk_drew ?_ | refine blk_alloc ?_ _)); exact BK969.out⟩, ⟨by (with_reducible repeat (first | refine blk_drewN ?_ _ | refine blk_drew ?_ | refine blk_alloc ?_ _)); exact BK973.out⟩, ⟨tb HB⟩⟩
    ·replace c79 := Bool.eq_false_iff.mpr c79
     subst c79
     have H1 : (laws_FnAllowed.j0 k t949 true t935 t938 t942 t943 t950 t953) = some r := by rw [if_neg (show ¬ (false = true) by decide)] at H; exact H
     clear H
     have H := H1
     clear H1
     have H' := Aside0.mk H
     clear H
     try go_wp2
     have n0_ : Aside0 (Kd.R (Kd.int .i64) 3 (((w64.setCell ⟨gb973, 0, none⟩ (.int .i64 t970)).setCell ⟨gb973, 1, none⟩ (.int .i64 t971)).setCell ⟨gb973, 2, none⟩ (.int .i64 t972)) w.heap.size (fun k_ => some k_ ≠ (.slice Ao22 t943.length co22 : Value).ownBlock ∧ some k_ ≠ (.slice Ao29 t950.length co29 : Value).ownBlock ∧ some k_ ≠ (.slice Ao39 t955.length co39 : Value).ownBlock ∧ some k_ ≠ (.slice Ao55 t961.length co55 : Value).ownBlock ∧ some k_ ≠ (.slice Ao62 t965.length co62 : Value).ownBlock) (.slice Ao15 t935.length co15) t935) := ⟨by (with_reducible repeat (first | apply Kd.R_alloc | apply Kd.R_drewN | apply Kd.R_drew)); exact Kd.R_mono (Kd.R_far (p := ⟨gb973, 2, none⟩) (Kd.R_far (p := ⟨gb973, 1, none⟩) (Kd.R_far (p := ⟨gb973, 0, none⟩) (Kd.R_types HO937.out BK973.out (by decide)) (fun _ hk => hk.2) (.int .i64 t970)) (fun _ hk => hk.2) (.int .i64 t971)) (fun _ hk => hk.2) (.int .i64 t972)) (fun _ hk => ⟨hk.1.1.1.1.1, ⟨hk.1.1.1.1.2, ⟨hk.1.1.1.2, ⟨hk.1.1.2, hk.1.2⟩⟩⟩⟩)⟩
     have n1_ : Aside0 (Kd.R (Kd.int .i64) 3 (((w64.setCell ⟨gb973, 0, none⟩ (.int .i64 t970)).setCell ⟨gb973, 1, none⟩ (.int .i64 t971)).setCell ⟨gb973, 2, none⟩ (.int .i64 t972)) w.heap.size (fun k_ => some k_ ≠ (.slice Ao15 t935.length co15 : Value).ownBlock ∧ some k_ ≠ (.slice Ao29 t950.length co29 : Value).ownBlock ∧ some k_ ≠ (.slice Ao39 t955.length co39 : Value).ownBlock ∧ some k_ ≠ (.slice Ao55 t961.length co55 : Value).ownBlock ∧ some k_ ≠ (.slice Ao62 t965.length co62 : Value).ownBlock) (.slice Ao22 t943.length co22) t943) := ⟨by (with_reducible repeat (first | apply Kd.R_alloc | apply Kd.R_drewN | apply Kd.R_drew)); exact Kd.R_mono (Kd.R_far (p := ⟨gb973, 2, none⟩) (Kd.R_far (p := ⟨gb973, 1, none⟩) (Kd.R_far (p := ⟨gb973, 0, none⟩) (Kd.R_types HO945.out BK973.out (by decide)) (fun _ hk => hk.2) (.int .i64 t970)) (fun _ hk => hk.2) (.int .i64 t971)) (fun _ hk => hk.2) (.int .i64 t972)) (fun _ hk => ⟨hk.1.1.1.1.1, ⟨hk.1.1.1.1.2, ⟨hk.1.1.1.2, ⟨hk.1.1.2, hk.1.2⟩⟩⟩⟩)⟩
     have n2_ : Aside0 (Kd.R (Kd.int .i64) 3 (((w64.setCell ⟨gb973, 0, none⟩ (.int .i64 t970)).setCell ⟨gb973, 1, none⟩ (.int .i64 t971)).setCell ⟨gb973, 2, none⟩ (.int .i64 t972)) w.heap.size (fun k_ => some k_ ≠ (.slice Ao15 t935.length co15 : Value).ownBlock ∧ some k_ ≠ (.slice Ao22 t943.length co22 : Value).ownBlock ∧ some k_ ≠ (.slice Ao39 t955.length co39 : Value).ownBlock ∧ some k_ ≠ (.slice Ao55 t961.length co55 : Value).ownBlock ∧ some k_ ≠ (.slice Ao62 t965.length co62 : Value).ownBlock) (.slice Ao29 t950.length co29) t950) := ⟨by (with_reducible repeat (first | apply Kd.R_alloc | apply Kd.R_drewN | apply Kd.R_drew)); exact Kd.R_mono (Kd.R_far (p := ⟨gb973, 2, none⟩) (Kd.R_far (p := ⟨gb973, 1, none⟩) (Kd.R_far (p := ⟨gb973, 0, none⟩) (Kd.R_types HO952.out BK973.out (by decide)) (fun _ hk => hk.2) (.int .i64 t970)) (fun _ hk => hk.2) (.int .i64 t971)) (fun _ hk => hk.2) (.int .i64 t972)) (fun _ hk => ⟨hk.1.1.1.1.1.2, ⟨hk.1.1.1.1.2, ⟨hk.1.1.1.2, ⟨hk.1.1.2, hk.1.2⟩⟩⟩⟩)⟩
     have n3_ : Aside0 (Kd.R (Kd.int .i64) 3 (((w64.setCell ⟨gb973, 0, none⟩ (.int .i64 t970)).setCell ⟨gb973, 1, none⟩ (.int .i64 t971)).setCell ⟨gb973, 2, none⟩ (.int .i64 t972)) w.heap.size (fun k_ => some k_ ≠ (.slice Ao15 t935.length co15 : Value).ownBlock ∧ some k_ ≠ (.slice Ao22 t943.length co22 : Value).ownBlock ∧ some k_ ≠ (.slice Ao29 t950.length co29 : Value).ownBlock ∧ some k_ ≠ (.slice Ao55 t961.length co55 : Value).ownBlock ∧ some k_ ≠ (.slice Ao62 t965.length co62 : Value).ownBlock) (.slice Ao39 t955.length co39) t955) := ⟨by (with_reducible repeat (first | apply Kd.R_alloc | apply Kd.R_drewN | apply Kd.R_drew)); exact Kd.R_mono (Kd.R_far (p := ⟨gb973, 2, none⟩) (Kd.R_far (p := ⟨gb973, 1, none⟩) (Kd.R_far (p := ⟨gb973, 0, none⟩) (Kd.R_types HO957.out BK973.out (by decide)) (fun _ hk => hk.2) (.int .i64 t970)) (fun _ hk => hk.2) (.int .i64 t971)) (fun _ hk => hk.2) (.int .i64 t972)) (fun _ hk => ⟨hk.1.1.1.1.1.2, ⟨hk.1.1.1.1.2, ⟨hk.1.1.1.2, ⟨hk.1.1.2, hk.1.2⟩⟩⟩⟩)⟩
     have n4_ : Aside0 (Kd.R (Kd.int .i64) 3 (((w64.setCell ⟨gb973, 0, none⟩ (.int .i64 t970)).setCell ⟨gb973, 1, none⟩ (.int .i64 t971)).setCell ⟨gb973, 2, none⟩ (.int .i64 t972)) w.heap.size (fun k_ => some k_ ≠ (.slice Ao15 t935.length co15 : Value).ownBlock ∧ some k_ ≠ (.slice Ao22 t943.length co22 : Value).ownBlock ∧ some k_ ≠ (.slice Ao29 t950.length co29 : Value).ownBlock ∧ some k_ ≠ (.slice Ao39 t955.length co39 : Value).ownBlock ∧ some k_ ≠ (.slice Ao62 t965.length co62 : Value).ownBlock) (.slice Ao55 t961.length co55) t961) := ⟨by (with_reducible repeat (first | apply Kd.R_alloc | apply Kd.R_drewN | apply Kd.R_drew)); exact Kd.R_mono (Kd.R_far (p := ⟨gb973, 2, none⟩) (Kd.R_far (p := ⟨gb973, 1, none⟩) (Kd.R_far (p := ⟨gb973, 0, none⟩) (Kd.R_types HO963.out BK973.out (by decide)) (fun _ hk => hk.2) (.int .i64 t970)) (fun _ hk => hk.2) (.int .i64 t971)) (fun _ hk => hk.2) (.int .i64 t972)) (fun _ hk => ⟨hk.1.1.1.1.2, ⟨hk.1.1.1.2, ⟨hk.1.1.2, ⟨hk.1.2, hk.1.1.1.1.1⟩⟩⟩⟩)⟩
     have n5_ : Aside0 (Kd.R (Kd.int .i64) 3 (((w64.setCell ⟨gb973, 0, none⟩ (.int .i64 t970)).setCell ⟨gb973, 1, none⟩ (.int .i64 t971)).setCell ⟨gb973, 2, none⟩ (.int .i64 t972)) w.heap.size (fun k_ => some k_ ≠ (.slice Ao15 t935.length co15 : Value).ownBlock ∧ some k_ ≠ (.slice Ao22 t943.length co22 : Value).ownBlock ∧ some k_ ≠ (.slice Ao29 t950.length co29 : Value).ownBlock ∧ some k_ ≠ (.slice Ao39 t955.length co39 : Value).ownBlock ∧ some k_ ≠ (.slice Ao55 t961.length co55 : Value).ownBlock) (.slice Ao62 t965.length co62) t965) := ⟨by (with_reducible repeat (first | apply Kd.R_alloc | apply Kd.R_drewN | apply Kd.R_drew)); exact Kd.R_mono (Kd.R_far (p := ⟨gb973, 2, none⟩) (Kd.R_far (p := ⟨gb973, 1, none⟩) (Kd.R_far (p := ⟨gb973, 0, none⟩) (Kd.R_types HO967.out BK973.out (by decide)) (fun _ hk => hk.2) (.int .i64 t970)) (fun _ hk => hk.2) (.int .i64 t971)) (fun _ hk => hk.2) (.int .i64 t972)) (fun _ hk => ⟨hk.1.1.1.1.2, ⟨hk.1.1.1.2, ⟨hk.1.1.2, ⟨hk.1.2, hk.1.1.1.1.1⟩⟩⟩⟩)⟩
     have n6_ : Aside0 ((((w64.setCell ⟨gb973, 0, none⟩ (.int .i64 t970)).setCell ⟨gb973, 1, none⟩ (.int .i64 t971)).setCell ⟨gb973, 2, none⟩ (.int .i64 t972)).heap[gb946]? = some (.cells #[.slice Ao15 t935.length co15, .int .i64 t938] 65 (0, 0))) := ⟨bf BK946⟩
     have n7_ : Aside0 ((((w64.setCell ⟨gb973, 0, none⟩ (.int .i64 t970)).setCell ⟨gb973, 1, none⟩ (.int .i64 t971)).setCell ⟨gb973, 2, none⟩ (.int .i64 t972)).heap[gb947]? = some (.cells #[.int .i64 t939, .int .i64 t940, .int .i64 t941] 68 (0, 0))) := ⟨bf BK947⟩
     have n8_ : Aside0 ((((w64.setCell ⟨gb973, 0, none⟩ (.int .i64 t970)).setCell ⟨gb973, 1, none⟩ (.int .i64 t971)).setCell ⟨gb973, 2, none⟩ (.int .i64 t972)).heap[gb948]? = some (.cells #[.int .i64 t942, .slice Ao22 t943.length co22] 70 (0, 0))) := ⟨bf BK948⟩
     have n9_ : Aside0 ((((w64.setCell ⟨gb973, 0, none⟩ (.int .i64 t970)).setCell ⟨gb973, 1, none⟩ (.int .i64 t971)).setCell ⟨gb973, 2, none⟩ (.int .i64 t972)).heap[gb954]? = some (.cells #[.slice Ao29 t950.length co29, .int .i64 t953] 65 (0, 0))) := ⟨bf BK954⟩
     have n10_ : Aside0 ((((w64.setCell ⟨gb973, 0, none⟩ (.int .i64 t970)).setCell ⟨gb973, 1, none⟩ (.int .i64 t971)).setCell ⟨gb973, 2, none⟩ (.int .i64 t972)).heap[gb959]? = some (.cells #[.slice Ao39 t955.length co39, .int .i64 t958] 65 (0, 0))) := ⟨bf BK959⟩
     have n11_ : Aside0 ((((w64.setCell ⟨gb973, 0, none⟩ (.int .i64 t970)).setCell ⟨gb973, 1, none⟩ (.int .i64 t971)).setCell ⟨gb973, 2, none⟩ (.int .i64 t972)).heap[gb968]? = some (.cells #[.int .i64 t960, .slice Ao55 t961.length co55] 70 (0, 0))) := ⟨bf BK968⟩
     have n12_ : Aside0 ((((w64.setCell ⟨gb973, 0, none⟩ (.int .i64 t970)).setCell ⟨gb973, 1, none⟩ (.int .i64 t971)).setCell ⟨gb973, 2, none⟩ (.int .i64 t972)).heap[gb969]? = some (.cells #[.int .i64 t964, .slice Ao62 t965.length co62] 70 (0, 0))) := ⟨bf BK969⟩
     have n13_ : Aside0 ((((w64.setCell ⟨gb973, 0, none⟩ (.int .i64 t970)).setCell ⟨gb973, 1, none⟩ (.int .i64 t971)).setCell ⟨gb973, 2, none⟩ (.int .i64 t972)).heap[gb973]? = some (.cells #[.int .i64 t970, .int .i64 t971, .int .i64 t972] 68 (0, 0))) := ⟨by (with_reducible repeat (first | refine blk_drewN ?_ _ | refine blk_drew ?_ | refine blk_alloc ?_ _)); refine blk_put (cs := #[.int .i64 t970, .int .i64 t971, .int .i64 0]) ?_ 2 _ rfl; (with_reducible repeat (first | refine blk_drewN ?_ _ | refine blk_drew ?_ | refine blk_alloc ?_ _)); refine blk_put (cs := #[.int .i64 t970, .int .i64 0, .int .i64 0]) ?_ 1 _ rfl; (with_reducible repeat (first | refine blk_drewN ?_ _ | refine blk_drew ?_ | refine blk_alloc ?_ _)); refine blk_put (cs := #[.int .i64 0, .int .i64 0, .int .i64 0]) ?_ 0 _ rfl; (with_reducible repeat (first | refine blk_drewN ?_ _ | refine blk_drew ?_ | refine blk_alloc ?_ _)); exact BK973.out⟩
     have n14_ : Aside0 (Below w.heap.size w (((w64.setCell ⟨gb973, 0, none⟩ (.int .i64 t970)).setCell ⟨gb973, 1, none⟩ (.int .i64 t971)).setCell ⟨gb973, 2, none⟩ (.int .i64 t972))) := ⟨tb HB⟩
     (try clear HO937)
     (try clear HO945)
     (try clear HO952)
     (try clear HO957)
     (try clear HO963)
     (try clear HO967)
     (try clear BK946)
     (try clear BK947)
     (try clear BK948)
     (try clear BK954)
     (try clear BK959)
     (try clear BK968)
     (try clear BK969)
     (try clear BK973)
     (try clear HB)
     generalize (((w64.setCell ⟨gb973, 0, none⟩ (.int .i64 t970)).setCell ⟨gb973, 1, none⟩ (.int .i64 t971)).setCell ⟨gb973, 2, none⟩ (.int .i64 t972)) = w101 at n0_ n1_ n2_ n3_ n4_ n5_ n6_ n7_ n8_ n9_ n10_ n11_ n12_ n13_ n14_ ⊢
     have HO937 := n0_
     have HO945 := n1_
     have HO952 := n2_
     have HO957 := n3_
     have HO963 := n4_
     have HO967 := n5_
     have BK946 := n6_
     have BK947 := n7_
     have BK948 := n8_
     have BK954 := n9_
     have BK959 := n10_
     have BK968 := n11_
     have BK969 := n12_
     have BK973 := n13_
     have HB := n14_
     clear n0_ n1_ n2_ n3_ n4_ n5_ n6_ n7_ n8_ n9_ n10_ n11_ n12_ n13_ n14_
     replace HO937 := rd_ HO937
     replace HO945 := rd_ HO945
     replace HO952 := rd_ HO952
     replace HO957 := rd_ HO957
     replace HO963 := rd_ HO963
     replace HO967 := rd_ HO967
     replace BK946 := bd BK946
     replace BK947 := bd BK947
     replace BK948 := bd BK948
     replace BK954 := bd BK954
     replace BK959 := bd BK959
     replace BK968 := bd BK968
     replace BK969 := bd BK969
     replace BK973 := bd BK973
     replace HB := Aside0.mk (below_drew1 HB.out)
     refine start_ (n := 37) (S := fun w' => w'.cell? ⟨gb946, 0, none⟩ = some (.slice Ao15 t935.length co15) ∧ w'.cell? ⟨gb946, 1, none⟩ = some (.int .i64 t938) ∧ w'.cell? ⟨gb947, 0, none⟩ = some (.int .i64 t939) ∧ w'.cell? ⟨gb947, 1, none⟩ = some (.int .i64 t940) ∧ w'.cell? ⟨gb947, 2, none⟩ = some (.int .i64 t941) ∧ w'.cell? ⟨gb948, 0, none⟩ = some (.int .i64 t942) ∧ w'.cell? ⟨gb948, 1, none⟩ = some (.slice Ao22 t943.length co22) ∧ w'.cell? ⟨gb954, 0, none⟩ = some (.slice Ao29 t950.length co29) ∧ w'.cell? ⟨gb954, 1, none⟩ = some (.int .i64 t953) ∧ w'.cell? ⟨gb959, 0, none⟩ = some (.slice Ao39 t955.length co39) ∧ w'.cell? ⟨gb959, 1, none⟩ = some (.int .i64 t958)) (ds := []) #[false, false, false, false, false, false, false, false, false, false, false, false, false, false, false, false, false, false, false, false, false, false, false, false, false, false, false, false, false, false, false, false, false, false, false, false, false] (by kernel_rfl) rfl rfl ⟨cz BK946 0, cz BK946 1, cz BK947 0, cz BK947 1, cz BK947 2, cz BK948 0, cz BK948 1, cz BK954 0, cz BK954 1, cz BK959 0, cz BK959 1⟩ (fun hHeld => ?_); refine with_tabW laws_FnAllowed.tab9 laws_FnAllowed.bits9 (fun HT_ HW_ => ?_)
     generalize w101.drew = w102 at HO937 HO945 HO952 HO957 HO963 HO967 BK946 BK947 BK948 BK954 BK959 BK968 BK969 BK973 HB hHeld ⊢
     refine pu 0 39 ?_
     refine ta 1 40 ?_
     refine ta 2 41 ?_
     refine ta 3 42 ?_
     refine one_ (i := 4) (N := some 43) #[true, true, true, true, true, false, false, false, false, false, false, false, false, false, false, false, false, false, false, false, false, false, false, false, false, false, false, false, false, false, false, false, false, false, false, false, false] rfl rfl (one_of HT_.out (by kernel_rfl)) (by decide) (fun K hK => ?_)
     refine gS Try.func49 #[.agg #[.slice Ao15 t935.length co15, .int .i64 t938], .agg #[.int .i64 t939, .int .i64 t940, .int .i64 t941], .agg #[.int .i64 t942, .slice Ao22 t943.length co22]] ?_
     with_reducible refine (spec_Allowed.calls k _ _ t935 t938 t939 t940 t941 t942 _ _ t943 t974 _ ?side1 ?side2 ?side3 ?side4 A73.out).mono ?_
     (case side1 => repeat (first | exact (Kd.R_reads' HO937.out).2.2 | (with_reducible refine Kd.C_alloc ?_ _) | (with_reducible refine Kd.C_drewN ?_ _) | (with_reducible refine Kd.C_drew ?_)))
     (case side2 => exact (Kd.R_reads' HO937.out).2.1)
     (case side3 => repeat (first | exact (Kd.R_reads' HO945.out).2.2 | (with_reducible refine Kd.C_alloc ?_ _) | (with_reducible refine Kd.C_drewN ?_ _) | (with_reducible refine Kd.C_drew ?_)))
     (case side4 => exact (Kd.R_reads' HO945.out).2.1)
     rintro e w103 ⟨rfl, hb⟩
     refine ⟨_, rfl, ?_⟩
     replace HO937 := rb HO937 hb
     replace HO945 := rb HO945 hb
     replace HO952 := rb HO952 hb
     replace HO957 := rb HO957 hb
     replace HO963 := rb HO963 hb
     replace HO967 := rb HO967 hb
     replace BK946 := bb BK946 hb
     replace BK947 := bb BK947 hb
     replace BK948 := bb BK948 hb
     replace BK954 := bb BK954 hb
     replace BK959 := bb BK959 hb
     replace BK968 := bb BK968 hb
     replace BK969 := bb BK969 hb
     replace BK973 := bb BK973 hb
     replace HB := bs HB hb
     (try clear hb)
     (try clear hb2)
     (try clear hk)
     (try clear hi)
     refine hK.out _ _ ⟨cz BK946 0, cz BK946 1, cz BK947 0, cz BK947 1, cz BK947 2, cz BK948 0, cz BK948 1, cz BK954 0, cz BK954 1, cz BK959 0, cz BK959 1⟩ (fun hHeld => ?_)
     clear hK K
     refine nm 43 ?_
     refine pu 5 44 ?_
     refine pu 6 45 ?_
     refine pu 7 46 ?_
     refine pu 9 48 ?_
     refine ta 8 47 ?_
     refine ta 10 49 ?_
     refine one_ (i := 11) (N := some 50) #[true, true, true, true, true, true, true, true, true, true, true, true, false, false, false, false, false, false, false, false, false, false, false, false, false, false, false, false, false, false, false, false, false, false, false, false, false] rfl rfl (one_of HT_.out (by kernel_rfl)) (by decide) (fun K hK => ?_)
     refine gS Try.func50 #[.slice Ao29 t950.length co29, .slice Ao39 t955.length co39] ?_
     with_reducible refine (laws_sameInts.calls k _ _ t950 _ _ t955 false _ ?side1 ?side2 ?side3 ?side4 A78.out).mono ?_
     (case side1 => repeat (first | exact (Kd.R_reads' HO952.out).2.2 | (with_reducible refine Kd.C_alloc ?_ _) | (with_reducible refine Kd.C_drewN ?_ _) | (with_reducible refine Kd.C_drew ?_)))
     (case side2 => exact (Kd.R_reads' HO952.out).2.1)
     (case side3 => repeat (first | exact (Kd.R_reads' HO957.out).2.2 | (with_reducible refine Kd.C_alloc ?_ _) | (with_reducible refine Kd.C_drewN ?_ _) | (with_reducible refine Kd.C_drew ?_)))
     (case side4 => exact (Kd.R_reads' HO957.out).2.1)
     rintro e w' ⟨rfl, ⟨nd, rfl⟩⟩
     refine ⟨_, rfl, ?_⟩
     refine hK.out _ _ ⟨cz BK946 0, cz BK946 1, cz BK947 0, cz BK947 1, cz BK947 2, cz BK948 0, cz BK948 1, cz BK954 0, cz BK954 1, cz BK959 0, cz BK959 1⟩ (fun hHeld => ?_)
     clear hK K
     refine nm 50 ?_
     refine pu 12 51 ?_
     refine pu 13 52 ?_
     refine pu 14 53 ?_
     refine pn 15 54 ?_
     refine pn 16 55 ?_
     refine pn 17 56 ?_
     refine pn 18 57 ?_
     refine pn 19 58 ?_
     refine pu 20 59 ?_
     refine pu 21 60 ?_
     refine pn 22 61 ?_
     refine pn 23 62 ?_
     refine pn 24 63 ?_
     refine pn 25 64 ?_
     refine pn 26 65 ?_
     refine pn 27 66 ?_
     refine pn 28 67 ?_
     refine pu 29 68 ?_
     refine pu 30 69 ?_
     refine pn 31 70 ?_
     refine pn 32 71 ?_
     refine pn 33 72 ?_
     refine pn 34 73 ?_
     refine pn 35 74 ?_
     refine pu 36 75 ?_
     refine done_ (done_of HT_.out (by kernel_rfl)) ?_
     try go_wp2
     go_meet
     case rel => exact ⟨_, (true), (by first | rfl | (simp; done) | (simp [*]; done)), H', ⟨by first | omega | exact Nat.le_refl _⟩, ⟨kr HO937.out⟩, ⟨kr HO945.out⟩, ⟨kr HO952.out⟩, ⟨kr HO957.out⟩, ⟨kr HO963.out⟩, ⟨kr HO967.out⟩, ⟨by (with_reducible repeat (first | refine blk_drewN ?_ _ | refine blk_drew ?_ | refine blk_alloc ?_ _)); exact BK946.out⟩, ⟨by (with_reducible repeat (first | refine blk_drewN ?_ _ | refine blk_drew ?_ | refine blk_alloc ?_ _)); exact BK947.out⟩, ⟨by (with_reducible repeat (first | refine blk_drewN ?_ _ | refine blk_drew ?_ | refine blk_alloc ?_ _)); exact BK948.out⟩, ⟨by (with_reducible repeat (first | refine blk_drewN ?_ _ | refine blk_drew ?_ | refine blk_alloc ?_ _)); exact BK954.out⟩, ⟨by (with_reducible repeat (first | refine blk_drewN ?_ _ | refine blk_drew ?_ | refine blk_alloc ?_ _)); exact BK959.out⟩, ⟨by (with_reducible repeat (first | refine blk_drewN ?_ _ | refine blk_drew ?_ | refine blk_alloc ?_ _)); exact BK968.out⟩, ⟨by (with_reducible repeat (first | refine blk_drewN ?_ _ | refine blk_drew ?_ | refine blk_alloc ?_ _)); exact BK969.out⟩, ⟨by (with_reducible repeat (first | refine blk_drewN ?_ _ | refine blk_drew ?_ | refine blk_alloc ?_ _)); exact BK973.out⟩, ⟨tb HB⟩⟩
  case rest =>
   clear HC10
   try clear p2
   try clear c4
   try clear c5
   try clear c7
   try clear c49
   try clear c50
   try clear c79
   obtain ⟨kq, x75_9, rfl, HA, HJ9, HO_947000, HO_949001, HO_955000, HO_960000, HO_969001, HO_970001, BK946, BK947, BK948, BK954, BK959, BK968, BK969, BK973, HB⟩ := hcut
   cases kq with
   | zero => exact absurd HA.out (by simp [laws_FnAllowed.j0])
   | succ kj9 =>
    have H := HA.out
    clear HA
    simp only [laws_FnAllowed.j0] at H
    by_cases c104 : x75_9 = true
    ·subst c104
     have H1 : (some false) = some r := by rw [if_pos rfl] at H; exact H
     clear H
     have H := H1
     clear H1
     exact absurd (Option.some.inj (H.trans (congrArg some hr_))) (by simp)
    ·replace c104 := Bool.eq_false_iff.mpr c104
     subst c104
     have H1 : (if t949 = true then (laws_FnAllowed.j1 kj9 (t942 != 0) t935 t938 t950 t953) else (laws_FnAllowed.j1 kj9 true t935 t938 t950 t953)) = some r := by rw [if_neg (show ¬ (false = true) by decide)] at H; exact H
     clear H
     have H := H1
     clear H1
     have HC105 := Aside0.mk H
     clear H
     go_upto_region 11 with (fail)
     go_cut [82] (fun v82 wc => ∃ (kq : Nat) (x82_104 : Bool), v82 = .bool x82_104 ∧ Aside0 (laws_FnAllowed.j1 kq x82_104 t935 t938 t950 t953 = some r) ∧ Aside0 (kq ≤ kj9) ∧ Aside0 (Kd.R (Kd.int .i64) 3 wc w.heap.size (fun k_ => some k_ ≠ ((.slice Ao22 t943.length co22) : Value).ownBlock ∧ some k_ ≠ ((.slice Ao29 t950.length co29) : Value).ownBlock ∧ some k_ ≠ ((.slice Ao39 t955.length co39) : Value).ownBlock ∧ some k_ ≠ ((.slice Ao55 t961.length co55) : Value).ownBlock ∧ some k_ ≠ ((.slice Ao62 t965.length co62) : Value).ownBlock) (.slice Ao15 t935.length co15) t935) ∧ Aside0 (Kd.R (Kd.int .i64) 3 wc w.heap.size (fun k_ => some k_ ≠ ((.slice Ao15 t935.length co15) : Value).ownBlock ∧ some k_ ≠ ((.slice Ao29 t950.length co29) : Value).ownBlock ∧ some k_ ≠ ((.slice Ao39 t955.length co39) : Value).ownBlock ∧ some k_ ≠ ((.slice Ao55 t961.length co55) : Value).ownBlock ∧ some k_ ≠ ((.slice Ao62 t965.length co62) : Value).ownBlock) (.slice Ao22 t943.length co22) t943) ∧ Aside0 (Kd.R (Kd.int .i64) 3 wc w.heap.size (fun k_ => some k_ ≠ ((.slice Ao15 t935.length co15) : Value).ownBlock ∧ some k_ ≠ ((.slice Ao22 t943.length co22) : Value).ownBlock ∧ some k_ ≠ ((.slice Ao39 t955.length co39) : Value).ownBlock ∧ some k_ ≠ ((.slice Ao55 t961.length co55) : Value).ownBlock ∧ some k_ ≠ ((.slice Ao62 t965.length co62) : Value).ownBlock) (.slice Ao29 t950.length co29) t950) ∧ Aside0 (Kd.R (Kd.int .i64) 3 wc w.heap.size (fun k_ => some k_ ≠ ((.slice Ao15 t935.length co15) : Value).ownBlock ∧ some k_ ≠ ((.slice Ao22 t943.length co22) : Value).ownBlock ∧ some k_ ≠ ((.slice Ao29 t950.length co29) : Value).ownBlock ∧ some k_ ≠ ((.slice Ao55 t961.length co55) : Value).ownBlock ∧ some k_ ≠ ((.slice Ao62 t965.length co62) : Value).ownBlock) (.slice Ao39 t955.length co39) t955) ∧ Aside0 (Kd.R (Kd.int .i64) 3 wc w.heap.size (fun k_ => some k_ ≠ ((.slice Ao15 t935.length co15) : Value).ownBlock ∧ some k_ ≠ ((.slice Ao22 t943.length co22) : Value).ownBlock ∧ some k_ ≠ ((.slice Ao29 t950.length co29) : Value).ownBlock ∧ some k_ ≠ ((.slice Ao39 t955.length co39) : Value).ownBlock ∧ some k_ ≠ ((.slice Ao62 t965.length co62) : Value).ownBlock) (.slice Ao55 t961.length co55) t961) ∧ Aside0 (Kd.R (Kd.int .i64) 3 wc w.heap.size (fun k_ => some k_ ≠ ((.slice Ao15 t935.length co15) : Value).ownBlock ∧ some k_ ≠ ((.slice Ao22 t943.length co22) : Value).ownBlock ∧ some k_ ≠ ((.slice Ao29 t950.length co29) : Value).ownBlock ∧ some k_ ≠ ((.slice Ao39 t955.length co39) : Value).ownBlock ∧ some k_ ≠ ((.slice Ao55 t961.length co55) : Value).ownBlock) (.slice Ao62 t965.length co62) t965) ∧ Aside0 (wc.heap[gb946]? = some (.cells #[(.slice Ao15 t935.length co15), .int .i64 t938] 65 (0, 0))) ∧ Aside0 (wc.heap[gb947]? = some (.cells #[.int .i64 t939, .int .i64 t940, .int .i64 t941] 68 (0, 0))) ∧ Aside0 (wc.heap[gb948]? = some (.cells #[.int .i64 t942, (.slice Ao22 t943.length co22)] 70 (0, 0))) ∧ Aside0 (wc.heap[gb954]? = some (.cells #[(.slice Ao29 t950.length co29), .int .i64 t953] 65 (0, 0))) ∧ Aside0 (wc.heap[gb959]? = some (.cells #[(.slice Ao39 t955.length co39), .int .i64 t958] 65 (0, 0))) ∧ Aside0 (wc.heap[gb968]? = some (.cells #[.int .i64 t960, (.slice Ao55 t961.length co55)] 70 (0, 0))) ∧ Aside0 (wc.heap[gb969]? = some (.cells #[.int .i64 t964, (.slice Ao62 t965.length co62)] 70 (0, 0))) ∧ Aside0 (wc.heap[gb973]? = some (.cells #[.int .i64 t970, .int .i64 t971, .int .i64 t972] 68 (0, 0))) ∧ Aside0 (Below w.heap.size w wc))
     case first =>
      have H := HC105.out
      clear HC105
      by_cases c106 : t949 = true
      ·subst c106
       have H1 : (laws_FnAllowed.j1 kj9 (t942 != 0) t935 t938 t950 t953) = some r := by rw [if_pos rfl] at H; exact H
       clear H
       have H := H1
       clear H1
       have H' := Aside0.mk H
       clear H
       have hnb107 := NB948_946.out
       have hnc107 := NB946_948.out
       have hnb108 := NB948_947.out
       have hnc108 := NB947_948.out
       have hnb109 := NB948_954.out
       have hnc109 := NB954_948.out
       have hnb110 := NB948_959.out
       have hnc110 := NB959_948.out
       have hnb111 := NB948_968.out
       have hnc111 := NB968_948.out
       have hnb112 := NB948_969.out
       have hnc112 := NB969_948.out
       have hnb113 := NB948_973.out
       have hnc113 := NB973_948.out
       obtain ⟨hcz114_0, hcz114_1, hfz114_0, hfz114_1⟩ := c2 BK948
       go_wp2
       go_meet
       case rel => exact ⟨_, ((t942 != 0)), (by first | rfl | (simp; done) | (simp [*]; done)), H', ⟨by have := HJ9.out; first | omega | exact Nat.le_refl _⟩, ⟨kr HO_947000.out⟩, ⟨kr HO_949001.out⟩, ⟨kr HO_955000.out⟩, ⟨kr HO_960000.out⟩, ⟨kr HO_969001.out⟩, ⟨kr HO_970001.out⟩, ⟨by (with_reducible repeat (first | refine blk_drewN ?_ _ | refine blk_drew ?_ | refine blk_alloc ?_ _)); exact BK946.out⟩, ⟨by (with_reducible repeat (first | refine blk_drewN ?_ _ | refine blk_drew ?_ | refine blk_alloc ?_ _)); exact BK947.out⟩, ⟨by (with_reducible repeat (first | refine blk_drewN ?_ _ | refine blk_drew ?_ | refine blk_alloc ?_ _)); exact BK948.out⟩, ⟨by (with_reducible repeat (first | refine blk_drewN ?_ _ | refine blk_drew ?_ | refine blk_alloc ?_ _)); exact BK954.out⟩, ⟨by (with_reducible repeat (first | refine blk_drewN ?_ _ | refine blk_drew ?_ | refine blk_alloc ?_ _)); exact BK959.out⟩, ⟨by (with_reducible repeat (first | refine blk_drewN ?_ _ | refine blk_drew ?_ | refine blk_alloc ?_ _)); exact BK968.out⟩, ⟨by (with_reducible repeat (first | refine blk_drewN ?_ _ | refine blk_drew ?_ | refine blk_alloc ?_ _)); exact BK969.out⟩, ⟨by (with_reducible repeat (first | refine blk_drewN ?_ _ | refine blk_drew ?_ | refine blk_alloc ?_ _)); exact BK973.out⟩, ⟨tb HB⟩⟩
      ·replace c106 := Bool.eq_false_iff.mpr c106
       subst c106
       have H1 : (laws_FnAllowed.j1 kj9 true t935 t938 t950 t953) = some r := by rw [if_neg (show ¬ (false = true) by decide)] at H; exact H
       clear H
       have H := H1
       clear H1
       have H' := Aside0.mk H
       clear H
       go_wp2
       go_meet
       case rel => exact ⟨_, (true), (by first | rfl | (simp; done) | (simp [*]; done)), H', ⟨by have := HJ9.out; first | omega | exact Nat.le_refl _⟩, ⟨kr HO_947000.out⟩, ⟨kr HO_949001.out⟩, ⟨kr HO_955000.out⟩, ⟨kr HO_960000.out⟩, ⟨kr HO_969001.out⟩, ⟨kr HO_970001.out⟩, ⟨by (with_reducible repeat (first | refine blk_drewN ?_ _ | refine blk_drew ?_ | refine blk_alloc ?_ _)); exact BK946.out⟩, ⟨by (with_reducible repeat (first | refine blk_drewN ?_ _ | refine blk_drew ?_ | refine blk_alloc ?_ _)); exact BK947.out⟩, ⟨by (with_reducible repeat (first | refine blk_drewN ?_ _ | refine blk_drew ?_ | refine blk_alloc ?_ _)); exact BK948.out⟩, ⟨by (with_reducible repeat (first | refine blk_drewN ?_ _ | refine blk_drew ?_ | refine blk_alloc ?_ _)); exact BK954.out⟩, ⟨by (with_reducible repeat (first | refine blk_drewN ?_ _ | refine blk_drew ?_ | refine blk_alloc ?_ _)); exact BK959.out⟩, ⟨by (with_reducible repeat (first | refine blk_drewN ?_ _ | refine blk_drew ?_ | refine blk_alloc ?_ _)); exact BK968.out⟩, ⟨by (with_reducible repeat (first | refine blk_drewN ?_ _ | refine blk_drew ?_ | refine blk_alloc ?_ _)); exact BK969.out⟩, ⟨by (with_reducible repeat (first | refine blk_drewN ?_ _ | refine blk_drew ?_ | refine blk_alloc ?_ _)); exact BK973.out⟩, ⟨tb HB⟩⟩
     case rest =>
      clear HC105
      try clear c1
      try clear p2
      try clear c4
      try clear c5
      try clear c7
      try clear c10
      try clear c11
      try clear c49
      try clear c50
      try clear c79
      try clear c104
      try clear c106
      try clear c107
      try clear c108
      try clear c109
      try clear c110
      try clear c111
      try clear c112
      try clear c113
      try clear hcz114_0
      try clear hcz114_1
      try clear hfz114_0
      try clear hfz114_1
      try clear p2
      obtain ⟨kq, x82_104, rfl, HA, HJ104, HO_947000, HO_949001, HO_955000, HO_960000, HO_969001, HO_970001, BK946, BK947, BK948, BK954, BK959, BK968, BK969, BK973, HB⟩ := hcut
      cases kq with
      | zero => exact absurd HA.out (by simp [laws_FnAllowed.j1])
      | succ kj104 =>
       have H := HA.out
       clear HA
       simp only [laws_FnAllowed.j1] at H
       by_cases c115 : x82_104 = true
       ·subst c115
        have H1 : ((laws_sameInts.f kj104 t950 t935).bind fun t980 => (if t980 = true then (some (t953 == t938)) else (some false))) = some r := by rw [if_pos rfl] at H; exact H
        clear H
        have H := H1
        clear H1
        replace H := Option.bind_eq_some_iff.mp H
        obtain ⟨t980, A1160, H⟩ := H
        replace H : (if t980 = true then (some (t953 == t938)) else (some false)) = some r := H
        have A116 := Aside0.mk A1160
        clear A1160
        by_cases c117 : t980 = true
        ·subst c117
         have H1 : (some (t953 == t938)) = some r := by rw [if_pos rfl] at H; exact H
         clear H
         have H := H1
         clear H1
         obtain rfl := Option.some.inj H
         have hnb118 := NB954_946.out
         have hnc118 := NB946_954.out
         have hnb119 := NB954_947.out
         have hnc119 := NB947_954.out
         have hnb120 := NB954_948.out
         have hnc120 := NB948_954.out
         have hnb121 := NB954_959.out
         have hnc121 := NB959_954.out
         have hnb122 := NB954_968.out
         have hnc122 := NB968_954.out
         have hnb123 := NB954_969.out
         have hnc123 := NB969_954.out
         have hnb124 := NB954_973.out
         have hnc124 := NB973_954.out
         obtain ⟨hcz125_0, hcz125_1, hfz125_0, hfz125_1⟩ := c2 BK954
         have hnb126 := NB946_947.out
         have hnc126 := NB947_946.out
         have hnb127 := NB946_948.out
         have hnc127 := NB948_946.out
         have hnb128 := NB946_959.out
         have hnc128 := NB959_946.out
         have hnb129 := NB946_968.out
         have hnc129 := NB968_946.out
         have hnb130 := NB946_969.out
         have hnc130 := NB969_946.out
         have hnb131 := NB946_973.out
         have hnc131 := NB973_946.out
         obtain ⟨hcz132_0, hcz132_1, hfz132_0, hfz132_1⟩ := c2 BK946
         go_wp2_with (first | ((with_reducible refine gate_callee (f := 50) rfl ?_); refine gL 87 Try.func50 #[.slice Ao29 t950.length co29, .slice Ao15 t935.length co15] ?_; (with_reducible refine (laws_sameInts.calls kj104 _ _ t950 _ _ t935 true _ ?side1 ?side2 ?side3 ?side4 A116.out).mono ?_); (case side1 => repeat (first | exact (Kd.R_reads' HO_955000.out).2.2 | (with_reducible refine Kd.C_alloc ?_ _) | (with_reducible refine Kd.C_drewN ?_ _) | (with_reducible refine Kd.C_drew ?_))); (case side2 => exact (Kd.R_reads' HO_955000.out).2.1); (case side3 => repeat (first | exact (Kd.R_reads' HO_947000.out).2.2 | (with_reducible refine Kd.C_alloc ?_ _) | (with_reducible refine Kd.C_drewN ?_ _) | (with_reducible refine Kd.C_drew ?_))); (case side4 => exact (Kd.R_reads' HO_947000.out).2.1); rintro e w' ⟨rfl, ⟨nd, rfl⟩⟩; refine ⟨_, rfl, ?_⟩))
         go_ret
         exact ⟨er, tb HB⟩
        ·replace c117 := Bool.eq_false_iff.mpr c117
         subst c117
         have H1 : (some false) = some r := by rw [if_neg (show ¬ (false = true) by decide)] at H; exact H
         clear H
         have H := H1
         clear H1
         exact absurd (Option.some.inj (H.trans (congrArg some hr_))) (by simp)
       ·replace c115 := Bool.eq_false_iff.mpr c115
        subst c115
        have H1 : ((impl_RowsOk.f kj104 t950 t953).bind fun t981 => (some t981)) = some r := by rw [if_neg (show ¬ (false = true) by decide)] at H; exact H
        clear H
        have H := H1
        clear H1
        replace H := Option.bind_eq_some_iff.mp H
        obtain ⟨t981, A1330, H⟩ := H
        replace H : (some t981) = some r := H
        have A133 := Aside0.mk A1330
        clear A1330
        obtain rfl := Option.some.inj H
        have hnb134 := NB954_946.out
        have hnc134 := NB946_954.out
        have hnb135 := NB954_947.out
        have hnc135 := NB947_954.out
        have hnb136 := NB954_948.out
        have hnc136 := NB948_954.out
        have hnb137 := NB954_959.out
        have hnc137 := NB959_954.out
        have hnb138 := NB954_968.out
        have hnc138 := NB968_954.out
        have hnb139 := NB954_969.out
        have hnc139 := NB969_954.out
        have hnb140 := NB954_973.out
        have hnc140 := NB973_954.out
        obtain ⟨hcz141_0, hcz141_1, hfz141_0, hfz141_1⟩ := c2 BK954
        go_wp2_with (first | ((with_reducible refine gate_callee (f := 55) rfl ?_); refine gL 96 Try.func55 #[.agg #[.slice Ao29 t950.length co29, .int .i64 t953]] ?_; (with_reducible refine (impl_RowsOk.calls kj104 _ _ t950 t953 t981 _ ?side1 ?side2 A133.out).mono ?_); (case side1 => repeat (first | exact (Kd.R_reads' HO_955000.out).2.2 | (with_reducible refine Kd.C_alloc ?_ _) | (with_reducible refine Kd.C_drewN ?_ _) | (with_reducible refine Kd.C_drew ?_))); (case side2 => exact (Kd.R_reads' HO_955000.out).2.1); rintro e w142 ⟨rfl, hb⟩; refine ⟨_, rfl, ?_⟩; replace HO_947000 := rb HO_947000 hb; replace HO_949001 := rb HO_949001 hb; replace HO_955000 := rb HO_955000 hb; replace HO_960000 := rb HO_960000 hb; replace HO_969001 := rb HO_969001 hb; replace HO_970001 := rb HO_970001 hb; replace BK946 := bb BK946 hb; replace BK947 := bb BK947 hb; replace BK948 := bb BK948 hb; replace BK954 := bb BK954 hb; replace BK959 := bb BK959 hb; replace BK968 := bb BK968 hb; replace BK969 := bb BK969 hb; replace BK973 := bb BK973 hb; replace HB := bs HB hb; (try clear hb); (try clear hb2); (try clear hk); (try clear hi)))
        go_ret
        exact ⟨er, tb HB⟩

def laws_FnAllowed.Pure : Prop := ∀ (l0 : List Int), l0.length ≤ maxLen → l0.length * 1 ≤ 140737488351232 → (∀ x ∈ l0, (Lit.int .u8 x).wf = true) → ∃ k, laws_FnAllowed.f k l0 = some true
theorem laws_FnAllowed.walk (P : laws_FnAllowed.Pure) (a0 : Option Addr) (len0 cap0 : Nat) (z0 : List Int) (w : World) (w0 : (a0 = none ∧ len0 = 0 ∧ cap0 = 0 ∧ z0 = []) ∨ ∃ x, a0 = some x ∧ len0 ≤ cap0 ∧ cap0 ≤ maxLen ∧ z0.length = cap0 ∧ (∀ i, i < z0.length → w.cell? (x.add i) = some (.int .u8 (z0.getD i 0))) ∧ ∀ n ∈ z0, (Lit.int .u8 n).wf = true) (y0 : len0 * 1 ≤ 140737488351232) :
  Calls Try.prog 7 #[.slice a0 len0 cap0] w fun e w' => e = .returned (.bool true) ∧ Below w.heap.size w w' := by
 obtain ⟨l0, rfl, hr0, hm0, hw0, hc0⟩ := ReadsInt.ofRowC w0
 obtain ⟨k, h⟩ := P l0 hm0 y0 hw0
 refine (laws_FnAllowed.calls k _ _ l0 true w (Kd.C_of_reads (d := (0 : Int)) (h1 := fun _ => rfl) hr0) hc0 h rfl).mono ?_
 rintro e w' ⟨rfl, hd⟩
 exact ⟨rfl, hd⟩
def impl_isPlace.f (a0 : Int) : Option (Bool) := (impl_from.f a0 0 19).bind fun t216 => (some t216)
set_option maxHeartbeats 8000000 in
set_option maxRecDepth 100000 in
theorem impl_isPlace.calls (a0 : Int) (r : Bool) (w : World) (h : impl_isPlace.f a0 = some r) :
  Calls Try.prog 88 #[.int .i64 a0] w fun e w' => e = .returned (.bool r) ∧ Drawn0 w w' := by
 have H : ((impl_from.f a0 0 19).bind fun t216 => (some t216)) = some r := h
 clear h
 replace H := Option.bind_eq_some_iff.mp H
 obtain ⟨t216, A20, H⟩ := H
 replace H : (some t216) = some r := H
 have A2 := Aside0.mk A20
 clear A20
 obtain rfl := Option.some.inj H
 go_enter Try.func88, Try.ntmps88
 go_wp2_with (first | ((with_reducible refine gate_callee (f := 85) rfl ?_); refine gL 4 Try.func85 #[.int .i64 a0, .int .i64 0, .int .i64 19] ?_; (with_reducible refine (impl_from.calls a0 0 19 t216 _ A2.out).mono ?_); rintro e w' ⟨rfl, ⟨nd, rfl⟩⟩; refine ⟨_, rfl, ?_⟩))
 go_ret
 exact ⟨by first | rfl | (simp; done) | (simp [*]; done), by repeat (first | exact Drawn0.refl _ | apply Drawn0.step)⟩
def impl_isWordNum.f (a0 : Int) : Option (Bool) := (impl_from.f a0 0 1000).bind fun t217 => (some t217)
set_option maxHeartbeats 8000000 in
set_option maxRecDepth 100000 in
theorem impl_isWordNum.calls (a0 : Int) (r : Bool) (w : World) (h : impl_isWordNum.f a0 = some r) :
  Calls Try.prog 89 #[.int .i64 a0] w fun e w' => e = .returned (.bool r) ∧ Drawn0 w w' := by
 have H : ((impl_from.f a0 0 1000).bind fun t217 => (some t217)) = some r := h
 clear h
 replace H := Option.bind_eq_some_iff.mp H
 obtain ⟨t217, A20, H⟩ := H
 replace H : (some t217) = some r := H
 have A2 := Aside0.mk A20
 clear A20
 obtain rfl := Option.some.inj H
 go_enter Try.func89, Try.ntmps89
 go_wp2_with (first | ((with_reducible refine gate_callee (f := 85) rfl ?_); refine gL 4 Try.func85 #[.int .i64 a0, .int .i64 0, .int .i64 1000] ?_; (with_reducible refine (impl_from.calls a0 0 1000 t217 _ A2.out).mono ?_); rintro e w' ⟨rfl, ⟨nd, rfl⟩⟩; refine ⟨_, rfl, ?_⟩))
 go_ret
 exact ⟨by first | rfl | (simp; done) | (simp [*]; done), by repeat (first | exact Drawn0.refl _ | apply Drawn0.step)⟩
end Go.Proofs.Ytopikhjcbcpiaaa.Q
section
namespace Go.Proofs.YtopikhjcbcpiaaaX
open Go.RowKit Go.Proofs.YtopikhjcbcpiaaaW.PrintWords
theorem wrap_succ {i n : Nat} (h : i < n) (hn : n ≤ 9223372036854775807) : wrap64 ((i : Int) + 1) = ((i + 1 : Nat) : Int) := by
  unfold wrap64; omega
theorem wrap_in {x : Int} (h0 : -9223372036854775808 ≤ x) (h1 : x ≤ 9223372036854775807) : wrap64 x = x := by
  unfold wrap64; omega
theorem ev_of {α : Type} {g : Nat → Option α} {r : α} (h : ∀ k, g k = some r) : Ev g r := ⟨0, fun k _ => h k⟩
theorem ev_succ {α : Type} {g : Nat → Option α} {r : α} (h : ∀ k, g (k + 1) = some r) : Ev g r := Ev.step (f := fun _ => Option.some r) h (Ev.now r)
theorem ev_to {α : Type} {g : Nat → Option α} {r q : α} (h : Ev g r) (e : r = q) : Ev g q := e ▸ h
theorem ev_pos {α : Type} {c : Prop} [Decidable c] {g f : Nat → Option α} {r : α} (hc : c) (h : Ev g r) : Ev (fun k => if c then g k else f k) r := by simp only [if_pos hc]; exact h
theorem ev_neg {α : Type} {c : Prop} [Decidable c] {g f : Nat → Option α} {r : α} (hc : ¬ c) (h : Ev f r) : Ev (fun k => if c then g k else f k) r := by simp only [if_neg hc]; exact h
theorem ev_ite {α : Type} {c : Prop} [Decidable c] {g f : Nat → Option α} {r : α} (h : c → Ev g r) (h' : ¬ c → Ev f r) : Ev (fun k => if c then g k else f k) r := by
  by_cases hc : c
  · exact ev_pos hc (h hc)
  · exact ev_neg hc (h' hc)
theorem ev_down {β : Type} {g : Nat → Int → Option β} {R : Nat → β} {n : Nat} (h : ∀ i : Nat, i ≤ n → (i < n → Ev (fun k => g k ((i + 1 : Nat) : Int)) (R (i + 1))) → Ev (fun k => g k (i : Int)) (R i)) :
    ∀ i : Nat, i ≤ n → Ev (fun k => g k (i : Int)) (R i) := by
  have key : ∀ d i : Nat, i + d = n → Ev (fun k => g k (i : Int)) (R i) := by
    intro d
    induction d with
    | zero => intro i hi; exact h i (by omega) (fun hlt => by omega)
    | succ d ih => intro i hi; exact h i (by omega) (fun _ => ih (i + 1) (by omega))
  intro i hi
  exact key (n - i) i (by omega)
end Go.Proofs.YtopikhjcbcpiaaaX
end
section
namespace Go.Proofs.Ytopikhjcbcpiaaa.Q
open Go.RowKit Go.Proofs.YtopikhjcbcpiaaaW.PrintWords Go.Proofs.YtopikhjcbcpiaaaX
def inB (a b c : Int) : Bool := decide (b ≤ a ∧ a ≤ c)
theorem l1In_eq (a b c : Int) : spec_l1In.f a b c = some (inB a b c) := by
  unfold spec_l1In.f inB
  by_cases h : a ≥ b
  · rw [if_pos h]; simp; omega
  · rw [if_neg h]; simp; omega
theorem from_eq (a b c : Int) : impl_from.f a b c = some (inB a b c) := by
  unfold impl_from.f inB
  by_cases h : a ≥ b
  · rw [if_pos h]; simp; omega
  · rw [if_neg h]; simp; omega
def opOkB (a b c : Int) : Bool :=
  if a = 1 ∨ a = 2 then inB b 0 3 && inB c 1 6 else if a = 3 ∨ a = 4 then inB b 0 3 && decide (c = 0)
  else if a = 5 ∨ a = 10 then decide (b = 0) && inB c 1 6 else if a = 6 then inB b 0 2 && decide (c = 0)
  else if a = 7 ∨ a = 8 ∨ a = 9 then decide (b = 0) && decide (c = 0) else false
theorem kinds10 (a : Int) : a = 1 ∨ a = 2 ∨ a = 3 ∨ a = 4 ∨ a = 5 ∨ a = 6 ∨ a = 7 ∨ a = 8 ∨ a = 9 ∨ a = 10 ∨ (a < 1 ∨ 10 < a) := by omega
theorem ev_spec_OpOk (a b c : Int) : Ev (fun k => spec_OpOk.f k a b c) (opOkB a b c) := by
  refine ⟨3, fun k hk => ?_⟩
  obtain ⟨k, rfl⟩ : ∃ j, k = j + 3 := ⟨k - 3, by omega⟩
  show spec_OpOk.f (k + 3) a b c = _
  simp only [spec_OpOk.f, spec_OpOk.j0, spec_OpOk.j1, spec_l4Key.f, spec_KeyOk.f, spec_l4Val.f, spec_ValOk.f, l1In_eq, Option.bind_some]
  rcases kinds10 a with rfl | rfl | rfl | rfl | rfl | rfl | rfl | rfl | rfl | rfl | h
  case inr.inr.inr.inr.inr.inr.inr.inr.inr.inr =>
    have h1 : inB a 1 10 = false := by unfold inB; simp; omega
    have h2 : ¬ (a = 1 ∨ a = 2) := by omega
    have h3 : ¬ (a = 3 ∨ a = 4) := by omega
    have h4 : ¬ (a = 5 ∨ a = 10) := by omega
    have h5 : ¬ a = 6 := by omega
    have h6 : ¬ (a = 7 ∨ a = 8 ∨ a = 9) := by omega
    simp [opOkB, h1, h2, h3, h4, h5, h6]
  all_goals
    unfold opOkB
    generalize inB b 0 3 = p
    generalize inB c 1 6 = q
    generalize inB b 0 2 = s
    by_cases hc : c = 0 <;> by_cases hb : b = 0 <;> cases p <;> cases q <;> cases s <;> simp [inB, hc, hb]
theorem ev_impl_OpOk (a b c : Int) : Ev (fun k => impl_OpOk.f k a b c) (opOkB a b c) := by
  refine ⟨4, fun k hk => ?_⟩
  obtain ⟨k, rfl⟩ : ∃ j, k = j + 4 := ⟨k - 4, by omega⟩
  show impl_OpOk.f (k + 4) a b c = _
  simp only [impl_OpOk.f, impl_OpOk.j0, impl_OpOk.j1, impl_OpOk.j2, impl_KeyOk.f, impl_ValOk.f, impl_isClass.f, from_eq, Option.bind_some]
  rcases kinds10 a with rfl | rfl | rfl | rfl | rfl | rfl | rfl | rfl | rfl | rfl | h
  case inr.inr.inr.inr.inr.inr.inr.inr.inr.inr =>
    have g1 : ¬ a = 1 := by omega
    have g2 : ¬ a = 2 := by omega
    have g3 : ¬ a = 3 := by omega
    have g4 : ¬ a = 4 := by omega
    have g5 : ¬ a = 5 := by omega
    have g6 : ¬ a = 6 := by omega
    have g7 : ¬ a = 7 := by omega
    have g8 : ¬ a = 8 := by omega
    have g9 : ¬ a = 9 := by omega
    have g10 : ¬ a = 10 := by omega
    simp [opOkB, g1, g2, g3, g4, g5, g6, g7, g8, g9, g10]
  all_goals
    unfold opOkB
    generalize inB b 0 3 = p
    generalize inB c 1 6 = q
    generalize inB b 0 2 = s
    by_cases hc : c = 0 <;> by_cases hb : b = 0 <;> cases p <;> cases q <;> cases s <;> simp [hc, hb]
end Go.Proofs.Ytopikhjcbcpiaaa.Q
end
section
namespace Go.Proofs.Ytopikhjcbcpiaaa.Q
open Go.RowKit Go.Proofs.YtopikhjcbcpiaaaW.PrintWords Go.Proofs.YtopikhjcbcpiaaaX
theorem rd_nat (l : List Int) (i : Nat) : rd l (i : Int) = l.getD i 0 := by simp [rd]
theorem getD_at {l : List Int} {i : Nat} (h : i < l.length) : l.getD i 0 = l[i] := by simp [List.getD_eq_getElem?_getD, List.getElem?_eq_getElem h]
def idxFrom (v : Int) : List Int → Nat → Int
  | [], _ => -1
  | x :: xs, i => if x = v then (i : Int) else idxFrom v xs (i + 1)
def idxI (l : List Int) (v : Int) : Int := idxFrom v l 0
theorem idxFrom_at (v : Int) (l : List Int) (i : Nat) (h : i < l.length) : idxFrom v (l.drop i) i = if l.getD i 0 = v then (i : Int) else idxFrom v (l.drop (i + 1)) (i + 1) := by
  rw [List.drop_eq_getElem_cons h, idxFrom, getD_at h]
theorem ev_spec_KeyOf (l : List Int) (st v : Int) (hl : l.length ≤ 1048576) : Ev (fun k => spec_KeyOf.f k l st v) (idxI l v) := by
  refine ev_to (ev_down (g := fun k i => spec_KeyOf.l0 k v i l st) (R := fun i => idxFrom v (l.drop i) i) (n := l.length) (fun i hi h => ?_) 0 (by omega)) (by simp [idxI])
  by_cases hlt : i < l.length
  · rw [idxFrom_at v l i hlt]
    by_cases e : l.getD i 0 = v
    · rw [if_pos e]
      refine ev_succ (fun k => ?_)
      simp only [spec_KeyOf.l0, rd_nat]
      rw [if_pos (by omega), if_pos (by omega), if_pos e]
    · rw [if_neg e]
      refine Ev.step (fun k => ?_) (h hlt)
      simp only [spec_KeyOf.l0, rd_nat]
      rw [if_pos (by omega), if_pos (by omega), if_neg e, wrap_succ hlt (by omega)]
  · obtain rfl : i = l.length := by omega
    refine ev_succ (fun k => ?_)
    simp only [spec_KeyOf.l0]
    rw [if_neg (by omega)]
    simp [idxFrom]
theorem ev_Index (l : List Int) (v : Int) (hl : l.length ≤ 1048576) : Ev (fun k => slices_Index_int_int.f k l v) (idxI l v) := by
  refine ev_to (ev_down (g := fun k i => slices_Index_int_int.l0 k l v (l.length : Int) i) (R := fun i => idxFrom v (l.drop i) i) (n := l.length) (fun i hi h => ?_) 0 (by omega)) (by simp [idxI])
  by_cases hlt : i < l.length
  · rw [idxFrom_at v l i hlt]
    by_cases e : l.getD i 0 = v
    · rw [if_pos e]
      refine ev_succ (fun k => ?_)
      simp only [slices_Index_int_int.l0, rd_nat]
      rw [if_pos (by omega), if_pos (by omega), if_pos (by omega), if_pos e.symm]
    · rw [if_neg e]
      refine Ev.step (fun k => ?_) (h hlt)
      simp only [slices_Index_int_int.l0, rd_nat]
      rw [if_pos (by omega), if_pos (by omega), if_pos (by omega), if_neg (Ne.symm e), wrap_succ hlt (by omega)]
  · obtain rfl : i = l.length := by omega
    refine ev_succ (fun k => ?_)
    simp only [slices_Index_int_int.l0]
    rw [if_neg (by omega)]
    simp [idxFrom]
theorem ev_impl_KeyOf (l : List Int) (st v : Int) (hl : l.length ≤ 1048576) : Ev (fun k => impl_KeyOf.f k l st v) (idxI l v) :=
  Ev.bind (f := fun _ t => some t) (ev_Index l v hl) (Ev.now _)
theorem ev_Contains (l : List Int) (v : Int) (hl : l.length ≤ 1048576) : Ev (fun k => slices_Contains_int_int.f k l v) (decide (idxI l v ≥ 0)) :=
  Ev.bind (f := fun _ t => some (decide (t ≥ 0))) (ev_Index l v hl) (Ev.now _)
theorem idxFrom_bd (v : Int) : ∀ (l : List Int) (i : Nat), idxFrom v l i = -1 ∨ ((i : Int) ≤ idxFrom v l i ∧ idxFrom v l i < i + l.length)
  | [], i => .inl rfl
  | x :: xs, i => by
    unfold idxFrom
    by_cases e : x = v
    · rw [if_pos e]; right; simp; omega
    · rw [if_neg e]
      rcases idxFrom_bd v xs (i + 1) with h | ⟨h1, h2⟩
      · exact .inl h
      · right; simp only [List.length_cons]; omega
theorem idxFrom_mem (v : Int) : ∀ (l : List Int) (i : Nat), idxFrom v l i = -1 ↔ v ∉ l
  | [], i => by simp [idxFrom]
  | x :: xs, i => by
    unfold idxFrom
    by_cases e : x = v
    · rw [if_pos e]; simp [e]
    · rw [if_neg e, idxFrom_mem v xs (i + 1)]; simp [Ne.symm e]
theorem idxFrom_append (v : Int) : ∀ (l m : List Int) (i : Nat), v ∉ l → idxFrom v (l ++ m) i = idxFrom v m (i + l.length)
  | [], m, i, _ => by simp
  | x :: xs, m, i, h => by
    simp only [List.mem_cons, not_or] at h
    show (if x = v then (i : Int) else idxFrom v (xs ++ m) (i + 1)) = _
    rw [if_neg (Ne.symm h.1), idxFrom_append v xs m (i + 1) h.2]
    simp only [List.length_cons]
    congr 1
    omega
theorem idx_first (l : List Int) (i : Nat) (h : i < l.length) : idxI l (l.getD i 0) = (i : Int) ↔ ¬ idxI (l.take i) (l.getD i 0) ≥ 0 := by
  have hv := getD_at h
  constructor
  · intro he hc
    rcases idxFrom_bd (l.getD i 0) (l.take i) 0 with h1 | ⟨h1, h2⟩
    · unfold idxI at hc; omega
    · have hm : l.getD i 0 ∈ l.take i := by
        by_cases hm : l.getD i 0 ∈ l.take i
        · exact hm
        · have := (idxFrom_mem _ _ 0).2 hm
          unfold idxI at hc
          omega
      have key : ∀ (v : Int) (a b : List Int) (j : Nat), v ∈ a → idxFrom v (a ++ b) j = idxFrom v a j := by
        intro v a
        induction a with
        | nil => intro b j hm; cases hm
        | cons x xs ih =>
          intro b j hm
          show (if x = v then (j : Int) else idxFrom v (xs ++ b) (j + 1)) = (if x = v then (j : Int) else idxFrom v xs (j + 1))
          by_cases e : x = v
          · rw [if_pos e, if_pos e]
          · rw [if_neg e, if_neg e]
            refine ih b (j + 1) ?_
            rcases List.mem_cons.1 hm with h' | h'
            · exact absurd h'.symm e
            · exact h'
      unfold idxI at he
      have hs : l = l.take i ++ l.drop i := (List.take_append_drop i l).symm
      rw [hs, key _ _ _ 0 (by rw [← hs]; exact hm)] at he
      rw [← hs] at he
      rw [he] at h2
      simp at h2
      omega
  · intro hc
    have hm : l.getD i 0 ∉ l.take i := by
      refine (idxFrom_mem _ _ 0).1 ?_
      rcases idxFrom_bd (l.getD i 0) (l.take i) 0 with h1 | ⟨h1, h2⟩
      · exact h1
      · exact absurd (by unfold idxI; omega) hc
    have e : idxFrom (l.getD i 0) (l.take i ++ l.drop i) 0 = idxFrom (l.getD i 0) (l.drop i) (0 + (l.take i).length) := idxFrom_append _ _ _ _ hm
    rw [List.take_append_drop] at e
    unfold idxI
    rw [e, List.drop_eq_getElem_cons h, idxFrom, if_pos hv.symm]
    simp
    omega
def rowB (l : List Int) (i : Nat) : Bool := decide (l.getD i 0 = 0) || (inB (l.getD i 0) 1 6 && decide (idxI l (l.getD i 0) = (i : Int)))
def rowsOkB (l : List Int) (st : Int) : Bool := (List.range l.length).all (rowB l) && (decide (l.length = 4) && inB st 0 5)
theorem rowsDown {g : Nat → Int → Option Bool} (l : List Int) (rest : Bool)
    (hstep : ∀ i : Nat, i < l.length → (rowB l i = true → ∀ r, Ev (fun k => g k ((i + 1 : Nat) : Int)) r → Ev (fun k => g k (i : Int)) r) ∧ (rowB l i = false → Ev (fun k => g k (i : Int)) false))
    (hend : Ev (fun k => g k (l.length : Int)) rest) : Ev (fun k => g k 0) ((List.range l.length).all (rowB l) && rest) := by
  have key := ev_down (g := g) (R := fun i => ((List.range l.length).drop i).all (rowB l) && rest) (n := l.length) (fun i hi h => ?_) 0 (by omega)
  · simpa using key
  · by_cases hlt : i < l.length
    · have hd : ((List.range l.length).drop i).all (rowB l) = (rowB l i && ((List.range l.length).drop (i + 1)).all (rowB l)) := by
        rw [List.drop_eq_getElem_cons (by simpa using hlt), List.all_cons]
        simp
      rw [hd]
      have hs := hstep i hlt
      cases hq : rowB l i with
      | true => exact ev_to (hs.1 hq _ (h hlt)) (by simp)
      | false => exact ev_to (hs.2 hq) (by simp)
    · obtain rfl : i = l.length := by omega
      exact ev_to hend (by rw [List.drop_eq_nil_of_le (by simp)]; simp)
theorem ev_spec_RowsOk (l : List Int) (st : Int) (hl : l.length ≤ 1048576) : Ev (fun k => spec_RowsOk.f k l st) (rowsOkB l st) := by
  refine rowsDown (g := fun k i => spec_RowsOk.l0 k i l st) l _ (fun i hi => ?_) ?_
  · have hk := ev_spec_KeyOf l st (l.getD i 0) hl
    have step : ∀ k, spec_RowsOk.l0 (k + 1) (i : Int) l st = if l.getD i 0 = 0 then spec_RowsOk.l0 k ((i + 1 : Nat) : Int) l st else if inB (l.getD i 0) 1 6 = true then (spec_KeyOf.f k l st (l.getD i 0)).bind fun t => if t = (i : Int) then spec_RowsOk.l0 k ((i + 1 : Nat) : Int) l st else some false else some false := by
      intro k
      simp only [spec_RowsOk.l0, rd_nat, spec_ValOk.f, l1In_eq, Option.bind_some]
      rw [if_pos (by omega), if_pos (by omega), wrap_succ hi (by omega)]
    constructor
    · intro hq r hr
      refine Ev.step step ?_
      unfold rowB at hq
      by_cases e0 : l.getD i 0 = 0
      · exact ev_pos e0 hr
      · simp only [decide_eq_false e0, Bool.false_or, Bool.and_eq_true, decide_eq_true_eq] at hq
        refine ev_neg e0 (ev_pos hq.1 (Ev.bind (f := fun k t => if t = (i : Int) then spec_RowsOk.l0 k ((i + 1 : Nat) : Int) l st else some false) hk ?_))
        exact ev_pos hq.2 hr
    · intro hq
      refine Ev.step step ?_
      unfold rowB at hq
      simp only [Bool.or_eq_false_iff, decide_eq_false_iff_not, Bool.and_eq_false_iff] at hq
      refine ev_neg hq.1 (ev_ite (fun c => Ev.bind (f := fun k t => if t = (i : Int) then spec_RowsOk.l0 k ((i + 1 : Nat) : Int) l st else some false) hk ?_) (fun _ => Ev.now _))
      rcases hq.2 with h' | h'
      · rw [h'] at c; cases c
      · exact ev_neg h' (Ev.now _)
  · refine ev_succ (fun k => ?_)
    simp only [spec_RowsOk.l0, l1In_eq, Option.bind_some]
    rw [if_neg (by omega)]
    by_cases e : l.length = 4
    · rw [if_pos (by omega)]; simp [e]
    · rw [if_neg (by omega)]; simp [e]
theorem ev_impl_RowsOk (l : List Int) (st : Int) (hl : l.length ≤ 1048576) : Ev (fun k => impl_RowsOk.f k l st) (rowsOkB l st) := by
  refine rowsDown (g := fun k i => impl_RowsOk.l0 k l (l.length : Int) i l st) l _ (fun i hi => ?_) ?_
  · have hk := ev_Contains (l.take i) (l.getD i 0) (by rw [List.length_take]; omega)
    have hidx := idx_first l i hi
    have step : ∀ k, impl_RowsOk.l0 (k + 1) l (l.length : Int) (i : Int) l st = if l.getD i 0 = 0 then impl_RowsOk.l0 k l (l.length : Int) ((i + 1 : Nat) : Int) l st else if inB (l.getD i 0) 1 6 = true then (slices_Contains_int_int.f k (l.take i) (l.getD i 0)).bind fun t => if t = true then some false else impl_RowsOk.l0 k l (l.length : Int) ((i + 1 : Nat) : Int) l st else some false := by
      intro k
      simp only [impl_RowsOk.l0, rd_nat, impl_ValOk.f, from_eq, Option.bind_some]
      rw [if_pos (by omega), if_pos (by omega), if_pos (by omega), wrap_succ hi (by omega), if_pos (show (i : Int) ≤ (l.length : Int) by omega), Int.toNat_natCast]
    constructor
    · intro hq r hr
      refine Ev.step step ?_
      unfold rowB at hq
      by_cases e0 : l.getD i 0 = 0
      · exact ev_pos e0 hr
      · simp only [decide_eq_false e0, Bool.false_or, Bool.and_eq_true, decide_eq_true_eq] at hq
        refine ev_neg e0 (ev_pos hq.1 (Ev.bind (f := fun k t => if t = true then some false else impl_RowsOk.l0 k l (l.length : Int) ((i + 1 : Nat) : Int) l st) hk ?_))
        exact ev_neg (by simpa using hidx.1 hq.2) hr
    · intro hq
      refine Ev.step step ?_
      unfold rowB at hq
      simp only [Bool.or_eq_false_iff, decide_eq_false_iff_not, Bool.and_eq_false_iff] at hq
      refine ev_neg hq.1 (ev_ite (fun c => Ev.bind (f := fun k t => if t = true then some false else impl_RowsOk.l0 k l (l.length : Int) ((i + 1 : Nat) : Int) l st) hk ?_) (fun _ => Ev.now _))
      rcases hq.2 with h' | h'
      · rw [h'] at c; cases c
      · refine ev_pos ?_ (Ev.now _)
        have := mt hidx.2 h'
        simpa using this
  · refine ev_succ (fun k => ?_)
    simp only [impl_RowsOk.l0, from_eq, Option.bind_some]
    rw [if_neg (by omega)]
    by_cases e : l.length = 4
    · rw [if_pos (by omega)]; simp [e]
    · rw [if_neg (by omega)]; simp [e]
theorem drop_at {l : List Int} {i : Nat} (h : i < l.length) : l.drop i = l.getD i 0 :: l.drop (i + 1) := by rw [List.drop_eq_getElem_cons h, getD_at h]
theorem ev_Equal (a b : List Int) (ha : a.length ≤ 1048576) : Ev (fun k => slices_Equal_int_int.f k a b) (decide (a = b)) := by
  unfold slices_Equal_int_int.f
  by_cases hl : a.length = b.length
  · refine ev_pos (by omega) (ev_to (ev_down (g := fun k i => slices_Equal_int_int.l0 k a b (a.length : Int) i) (R := fun i => decide (a.drop i = b.drop i)) (n := a.length) (fun i hi h => ?_) 0 (by omega)) (by simp))
    by_cases hlt : i < a.length
    · rw [drop_at hlt, drop_at (show i < b.length by omega)]
      by_cases e : a.getD i 0 = b.getD i 0
      · refine ev_to (Ev.step (fun k => ?_) (h hlt)) (by rw [e]; simp)
        simp only [slices_Equal_int_int.l0, rd_nat]
        rw [if_pos (by omega), if_pos (by omega), if_pos (by omega), if_pos (by omega), if_pos e, wrap_succ hlt (by omega)]
      · refine ev_to (ev_succ (fun k => ?_) (r := false)) (Eq.symm (decide_eq_false (fun hc => e (by simp only [List.cons.injEq, false_and, and_false] at hc; first | exact hc.1 | exact hc.1.1))))
        simp only [slices_Equal_int_int.l0, rd_nat]
        rw [if_pos (by omega), if_pos (by omega), if_pos (by omega), if_pos (by omega), if_neg e]
    · refine ev_to (ev_succ (fun k => ?_) (r := true)) ?_
      · simp only [slices_Equal_int_int.l0]
        rw [if_neg (by omega)]
      · rw [List.drop_eq_nil_of_le (by omega), List.drop_eq_nil_of_le (by omega)]; simp
  · refine ev_neg (by omega) (ev_to (Ev.now false) ?_)
    have : ¬ a = b := fun h => hl (by rw [h])
    simp [this]
theorem ev_Ints (a b : List Int) (ha : a.length ≤ 1048576) : Ev (fun k => spec_l4Ints.f k a b) (decide (a = b)) := by
  have j : ∀ (x : Int) (c : Bool) (r : Bool), Ev (fun k => spec_l4Ints.j1 k a b x c) r → ∀ g : Nat → Option Bool, (∀ k, g (k + 1) = spec_l4Ints.j1 k a b x c) → Ev g r := fun x c r h g hg => Ev.step hg h
  have fin : ∀ x, Ev (fun k => spec_l4Ints.j1 k a b x false) ((a.length : Int) == (b.length : Int)) := fun x => ev_succ (fun k => by simp [spec_l4Ints.j1])
  refine ev_to (ev_down (g := fun k i => spec_l4Ints.l0 k a b i) (R := fun i => decide (a.drop i = b.drop i ∧ (i ≤ b.length))) (n := a.length) (fun i hi h => ?_) 0 (by omega)) (by simp)
  by_cases hlt : i < a.length
  · by_cases hb : i < b.length
    · rw [drop_at hlt, drop_at hb]
      refine Ev.step (f := fun k => spec_l4Ints.j1 k a b (i : Int) true) (fun k => ?_) ?_
      · simp only [spec_l4Ints.l0]
        rw [if_pos (by omega), decide_eq_true (show (i : Int) < (b.length : Int) by omega)]
      · by_cases e : a.getD i 0 = b.getD i 0
        · refine ev_to (Ev.step (fun k => ?_) (h hlt)) ?_
          · simp only [spec_l4Ints.j1, rd_nat]
            rw [if_pos trivial, if_pos (by omega), if_pos (by omega), if_pos (by omega), if_pos e, wrap_succ hlt (by omega)]
          · have h1 : i + 1 ≤ b.length := by omega
            have h2 : i ≤ b.length := by omega
            rw [e]; simp [h1, h2]
        · refine ev_to (ev_succ (fun k => ?_) (r := false)) (Eq.symm (decide_eq_false (fun hc => e (by simp only [List.cons.injEq, false_and, and_false] at hc; first | exact hc.1 | exact hc.1.1))))
          simp only [spec_l4Ints.j1, rd_nat]
          rw [if_pos trivial, if_pos (by omega), if_pos (by omega), if_pos (by omega), if_neg e]
    · refine Ev.step (f := fun k => spec_l4Ints.j1 k a b (i : Int) false) (fun k => ?_) (ev_to (fin _) ?_)
      · simp only [spec_l4Ints.l0]
        rw [if_pos (by omega), decide_eq_false (show ¬ (i : Int) < (b.length : Int) by omega)]
      · have h1 : ¬ (a.length : Int) = (b.length : Int) := by omega
        have h2 : ¬ (a.drop i = b.drop i) := by
          rw [drop_at hlt, List.drop_eq_nil_of_le (show b.length ≤ i by omega)]; simp
        simp [h2]
        omega
  · obtain rfl : i = a.length := by omega
    refine Ev.step (f := fun k => spec_l4Ints.j1 k a b (a.length : Int) false) (fun k => ?_) (ev_to (fin _) ?_)
    · simp only [spec_l4Ints.l0]
      rw [if_neg (by omega)]
    · rw [List.drop_length, Bool.eq_iff_iff]
      simp
      constructor
      · intro e; omega
      · intro e; omega
end Go.Proofs.Ytopikhjcbcpiaaa.Q
end
section
namespace Go.Proofs.Ytopikhjcbcpiaaa.Q
open Go.RowKit Go.Proofs.YtopikhjcbcpiaaaW.PrintWords Go.Proofs.YtopikhjcbcpiaaaX
theorem impl_ValOk_eq (a : Int) : impl_ValOk.f a = some (inB a 1 6) := by simp [impl_ValOk.f, from_eq]
theorem spec_ValOk_eq (a : Int) : spec_ValOk.f a = some (inB a 1 6) := by simp [spec_ValOk.f, l1In_eq]
theorem impl_ClassOf_eq (a : Int) : impl_ClassOf.f a = some (if inB a 1 6 = true then Int.tmod a 3 else -1) := by
  by_cases h : inB a 1 6 = true <;> simp [impl_ClassOf.f, impl_ValOk_eq, h]
theorem spec_ClassOf_eq (a : Int) : spec_ClassOf.f a = some (if inB a 1 6 = true then Int.tmod a 3 else -1) := by
  by_cases h : inB a 1 6 = true <;> simp [spec_ClassOf.f, spec_ValOk_eq, h]
theorem howMany_both (l : List Int) (st c : Int) (hl : l.length ≤ 1048576) : ∃ r, Ev (fun k => spec_HowMany.f k l st c) r ∧ Ev (fun k => impl_HowMany.f k l st c) r := by
  have key : ∀ (d i : Nat) (x : Int), i + d = l.length → -9223372036854775808 ≤ x → x ≤ 9223372036854775807 → ∃ r, Ev (fun k => spec_HowMany.l0 k c x (i : Int) l st) r ∧ Ev (fun k => impl_HowMany.l0 k c x l (l.length : Int) (i : Int)) r := by
    intro d
    induction d with
    | zero =>
      intro i x hi _ _
      refine ⟨x, ev_succ (fun k => ?_), ev_succ (fun k => ?_)⟩
      · simp only [spec_HowMany.l0]; rw [if_neg (by omega)]
      · simp only [impl_HowMany.l0]; rw [if_neg (by omega)]
    | succ d ih =>
      intro i x hi h0 h1
      have hlt : i < l.length := by omega
      have e0 : wrap64 x = x := wrap_in h0 h1
      by_cases hv : inB (rd l (i : Int)) 1 6 = true
      · by_cases hc : Int.tmod (rd l (i : Int)) 3 = c
        · have hw : -9223372036854775808 ≤ wrap64 (x + 1) ∧ wrap64 (x + 1) ≤ 9223372036854775807 := by unfold wrap64; omega
          obtain ⟨r, hs, hm⟩ := ih (i + 1) (wrap64 (x + 1)) (by omega) hw.1 hw.2
          refine ⟨r, Ev.step (fun k => ?_) hs, Ev.step (fun k => ?_) hm⟩
          · simp only [spec_HowMany.l0, spec_ValOk_eq, spec_ClassOf_eq, Option.bind_some]
            rw [if_pos (by omega), if_pos (by omega), if_pos hv, if_pos hv, wrap_succ hlt (by omega)]
            simp [spec_l1Bit.f, hc]
          · simp only [impl_HowMany.l0, impl_ValOk_eq, impl_ClassOf_eq, Option.bind_some]
            rw [if_pos (by omega), if_pos (by omega), if_pos (by omega), if_pos hv, if_pos hv, if_pos hc, wrap_succ hlt (by omega)]
        · obtain ⟨r, hs, hm⟩ := ih (i + 1) x (by omega) h0 h1
          refine ⟨r, Ev.step (fun k => ?_) hs, Ev.step (fun k => ?_) hm⟩
          · simp only [spec_HowMany.l0, spec_ValOk_eq, spec_ClassOf_eq, Option.bind_some]
            rw [if_pos (by omega), if_pos (by omega), if_pos hv, if_pos hv, wrap_succ hlt (by omega)]
            have hc' : (Int.tmod (rd l (i : Int)) 3 == c) = false := beq_eq_false_iff_ne.mpr hc
            simp [spec_l1Bit.f, hc', e0]
          · simp only [impl_HowMany.l0, impl_ValOk_eq, impl_ClassOf_eq, Option.bind_some]
            rw [if_pos (by omega), if_pos (by omega), if_pos (by omega), if_pos hv, if_pos hv, if_neg hc, wrap_succ hlt (by omega)]
      · obtain ⟨r, hs, hm⟩ := ih (i + 1) x (by omega) h0 h1
        refine ⟨r, Ev.step (fun k => ?_) hs, Ev.step (fun k => ?_) hm⟩
        · simp only [spec_HowMany.l0, spec_ValOk_eq, spec_ClassOf_eq, Option.bind_some]
          rw [if_pos (by omega), if_pos (by omega), if_neg hv, wrap_succ hlt (by omega)]
          simp [spec_l1Bit.f, e0]
        · simp only [impl_HowMany.l0, impl_ValOk_eq, impl_ClassOf_eq, Option.bind_some]
          rw [if_pos (by omega), if_pos (by omega), if_pos (by omega), if_neg hv, wrap_succ hlt (by omega)]
  exact key l.length 0 0 (by omega) (by omega) (by omega)
theorem inB_iff {a b c : Int} : inB a b c = true ↔ b ≤ a ∧ a ≤ c := by simp [inB]
theorem opOk_place {a b c : Int} (h : opOkB a b c = true) (ha : a = 1 ∨ a = 2 ∨ a = 3 ∨ a = 4) : 0 ≤ b ∧ b < 4 := by
  rcases ha with rfl | rfl | rfl | rfl <;> simp [opOkB, inB] at h <;> omega
theorem opOk_kind {a b c : Int} (h : opOkB a b c = true) : 1 ≤ a ∧ a ≤ 10 := by
  rcases kinds10 a with rfl | rfl | rfl | rfl | rfl | rfl | rfl | rfl | rfl | rfl | h'
  case inr.inr.inr.inr.inr.inr.inr.inr.inr.inr =>
    have h2 : ¬ (a = 1 ∨ a = 2) := by omega
    have h3 : ¬ (a = 3 ∨ a = 4) := by omega
    have h4 : ¬ (a = 5 ∨ a = 10) := by omega
    have h5 : ¬ a = 6 := by omega
    have h6 : ¬ (a = 7 ∨ a = 8 ∨ a = 9) := by omega
    simp [opOkB, h2, h3, h4, h5, h6] at h
  all_goals omega
def Fine (l : List Int) (st a b c : Int) : Prop := (a = 1 ∨ a = 2 → idxI l c < 0 ∨ idxI l c = b) ∧ (a = 8 → st = 0) ∧ (a = 9 → 1 ≤ st ∧ st ≤ 4)
theorem done_both (l : List Int) (st a b c : Int) (hl : l.length = 4) (hst : 0 ≤ st ∧ st ≤ 5) (ho : opOkB a b c = true) :
    ∃ r, Ev (fun k => spec_l4Done.f k l st a b c) r ∧ Ev (fun k => impl_success.f k l st a b c) r ∧ r.1.length ≤ 4 ∧ (r.2 = true → Fine l st a b c) := by
  unfold Fine
  have hs := ev_spec_KeyOf l st c (by omega)
  have hm := ev_impl_KeyOf l st c (by omega)
  generalize idxI l c = t at hs hm ⊢
  have hk := opOk_kind ho
  unfold spec_l4Done.f impl_success.f
  simp only [Option.bind_some]
  have go : ∀ (r : List Int × Bool) (_ : r.1.length ≤ 4 ∧ (r.2 = true → (a = 1 ∨ a = 2 → t < 0 ∨ t = b) ∧ (a = 8 → st = 0) ∧ (a = 9 → 1 ≤ st ∧ st ≤ 4))) (f g : Nat → Int → Option (List Int × Bool)), Ev (fun k => f k t) r → Ev (fun k => g k t) r →
      ∃ r, Ev (fun k => (spec_KeyOf.f k l st c).bind (f k)) r ∧ Ev (fun k => (impl_KeyOf.f k l st c).bind (g k)) r ∧ r.1.length ≤ 4 ∧ (r.2 = true → (a = 1 ∨ a = 2 → t < 0 ∨ t = b) ∧ (a = 8 → st = 0) ∧ (a = 9 → 1 ≤ st ∧ st ≤ 4)) :=
    fun r hr f g h1 h2 => ⟨r, Ev.bind hs h1, Ev.bind hm h2, hr⟩
  have place := opOk_place ho
  rcases (show a = 1 ∨ a = 2 ∨ a = 3 ∨ a = 4 ∨ a = 5 ∨ a = 6 ∨ a = 7 ∨ a = 8 ∨ a = 9 ∨ a = 10 by omega) with rfl | rfl | rfl | rfl | rfl | rfl | rfl | rfl | rfl | rfl
  · obtain ⟨p0, p1⟩ := place (by omega)
    have p2 : b < (l.length : Int) := by omega
    by_cases e : rd l b = 0
    · exact go ([], decide (t < 0)) ⟨by first | exact Nat.le_of_eq hl | simp, fun h => by first | (exfalso; simp at h; done) | (refine ⟨fun h' => ?_, fun h' => ?_, fun h' => ?_⟩ <;> first | omega | (simp [inB] at h; omega))⟩ _ _ (ev_of fun k => by simp [p0, p2, e]) (ev_of fun k => by simp [p0, p2, e])
    · exact go ([], false) ⟨by first | exact Nat.le_of_eq hl | simp, fun h => by first | (exfalso; simp at h; done) | (refine ⟨fun h' => ?_, fun h' => ?_, fun h' => ?_⟩ <;> first | omega | (simp [inB] at h; omega))⟩ _ _ (ev_of fun k => by simp [p0, p2, e]) (ev_of fun k => by simp [p0, p2, e])
  · obtain ⟨p0, p1⟩ := place (by omega)
    have p2 : b < (l.length : Int) := by omega
    by_cases e : rd l b = 0
    · exact go ([], false) ⟨by first | exact Nat.le_of_eq hl | simp, fun h => by first | (exfalso; simp at h; done) | (refine ⟨fun h' => ?_, fun h' => ?_, fun h' => ?_⟩ <;> first | omega | (simp [inB] at h; omega))⟩ _ _ (ev_of fun k => by simp [p0, p2, e]) (ev_of fun k => by simp [p0, p2, e])
    · by_cases et : t < 0
      · exact go ([], true) ⟨by first | exact Nat.le_of_eq hl | simp, fun h => by first | (exfalso; simp at h; done) | (refine ⟨fun h' => ?_, fun h' => ?_, fun h' => ?_⟩ <;> first | omega | (simp [inB] at h; omega))⟩ _ _ (ev_of fun k => by simp [p0, p2, e, et]) (ev_of fun k => by simp [p0, p2, e, et])
      · exact go ([], t == b) ⟨by first | exact Nat.le_of_eq hl | simp, fun h => by first | (exfalso; simp at h; done) | (refine ⟨fun h' => ?_, fun h' => ?_, fun h' => ?_⟩ <;> first | omega | (simp [inB] at h; omega))⟩ _ _ (ev_of fun k => by simp [p0, p2, e, et]) (ev_of fun k => by simp [p0, p2, e, et])
  · obtain ⟨p0, p1⟩ := place (by omega)
    have p2 : b < (l.length : Int) := by omega
    exact go ([], rd l b != 0) ⟨by first | exact Nat.le_of_eq hl | simp, fun h => by first | (exfalso; simp at h; done) | (refine ⟨fun h' => ?_, fun h' => ?_, fun h' => ?_⟩ <;> first | omega | (simp [inB] at h; omega))⟩ _ _ (ev_of fun k => by simp [p0, p2]) (ev_of fun k => by simp [p0, p2])
  · obtain ⟨p0, p1⟩ := place (by omega)
    have p2 : b < (l.length : Int) := by omega
    exact go ([rd l b], rd l b != 0) ⟨by first | exact Nat.le_of_eq hl | simp, fun h => by first | (exfalso; simp at h; done) | (refine ⟨fun h' => ?_, fun h' => ?_, fun h' => ?_⟩ <;> first | omega | (simp [inB] at h; omega))⟩ _ _ (ev_of fun k => by simp [p0, p2]) (ev_of fun k => by simp [p0, p2])
  · exact go ([t], decide (t ≥ 0)) ⟨by first | exact Nat.le_of_eq hl | simp, fun h => by first | (exfalso; simp at h; done) | (refine ⟨fun h' => ?_, fun h' => ?_, fun h' => ?_⟩ <;> first | omega | (simp [inB] at h; omega))⟩ _ _ (ev_of fun k => by simp) (ev_of fun k => by simp)
  · obtain ⟨q, hq1, hq2⟩ := howMany_both l st b (by omega)
    refine go ([q], true) ⟨by first | exact Nat.le_of_eq hl | simp, fun h => by first | (exfalso; simp at h; done) | (refine ⟨fun h' => ?_, fun h' => ?_, fun h' => ?_⟩ <;> first | omega | (simp [inB] at h; omega))⟩ _ _ ?_ ?_
    · exact Ev.bind (f := fun _ x => some ([x], true)) hq1 (Ev.now _)
    · exact Ev.bind (f := fun _ x => some ([x], true)) hq2 (Ev.now _)
  · exact go (l, true) ⟨by first | exact Nat.le_of_eq hl | simp, fun h => by first | (exfalso; simp at h; done) | (refine ⟨fun h' => ?_, fun h' => ?_, fun h' => ?_⟩ <;> first | omega | (simp [inB] at h; omega))⟩ _ _ (ev_of fun k => by simp [hl]) (ev_of fun k => by simp)
  · exact go ([], st == 0) ⟨by first | exact Nat.le_of_eq hl | simp, fun h => by first | (exfalso; simp at h; done) | (refine ⟨fun h' => ?_, fun h' => ?_, fun h' => ?_⟩ <;> first | omega | (simp [inB] at h; omega))⟩ _ _ (ev_of fun k => by simp) (ev_of fun k => by simp)
  · refine go ([], inB st 1 4) ⟨by first | exact Nat.le_of_eq hl | simp, fun h => by first | (exfalso; simp at h; done) | (refine ⟨fun h' => ?_, fun h' => ?_, fun h' => ?_⟩ <;> first | omega | (simp [inB] at h; omega))⟩ _ _ (ev_of fun k => by simp [l1In_eq]) (ev_of fun k => ?_)
    by_cases e : st = 0
    · simp [e, inB]
    · have : inB st 1 4 = !(st == 5) := by
        rw [Bool.eq_iff_iff]; simp [inB]; omega
      simp [e, impl_made.f, this]
  · refine go ([t], decide (st = 5) && decide (t ≥ 0)) ⟨by first | exact Nat.le_of_eq hl | simp, fun h => by first | (exfalso; simp at h; done) | (refine ⟨fun h' => ?_, fun h' => ?_, fun h' => ?_⟩ <;> first | omega | (simp [inB] at h; omega))⟩ _ _ (ev_of fun k => ?_) (ev_of fun k => ?_)
    · by_cases e : st = 5 <;> simp [e]
    · by_cases e : t ≥ 0
      · simp [e, impl_made.f]; rfl
      · simp [e]
theorem fails_both (l : List Int) (st a b c code : Int) (hl : l.length = 4) (_hst : 0 ≤ st ∧ st ≤ 5) (ho : opOkB a b c = true) :
    ∃ r, Ev (fun k => spec_l4Fails.f k l st a b c code) r ∧ Ev (fun k => impl_refusal.f k l st a b c code) r := by
  have hs := ev_spec_KeyOf l st c (by omega)
  have hm := ev_impl_KeyOf l st c (by omega)
  generalize idxI l c = t at hs hm
  have hk := opOk_kind ho
  unfold spec_l4Fails.f impl_refusal.f
  have go : ∀ (r : Bool) (f g : Nat → Int → Option Bool), (∀ k, f (k + 1) t = some r) → (∀ k, g (k + 3) t = some r) →
      ∃ r, Ev (fun k => (spec_KeyOf.f k l st c).bind (f k)) r ∧ Ev (fun k => (impl_KeyOf.f k l st c).bind (g k)) r := by
    intro r f g h1 h2
    refine ⟨r, Ev.bind hs (ev_succ h1), Ev.bind hm ⟨3, fun k hk => ?_⟩⟩
    obtain ⟨j, rfl⟩ : ∃ j, k = j + 3 := ⟨k - 3, by omega⟩
    exact h2 j
  have place := opOk_place ho
  have hx : decide (0 ≤ t) = !decide (t < 0) := by by_cases h : t < 0 <;> simp [h] <;> omega
  have hcode : code = 1 ∨ code = 2 ∨ code = 3 ∨ code = 4 ∨ (¬ code = 1 ∧ ¬ code = 2 ∧ ¬ code = 3 ∧ ¬ code = 4) := by omega
  rcases hcode with rfl | rfl | rfl | rfl | ⟨n1, n2, n3, n4⟩
  · by_cases e : a = 1
    · obtain ⟨p0, p1⟩ := place (by omega)
      have p2 : b < (l.length : Int) := by omega
      exact go (rd l b != 0) _ _ (fun k => by simp [p0, p2, e]) (fun k => by simp [p0, p2, e])
    · exact go false _ _ (fun k => by simp [e]) (fun k => by simp [e])
  · by_cases e : a = 1
    · exact go (decide (t ≥ 0)) _ _ (fun k => by simp [e]) (fun k => by simp [e])
    · by_cases e' : a = 2
      · exact go (decide (t ≥ 0)) _ _ (fun k => by simp [e']) (fun k => by simp [e'])
      · exact go false _ _ (fun k => by simp [e, e']) (fun k => by simp [e, e'])
  · rcases (show (a = 2 ∨ a = 3 ∨ a = 4) ∨ (¬ a = 2 ∧ ¬ a = 3 ∧ ¬ a = 4) by omega) with e | ⟨g2, g3, g4⟩
    · obtain ⟨p0, p1⟩ := place (by omega)
      have p2 : b < (l.length : Int) := by omega
      rcases e with rfl | rfl | rfl
      all_goals exact go (rd l b == 0) _ _ (fun k => by simp [spec_l4Fails.j0, p0, p2]) (fun k => by simp [impl_refusal.j0, p0, p2])
    · by_cases e5 : a = 5
      · refine go (decide (t < 0)) _ _ (fun k => ?_) (fun k => ?_)
        · simp [spec_l4Fails.j0, e5]; exact hx
        · by_cases et : t < 0 <;> simp [impl_refusal.j0, e5, et]
      · by_cases e10 : a = 10
        · refine go (decide (t < 0) && (st == 5)) _ _ (fun k => ?_) (fun k => ?_)
          · by_cases es : st = 5
            · simp [spec_l4Fails.j0, e10, es]; exact hx
            · simp [spec_l4Fails.j0, e10, es]
          · by_cases et : t < 0 <;> simp [impl_refusal.j0, impl_made.f, e10, et]
        · exact go false _ _ (fun k => by simp [spec_l4Fails.j0, g2, g3, g4, e5, e10]) (fun k => by by_cases et : t < 0 <;> simp [impl_refusal.j0, g2, g3, g4, e5, e10, et])
  · by_cases e8 : a = 8
    · exact go (st != 0) _ _ (fun k => by simp [e8]) (fun k => by simp [impl_refusal.j0, impl_refusal.j1, e8])
    · by_cases e9 : a = 9
      · by_cases es : st = 0
        · exact go true _ _ (fun k => by simp [e9, es]) (fun k => by simp [impl_refusal.j0, impl_refusal.j1, impl_refusal.j2, e9, es])
        · exact go (st == 5) _ _ (fun k => by simp [e9, es]) (fun k => by simp [impl_refusal.j0, impl_refusal.j1, impl_refusal.j2, impl_made.f, e9, es])
      · by_cases e10 : a = 10
        · exact go (!(st == 5)) _ _ (fun k => by simp [e10]) (fun k => by simp [impl_refusal.j0, impl_refusal.j1, impl_refusal.j2, impl_made.f, e10])
        · exact go false _ _ (fun k => by simp [e8, e9, e10]) (fun k => by simp [impl_refusal.j0, impl_refusal.j1, impl_refusal.j2, e8, e9, e10])
  · exact go false _ _ (fun k => by simp [n1, n2, n3, n4]) (fun k => by simp [impl_refusal.j0, impl_refusal.j1, impl_refusal.j2, n1, n2, n3, n4])
theorem allowed_both (l : List Int) (st a b c code : Int) (res : List Int) (hl : l.length ≤ 1048576) :
    ∃ r, Ev (fun k => spec_Allowed.f k l st a b c code res) r ∧ Ev (fun k => impl_Allowed.f k l st a b c code res) r ∧ (r = true → rowsOkB l st = true ∧ opOkB a b c = true ∧ (code = 0 → Fine l st a b c)) := by
  have r1 := ev_spec_RowsOk l st hl
  have r2 := ev_impl_RowsOk l st hl
  have o1 := ev_spec_OpOk a b c
  have o2 := ev_impl_OpOk a b c
  unfold spec_Allowed.f impl_Allowed.f
  by_cases hrow : rowsOkB l st = true
  · by_cases hop : opOkB a b c = true
    · rw [hrow] at r1 r2
      rw [hop] at o1 o2
      have hrow' := hrow
      unfold rowsOkB at hrow'
      simp only [Bool.and_eq_true, decide_eq_true_eq, inB_iff] at hrow'
      obtain ⟨_, h4, hst⟩ := hrow'
      have fin : ∀ r, Ev (fun k => spec_Allowed.j0 k false l st a b c code res) r → Ev (fun k => impl_Allowed.j0 k false l st a b c code res) r → (r = true → code = 0 → Fine l st a b c) → _ := fun r j1 j2 j3 =>
        (⟨r, Ev.bind r1 (ev_pos rfl (Ev.bind o1 j1)), Ev.bind r2 (ev_pos rfl (Ev.bind o2 j2)), fun hr => ⟨hrow, hop, j3 hr⟩⟩ : ∃ r, Ev (fun k => (spec_RowsOk.f k l st).bind fun t508 => (if t508 = true then ((spec_OpOk.f k a b c).bind fun t509 => (spec_Allowed.j0 k (!t509) l st a b c code res)) else (spec_Allowed.j0 k true l st a b c code res))) r ∧ Ev (fun k => (impl_RowsOk.f k l st).bind fun t594 => (if t594 = true then ((impl_OpOk.f k a b c).bind fun t595 => (impl_Allowed.j0 k (!t595) l st a b c code res)) else (impl_Allowed.j0 k true l st a b c code res))) r ∧ (r = true → rowsOkB l st = true ∧ opOkB a b c = true ∧ (code = 0 → Fine l st a b c)))
      by_cases hc : code = 0
      · obtain ⟨⟨q, qb⟩, d1, d2, hq4, hfine⟩ := done_both l st a b c h4 hst hop
        cases qb with
        | false =>
          refine fin false (Ev.step (f := fun k => (spec_l4Done.f k l st a b c).bind fun bt => if bt.2 = true then ((spec_l4Ints.f k bt.1 res).bind fun t => some t) else some false) (fun k => by simp [spec_Allowed.j0, hc]) (Ev.bind d1 ?_)) (Ev.step (f := fun k => (impl_success.f k l st a b c).bind fun bt => if bt.2 = true then ((slices_Equal_int_int.f k bt.1 res).bind fun t => some t) else some false) (fun k => by simp [impl_Allowed.j0, hc]) (Ev.bind d2 ?_)) (fun h => by cases h)
          · exact ev_of fun k => by simp
          · exact ev_of fun k => by simp
        | true =>
          have hq : q.length ≤ 1048576 := Nat.le_trans hq4 (by omega)
          have i1 : Ev (fun k => spec_l4Ints.f k q res) (decide (q = res)) := ev_Ints q res hq
          have i2 : Ev (fun k => slices_Equal_int_int.f k q res) (decide (q = res)) := ev_Equal q res hq
          refine fin (decide (q = res)) (Ev.step (f := fun k => (spec_l4Done.f k l st a b c).bind fun bt => if bt.2 = true then ((spec_l4Ints.f k bt.1 res).bind fun t => some t) else some false) (fun k => by simp [spec_Allowed.j0, hc]) (Ev.bind d1 ?_)) (Ev.step (f := fun k => (impl_success.f k l st a b c).bind fun bt => if bt.2 = true then ((slices_Equal_int_int.f k bt.1 res).bind fun t => some t) else some false) (fun k => by simp [impl_Allowed.j0, hc]) (Ev.bind d2 ?_)) (fun _ _ => hfine rfl)
          · exact ev_pos rfl (Ev.bind (f := fun _ t => some t) i1 (Ev.now _))
          · exact ev_pos rfl (Ev.bind (f := fun _ t => some t) i2 (Ev.now _))
      · by_cases hz : res.length = 0
        · obtain ⟨q, d1, d2⟩ := fails_both l st a b c code h4 hst hop
          refine fin q (Ev.step (f := fun k => (spec_l4Fails.f k l st a b c code).bind fun t => some t) (fun k => by simp [spec_Allowed.j0, hc, hz]) (Ev.bind (f := fun _ t => some t) d1 (Ev.now _))) (Ev.step (f := fun k => (impl_refusal.f k l st a b c code).bind fun t => some t) (fun k => by simp [impl_Allowed.j0, hc, hz]) (Ev.bind (f := fun _ t => some t) d2 (Ev.now _))) (fun _ h0 => absurd h0 hc)
        · refine fin false (ev_succ fun k => ?_) (ev_succ fun k => ?_) (fun h => by cases h)
          · have : ¬ (res.length : Int) = 0 := by omega
            simp only [spec_Allowed.j0]; rw [if_neg (by simp), if_neg hc, if_neg this]
          · have : ¬ (res.length : Int) = 0 := by omega
            simp only [impl_Allowed.j0]; rw [if_neg (by simp), if_neg hc, if_neg this]
    · have hop' : opOkB a b c = false := by simpa using hop
      rw [hrow] at r1 r2
      rw [hop'] at o1 o2
      exact ⟨false, Ev.bind r1 (ev_pos rfl (Ev.bind o1 (ev_succ fun k => by simp [spec_Allowed.j0]))), Ev.bind r2 (ev_pos rfl (Ev.bind o2 (ev_succ fun k => by simp [impl_Allowed.j0]))), fun h => by simp at h⟩
  · have hrow' : rowsOkB l st = false := by simpa using hrow
    rw [hrow'] at r1 r2
    exact ⟨false, Ev.bind r1 (ev_neg (by simp) (ev_succ fun k => by simp [spec_Allowed.j0])), Ev.bind r2 (ev_neg (by simp) (ev_succ fun k => by simp [impl_Allowed.j0])), fun h => by simp at h⟩
theorem not_mem_of_neg {l : List Int} {v : Int} (h : idxI l v < 0) : v ∉ l := by
  rcases idxFrom_bd v l 0 with h1 | ⟨h1, _⟩
  · exact (idxFrom_mem v l 0).1 h1
  · unfold idxI at h; omega
theorem neg_of_not_mem {l : List Int} {v : Int} (h : v ∉ l) : ¬ idxI l v ≥ 0 := by
  have := (idxFrom_mem v l 0).2 h
  unfold idxI; omega
theorem getD_mem {l : List Int} {i : Nat} (h : i < l.length) : l.getD i 0 ∈ l := by rw [getD_at h]; exact List.getElem_mem h
theorem take_free {l : List Int} {i : Nat} {v : Int} (hi : i ≤ l.length) : v ∉ l.take i ↔ ∀ j, j < i → l.getD j 0 ≠ v := by
  rw [List.mem_iff_getElem]
  constructor
  · intro h j hj e
    exact h ⟨j, by simp; omega, by rw [List.getElem_take, ← getD_at (show j < l.length by omega)]; exact e⟩
  · rintro h ⟨j, hj, e⟩
    have hj' : j < min i l.length := by simpa using hj
    rw [List.getElem_take, ← getD_at (show j < l.length by omega)] at e
    exact h j (by omega) e
theorem rowB_iff {l : List Int} {i : Nat} (hi : i < l.length) : rowB l i = true ↔ l.getD i 0 = 0 ∨ ((1 ≤ l.getD i 0 ∧ l.getD i 0 ≤ 6) ∧ ∀ j, j < i → l.getD j 0 ≠ l.getD i 0) := by
  unfold rowB
  rw [Bool.or_eq_true, Bool.and_eq_true, decide_eq_true_eq, decide_eq_true_eq, inB_iff, idx_first l i hi, ← take_free (Nat.le_of_lt hi)]
  constructor
  · rintro (h | ⟨h1, h2⟩)
    · exact .inl h
    · exact .inr ⟨h1, not_mem_of_neg (by omega)⟩
  · rintro (h | ⟨h1, h2⟩)
    · exact .inl h
    · exact .inr ⟨h1, neg_of_not_mem h2⟩
theorem rowsOk_iff {l : List Int} {st : Int} : rowsOkB l st = true ↔ (∀ i, i < l.length → rowB l i = true) ∧ l.length = 4 ∧ 0 ≤ st ∧ st ≤ 5 := by
  unfold rowsOkB
  simp only [Bool.and_eq_true, decide_eq_true_eq, inB_iff, List.all_eq_true, List.mem_range]
theorem getD_set {l : List Int} {b i : Nat} {c : Int} (hi : i < l.length) : (l.set b c).getD i 0 = if i = b then c else l.getD i 0 := by
  rw [getD_at (show i < (l.set b c).length by simpa using hi), getD_at hi, List.getElem_set]
  by_cases e : b = i
  · rw [if_pos e, if_pos e.symm]
  · rw [if_neg e, if_neg (Ne.symm e)]
theorem rows_set {l : List Int} {st c : Int} {b : Nat} (h : rowsOkB l st = true) (hc : c = 0 ∨ ((1 ≤ c ∧ c ≤ 6) ∧ ∀ i, i < l.length → i ≠ b → l.getD i 0 ≠ c)) : rowsOkB (l.set b c) st = true := by
  rw [rowsOk_iff] at h ⊢
  refine ⟨fun i hi => ?_, by simpa using h.2.1, h.2.2⟩
  have hi' : i < l.length := by simpa using hi
  have h0 := (rowB_iff hi').1 (h.1 i hi')
  rw [rowB_iff hi, getD_set hi']
  by_cases e : i = b
  · rw [if_pos e]
    rcases hc with hc | ⟨h1, h2⟩
    · exact .inl hc
    · refine .inr ⟨h1, fun j hj => ?_⟩
      rw [getD_set (by omega), if_neg (by omega)]
      exact h2 j (by omega) (by omega)
  · rw [if_neg e]
    rcases h0 with h0 | ⟨h1, h2⟩
    · exact .inl h0
    · refine .inr ⟨h1, fun j hj => ?_⟩
      rw [getD_set (by omega)]
      by_cases ej : j = b
      · rw [if_pos ej]
        rcases hc with hc | ⟨_, h4⟩
        · omega
        · exact Ne.symm (h4 i hi' e)
      · rw [if_neg ej]; exact h2 j hj
theorem free_else {l : List Int} {st c b : Int} (h : rowsOkB l st = true) (hc : 1 ≤ c) (hf : idxI l c < 0 ∨ idxI l c = b) : ∀ i, i < l.length → i ≠ b.toNat → l.getD i 0 ≠ c := by
  intro i hi hb e
  rcases hf with hf | hf
  · exact not_mem_of_neg hf (e ▸ getD_mem hi)
  · have h0 := (rowB_iff hi).1 ((rowsOk_iff.1 h).1 i hi)
    rcases h0 with h0 | ⟨_, h2⟩
    · omega
    · have h3 := (idx_first l i hi).2 (neg_of_not_mem ((take_free (Nat.le_of_lt hi)).2 h2))
      rw [e, hf] at h3
      omega
theorem opOk_val {a b c : Int} (h : opOkB a b c = true) (ha : a = 1 ∨ a = 2) : 1 ≤ c ∧ c ≤ 6 := by
  rcases ha with rfl | rfl <;> simp [opOkB, inB] at h <;> omega
theorem after_both (l : List Int) (st a b c code : Int) (res : List Int) (hl : l.length ≤ 1048576) :
    ∃ q r, Ev (fun k => spec_Allowed.f k l st a b c code res) q ∧ Ev (fun k => impl_Allowed.f k l st a b c code res) q ∧ Ev (fun k => spec_After.f k l st a b c code res) r ∧ Ev (fun k => impl_After.f k l st a b c code res) r ∧ r.1.length = l.length ∧
      (q = false ∨ code ≠ 0 → r = (l, st)) ∧ (q = true → code = 0 → rowsOkB r.1 r.2 = true) := by
  obtain ⟨q, a1, a2, hq⟩ := allowed_both l st a b c code res hl
  refine ⟨q, ?_⟩
  have a1' := a1
  have a2' := a2
  have c1 : spec_l3Copy.f l st = some (l, st) := by
    simp only [spec_l3Copy.f, Option.bind_some]
    rw [if_pos (by simp; omega)]; simp
  have c2 : impl_copyRows.f l st = some (l, st) := by
    simp only [impl_copyRows.f, slices_Clone_int_int.f]
    rw [if_pos (by omega)]; rfl
  unfold spec_After.f impl_After.f
  simp only [c1, c2, Option.bind_some]
  have fin : ∀ r, (r.1.length = l.length ∧ (q = false ∨ code ≠ 0 → r = (l, st)) ∧ (q = true → code = 0 → rowsOkB r.1 r.2 = true)) → Ev (fun k => if q = true then (spec_After.j0 k (code != 0) l st a b c l st) else (spec_After.j0 k true l st a b c l st)) r → Ev (fun k => if q = true then (impl_After.j0 k (code != 0) a b c l st) else (impl_After.j0 k true a b c l st)) r → _ := fun r hr j1 j2 =>
    (⟨r, a1', a2', Ev.bind a1 j1, Ev.bind a2 j2, hr⟩ : ∃ r, Ev (fun k => spec_Allowed.f k l st a b c code res) q ∧ Ev (fun k => impl_Allowed.f k l st a b c code res) q ∧ Ev (fun k => (spec_Allowed.f k l st a b c code res).bind fun t533 => (if t533 = true then (spec_After.j0 k (code != 0) l st a b c l st) else (spec_After.j0 k true l st a b c l st))) r ∧ Ev (fun k => (impl_Allowed.f k l st a b c code res).bind fun t616 => (if t616 = true then (impl_After.j0 k (code != 0) a b c l st) else (impl_After.j0 k true a b c l st))) r ∧ r.1.length = l.length ∧ (q = false ∨ code ≠ 0 → r = (l, st)) ∧ (q = true → code = 0 → rowsOkB r.1 r.2 = true))
  cases q with
  | false => exact fin (l, st) ⟨rfl, fun _ => rfl, fun h => by cases h⟩ (ev_neg (by simp) (ev_succ fun k => by simp [spec_After.j0])) (ev_neg (by simp) (ev_succ fun k => by simp [impl_After.j0]))
  | true =>
    obtain ⟨hrow, hop, hfine⟩ := hq rfl
    by_cases hc : code = 0
    · subst hc
      have two : ∀ (g : Nat → Option (List Int × Int)) (r : List Int × Int), (∀ k, g (k + 2) = some r) → Ev g r := fun g r h => ⟨2, fun k hk => by
        obtain ⟨j, rfl⟩ : ∃ j, k = j + 2 := ⟨k - 2, by omega⟩
        exact h j⟩
      have hf := hfine rfl
      have hrow' := hrow
      unfold rowsOkB at hrow'
      simp only [Bool.and_eq_true, decide_eq_true_eq, inB_iff] at hrow'
      obtain ⟨_, h4, hst⟩ := hrow'
      have no : ∀ {r : List Int × Int}, (true = false ∨ (0 : Int) ≠ 0 → r = (l, st)) := fun h => by rcases h with h | h <;> simp at h
      have hk := opOk_kind hop
      have place := opOk_place hop
      by_cases e12 : a = 1 ∨ a = 2
      · obtain ⟨p0, p1⟩ := place (by omega)
        have p2 : b < (l.length : Int) := by omega
        rcases e12 with rfl | rfl
        all_goals exact fin (l.set b.toNat c, st) ⟨by simp, no, fun _ _ => rows_set hrow (.inr ⟨opOk_val hop (by omega), free_else hrow (opOk_val hop (by omega)).1 (hf.1 (by omega))⟩)⟩ (ev_pos rfl (two _ _ fun k => by simp [spec_After.j0, spec_After.j1, p0, p2])) (ev_pos rfl (two _ _ fun k => by simp [impl_After.j0, impl_After.j1, p0, p2]))
      · have n1 : ¬ a = 1 := by omega
        have n2 : ¬ a = 2 := by omega
        by_cases e3 : a = 3
        · obtain ⟨p0, p1⟩ := place (by omega)
          have p2 : b < (l.length : Int) := by omega
          exact fin (l.set b.toNat 0, st) ⟨by simp, no, fun _ _ => rows_set hrow (.inl rfl)⟩ (ev_pos rfl (two _ _ fun k => by simp [spec_After.j0, spec_After.j1, p0, p2, e3])) (ev_pos rfl (two _ _ fun k => by simp [impl_After.j0, impl_After.j1, p0, p2, e3]))
        · by_cases e8 : a = 8
          · have hs8 := hf.2.1 e8
            exact fin (l, wrap64 (st + 1)) ⟨rfl, no, fun _ _ => by rw [wrap_in (by omega) (by omega)]; rw [rowsOk_iff] at hrow ⊢; exact ⟨hrow.1, hrow.2.1, by simp only; omega⟩⟩ (ev_pos rfl (two _ _ fun k => by simp [spec_After.j0, spec_After.j1, e8])) (ev_pos rfl (two _ _ fun k => by simp [impl_After.j0, impl_After.j1, e8]))
          · by_cases e9 : a = 9
            · have hs9 := hf.2.2 e9
              exact fin (l, wrap64 (st + 1)) ⟨rfl, no, fun _ _ => by rw [wrap_in (by omega) (by omega)]; rw [rowsOk_iff] at hrow ⊢; exact ⟨hrow.1, hrow.2.1, by simp only; omega⟩⟩ (ev_pos rfl (two _ _ fun k => by simp [spec_After.j0, spec_After.j1, e9])) (ev_pos rfl (two _ _ fun k => by simp [impl_After.j0, impl_After.j1, e9]))
            · exact fin (l, st) ⟨rfl, no, fun _ _ => hrow⟩ (ev_pos rfl (two _ _ fun k => by simp [spec_After.j0, spec_After.j1, n1, n2, e3, e8, e9])) (ev_pos rfl (two _ _ fun k => by simp [impl_After.j0, impl_After.j1, n1, n2, e3, e8, e9]))
    · have hc' : (code != 0) = true := by simpa using hc
      exact fin (l, st) ⟨rfl, fun _ => rfl, fun _ h => absurd h hc⟩ (ev_pos rfl (ev_succ fun k => by simp [spec_After.j0, hc'])) (ev_pos rfl (ev_succ fun k => by simp [impl_After.j0, hc']))
end Go.Proofs.Ytopikhjcbcpiaaa.Q
end
section
namespace Go.Proofs.Ytopikhjcbcpiaaa.Q
open Go.RowKit Go.Proofs.YtopikhjcbcpiaaaW.PrintWords Go.Proofs.YtopikhjcbcpiaaaX
theorem and255 (n : Int) : Go.bits .and .i64 n 255 = n % 256 := by
  have h255 : (BitVec.ofInt 64 255).toNat = 2 ^ 8 - 1 := by decide
  have key : (BitVec.ofInt 64 n &&& BitVec.ofInt 64 255).toNat = (n % ((2 ^ 64 : Nat) : Int)).toNat % 2 ^ 8 := by
    rw [BitVec.toNat_and, BitVec.toNat_ofInt, h255, Nat.and_two_pow_sub_one_eq_mod]
  show IntKind.i64.wrap ((BitVec.ofInt 64 n &&& BitVec.ofInt 64 255).toNat : Nat) = n % 256
  rw [key, IntKind.wrap_i64]
  omega
theorem byte_ok (s : List Int) (p q : Int) (h : 0 ≤ p) (hs : s.length ≤ 1048576) : ∃ v p' q', spec_l1Byte.f s p q = some (v, p', q') ∧ 0 ≤ v ∧ v < 256 ∧ 0 ≤ p' := by
  unfold spec_l1Byte.f
  by_cases e : p < (s.length : Int)
  · rw [if_pos e, if_pos h]
    refine ⟨_, _, _, rfl, ?_, ?_, ?_⟩
    · rw [and255]; omega
    · rw [and255]; omega
    · rw [wrap_in (by omega) (by omega)]; omega
  · rw [if_neg e]
    refine ⟨_, _, _, rfl, ?_, ?_, h⟩
    · rw [and255]; omega
    · rw [and255]; omega
theorem below_ok (s : List Int) (p q a : Int) (h : 0 ≤ p) (hs : s.length ≤ 1048576) (h0 : 0 < a) (h1 : a ≤ 256) : ∃ v p' q', spec_l1Below.f s p q a = some (v, p', q') ∧ 0 ≤ v ∧ v < a ∧ 0 ≤ p' := by
  obtain ⟨v, p', q', e, v0, v1, hp⟩ := byte_ok s p q h hs
  unfold spec_l1Below.f
  rw [if_neg (by omega), if_pos h1, e]
  refine ⟨Int.tmod v a, p', q', ?_, Int.tmod_nonneg _ v0, Int.tmod_lt_of_pos _ h0, hp⟩
  simp only [Option.bind_some]
  rw [if_neg (by omega)]
theorem pick_ok (s : List Int) (p q : Int) (l : List Int) (h : 0 ≤ p) (hs : s.length ≤ 1048576) (h0 : 0 < l.length) (h1 : l.length ≤ 256) : ∃ v p' q', spec_l1PickInt.f s p q l = some (v, p', q') ∧ 0 ≤ p' := by
  obtain ⟨v, p', q', e, v0, v1, hp⟩ := below_ok s p q l.length h hs (by omega) (by omega)
  unfold spec_l1PickInt.f
  rw [e]
  refine ⟨rd l v, p', q', ?_, hp⟩
  simp only [Option.bind_some]
  rw [if_pos v0, if_pos v1]
theorem once_ok (s : List Int) (p q a : Int) (h : 0 ≤ p) (hs : s.length ≤ 1048576) (h0 : 0 < a) (h1 : a ≤ 256) : ∃ v p' q', spec_l1Once.f s p q a = some (v, p', q') ∧ 0 ≤ p' := by
  obtain ⟨v, p', q', e, v0, v1, hp⟩ := below_ok s p q a h hs h0 h1
  unfold spec_l1Once.f
  rw [e]
  exact ⟨_, p', q', rfl, hp⟩
theorem ev_new (l : List Int) (hl : l.length ≤ 1048576) : ∃ q, Ev (fun k => spec_l1New.f k l) (l, 0, q) := by
  have key : ∀ (d i : Nat) (x : Int), i + d = l.length → ∃ q, Ev (fun k => spec_l1New.l0 k l x (i : Int)) (l, 0, q) := by
    intro d
    induction d with
    | zero =>
      intro i x hi
      refine ⟨x, ev_succ (fun k => ?_)⟩
      simp only [spec_l1New.l0]
      rw [if_neg (by omega)]
    | succ d ih =>
      intro i x hi
      by_cases h4 : (i : Int) < 4000
      · obtain ⟨q, hq⟩ := ih (i + 1) (Go.bits .and .i64 (wrap64 ((wrap64 ((wrap64 (x * 131)) + (wrap64 (rd l (i : Int))))) + 7)) 1073741823) (by omega)
        refine ⟨q, Ev.step (fun k => ?_) hq⟩
        simp only [spec_l1New.l0]
        rw [if_pos (by omega), if_pos h4, if_pos (by omega), wrap_succ (show i < l.length by omega) (by omega)]
      · refine ⟨x, ev_succ (fun k => ?_)⟩
        simp only [spec_l1New.l0]
        rw [if_pos (by omega), if_neg h4]
  obtain ⟨q, hq⟩ := key l.length 0 (wrap64 (27323 + (l.length : Int))) (by omega)
  exact ⟨q, hq⟩
theorem ev_l3DrawRight (s : List Int) (p q : Int) (hp : 0 ≤ p) (hs : s.length ≤ 1048576) : ∃ l st p' q', Ev (fun k => spec_l3DrawRight.f k s p q) (l, st, p', q') ∧ l.length = 4 ∧ 0 ≤ p' := by
  have key : ∀ (d i : Nat) (p q : Int) (l : List Int), i + d = 4 → 0 ≤ p → l.length = 4 → ∃ l' st p' q', Ev (fun k => spec_l3DrawRight.l0 k (i : Int) s p q l 0) (l', st, p', q') ∧ l'.length = 4 ∧ 0 ≤ p' := by
    intro d
    induction d with
    | zero =>
      intro i p q l hi hp hl
      obtain ⟨v, p', q', e, hp'⟩ := pick_ok s p q [0, 0, 1, 3, 5] hp hs (by simp) (by simp)
      refine ⟨l, v, p', q', ev_succ (fun k => ?_), hl, hp'⟩
      simp only [spec_l3DrawRight.l0]
      rw [if_neg (by omega), e]
      rfl
    | succ d ih =>
      intro i p q l hi hp hl
      obtain ⟨v, p', q', e, _, _, hp'⟩ := below_ok s p q 7 hp hs (by omega) (by omega)
      have hk := ev_spec_KeyOf l 0 v (by omega)
      have e1 : wrap64 ((i : Int) + 1) = ((i + 1 : Nat) : Int) := wrap_succ (n := 4) (by omega) (by omega)
      by_cases ht : idxI l v < 0
      · obtain ⟨l', st, p2, q2, h1, h2, h3⟩ := ih (i + 1) p' q' (l.set i v) (by omega) hp' (by simpa using hl)
        refine ⟨l', st, p2, q2, Ev.step (f := fun k => (spec_KeyOf.f k l 0 v).bind fun t => if t < 0 then spec_l3DrawRight.l0 k ((i + 1 : Nat) : Int) s p' q' (l.set i v) 0 else spec_l3DrawRight.l0 k ((i + 1 : Nat) : Int) s p' q' l 0) (fun k => ?_) (Ev.bind hk (ev_pos ht h1)), h2, h3⟩
        simp only [spec_l3DrawRight.l0]
        rw [if_pos (by omega), e]
        simp only [Option.bind_some, e1]
        rw [if_pos (show (0 : Int) ≤ (i : Int) by omega), if_pos (show (i : Int) < (l.length : Int) by omega)]
        rfl
      · obtain ⟨l', st, p2, q2, h1, h2, h3⟩ := ih (i + 1) p' q' l (by omega) hp' hl
        refine ⟨l', st, p2, q2, Ev.step (f := fun k => (spec_KeyOf.f k l 0 v).bind fun t => if t < 0 then spec_l3DrawRight.l0 k ((i + 1 : Nat) : Int) s p' q' (l.set i v) 0 else spec_l3DrawRight.l0 k ((i + 1 : Nat) : Int) s p' q' l 0) (fun k => ?_) (Ev.bind hk (ev_neg ht h1)), h2, h3⟩
        simp only [spec_l3DrawRight.l0]
        rw [if_pos (by omega), e]
        simp only [Option.bind_some, e1]
        rw [if_pos (show (0 : Int) ≤ (i : Int) by omega), if_pos (show (i : Int) < (l.length : Int) by omega)]
        rfl
  obtain ⟨l', st, p', q', h1, h2, h3⟩ := key 4 0 p q (List.replicate 4 0) (by omega) hp (by simp)
  refine ⟨l', st, p', q', ?_, h2, h3⟩
  simpa [spec_l3DrawRight.f, spec_RowsNew.f] using h1
theorem ev_l3Draw (s : List Int) (p q : Int) (hp : 0 ≤ p) (hs : s.length ≤ 1048576) : ∃ l st p' q', Ev (fun k => spec_l3Draw.f k s p q) (l, st, p', q') ∧ l.length ≤ 4 ∧ 0 ≤ p' := by
  obtain ⟨l, st, p1, q1, h1, hl, hp1⟩ := ev_l3DrawRight s p q hp hs
  obtain ⟨v, p2, q2, e2, _, _, hp2⟩ := below_ok s p1 q1 8 hp1 hs (by omega) (by omega)
  unfold spec_l3Draw.f
  by_cases v0 : v = 0
  · obtain ⟨x, p3, q3, e3, hp3⟩ := pick_ok s p2 q2 [-1, 6, 7] hp2 hs (by simp) (by simp)
    exact ⟨l.set 1 x, st, p3, q3, Ev.bind h1 (ev_of fun k => by simp [e2, e3, v0, hl]), by simp [hl], hp3⟩
  · by_cases v1 : v = 1
    · exact ⟨(l.set 0 3).set 3 3, st, p2, q2, Ev.bind h1 (ev_of fun k => by simp [e2, v1, hl]), by simp [hl], hp2⟩
    · by_cases v2 : v = 2
      · obtain ⟨x, p3, q3, e3, hp3⟩ := pick_ok s p2 q2 [-1, 5, 6] hp2 hs (by simp) (by simp)
        exact ⟨l, x, p3, q3, Ev.bind h1 (ev_of fun k => by simp [e2, e3, v2]), by omega, hp3⟩
      · by_cases v3 : v = 3
        · exact ⟨l.take 2, st, p2, q2, Ev.bind h1 (ev_of fun k => by simp [e2, v3, hl]), by simp; omega, hp2⟩
        · exact ⟨l, st, p2, q2, Ev.bind h1 (ev_of fun k => by simp [e2, v0, v1, v2, v3]), by omega, hp2⟩
theorem ev_l4DrawRight (s : List Int) (p q : Int) (hp : 0 ≤ p) (hs : s.length ≤ 1048576) : ∃ a b c p' q', Ev (fun k => spec_l4DrawRight.f k s p q) (a, b, c, p', q') ∧ 0 ≤ p' := by
  obtain ⟨a, p1, q1, e1, hp1⟩ := pick_ok s p q [1, 1, 1, 2, 2, 3, 4, 5, 6, 7, 8, 9, 9, 10] hp hs (by simp) (by simp)
  have j1 : ∀ (b : Int) (p q : Int), 0 ≤ p → ∃ c p' q', Ev (fun k => spec_l4DrawRight.j1 k s p q a b 0) (a, b, c, p', q') ∧ 0 ≤ p' := by
    intro b p q hp
    obtain ⟨v, p2, q2, e2, _, _, hp2⟩ := below_ok s p q 4 hp hs (by omega) (by omega)
    by_cases hv : spec_l4Val.f a = some true
    · exact ⟨wrap64 (1 + v), p2, q2, ev_succ fun k => by simp [spec_l4DrawRight.j1, hv, e2], hp2⟩
    · have hv' : spec_l4Val.f a = some false := by
        unfold spec_l4Val.f at hv ⊢
        by_cases x1 : a = 1
        · simp [x1] at hv
        · by_cases x2 : a = 2
          · simp [x2] at hv
          · by_cases x5 : a = 5
            · simp [x5] at hv
            · simp [x1, x2, x5] at hv ⊢
              exact hv
      exact ⟨0, p, q, ev_succ fun k => by simp [spec_l4DrawRight.j1, hv'], hp⟩
  have j0 : ∀ (b : Int) (p q : Int), 0 ≤ p → ∃ b' c p' q', Ev (fun k => spec_l4DrawRight.j0 k s p q a b 0) (a, b', c, p', q') ∧ 0 ≤ p' := by
    intro b p q hp
    by_cases h6 : a = 6
    · obtain ⟨v, p2, q2, e2, _, _, hp2⟩ := below_ok s p q 3 hp hs (by omega) (by omega)
      obtain ⟨c, p', q', h1, h2⟩ := j1 v p2 q2 hp2
      exact ⟨v, c, p', q', Ev.step (fun k => by simp only [spec_l4DrawRight.j0]; rw [if_pos h6, e2]; rfl) h1, h2⟩
    · obtain ⟨c, p', q', h1, h2⟩ := j1 b p q hp
      exact ⟨b, c, p', q', Ev.step (fun k => by simp only [spec_l4DrawRight.j0]; rw [if_neg h6]) h1, h2⟩
  unfold spec_l4DrawRight.f
  simp only [e1, Option.bind_some, spec_l4Key.f, l1In_eq]
  by_cases hk : inB a 1 4 = true
  · obtain ⟨v, p2, q2, e2, _, _, hp2⟩ := below_ok s p1 q1 4 hp1 hs (by omega) (by omega)
    obtain ⟨b, c, p', q', h1, h2⟩ := j0 v p2 q2 hp2
    refine ⟨a, b, c, p', q', ev_pos hk ?_, h2⟩
    simp only [e2, Option.bind_some]
    exact h1
  · obtain ⟨b, c, p', q', h1, h2⟩ := j0 0 p1 q1 hp1
    exact ⟨a, b, c, p', q', ev_neg hk h1, h2⟩
theorem ev_l4Draw (s : List Int) (p q : Int) (hp : 0 ≤ p) (hs : s.length ≤ 1048576) : ∃ a b c p' q', Ev (fun k => spec_l4Draw.f k s p q) (a, b, c, p', q') ∧ 0 ≤ p' := by
  obtain ⟨a, b, c, p1, q1, h1, hp1⟩ := ev_l4DrawRight s p q hp hs
  obtain ⟨v, p2, q2, e2, _, _, hp2⟩ := below_ok s p1 q1 10 hp1 hs (by omega) (by omega)
  unfold spec_l4Draw.f
  by_cases v0 : v = 0
  · obtain ⟨x, p3, q3, e3, _, _, hp3⟩ := below_ok s p2 q2 13 hp2 hs (by omega) (by omega)
    exact ⟨_, b, c, p3, q3, Ev.bind h1 (ev_of fun k => by simp [e2, e3, v0]; rfl), hp3⟩
  · by_cases v1 : v = 1
    · obtain ⟨x, p3, q3, e3, _, _, hp3⟩ := below_ok s p2 q2 7 hp2 hs (by omega) (by omega)
      exact ⟨a, _, c, p3, q3, Ev.bind h1 (ev_of fun k => by simp [e2, e3, v1]; rfl), hp3⟩
    · by_cases v2 : v = 2
      · obtain ⟨x, p3, q3, e3, _, _, hp3⟩ := below_ok s p2 q2 9 hp2 hs (by omega) (by omega)
        exact ⟨a, b, _, p3, q3, Ev.bind h1 (ev_of fun k => by simp [e2, e3, v2]; rfl), hp3⟩
      · exact ⟨a, b, c, p2, q2, Ev.bind h1 (ev_of fun k => by simp [e2, v0, v1, v2]), hp2⟩
theorem ev_l4DrawRes (s : List Int) (p q : Int) (l : List Int) (st a b c : Int) (hp : 0 ≤ p) (hs : s.length ≤ 1048576) (hl : l.length ≤ 1048576) :
    ∃ code res p' q', Ev (fun k => spec_l4DrawRes.f k s p q l st a b c) (code, res, p', q') ∧ res.length ≤ 4 ∧ 0 ≤ p' := by
  have j1 : ∀ p q : Int, 0 ≤ p → ∃ code res p' q', Ev (fun k => spec_l4DrawRes.j1 k s p q) (code, res, p', q') ∧ res.length ≤ 4 ∧ 0 ≤ p' := by
    intro p q hp
    obtain ⟨v, p1, q1, e1, _, _, hp1⟩ := below_ok s p q 7 hp hs (by omega) (by omega)
    obtain ⟨y, p2, q2, e2, hp2⟩ := once_ok s p1 q1 4 hp1 hs (by omega) (by omega)
    cases y with
    | true =>
      obtain ⟨x, p3, q3, e3, _, _, hp3⟩ := below_ok s p2 q2 4 hp2 hs (by omega) (by omega)
      exact ⟨wrap64 (v - 1), [x], p3, q3, ev_succ fun k => by simp [spec_l4DrawRes.j1, e1, e2, e3], by simp, hp3⟩
    | false => exact ⟨wrap64 (v - 1), [], p2, q2, ev_succ fun k => by simp [spec_l4DrawRes.j1, e1, e2], by simp, hp2⟩
  have r1 := ev_spec_RowsOk l st hl
  have o1 := ev_spec_OpOk a b c
  unfold spec_l4DrawRes.f
  have no : ∀ p q : Int, 0 ≤ p → ∃ code res p' q', Ev (fun k => spec_l4DrawRes.j0 k false s p q l st a b c) (code, res, p', q') ∧ res.length ≤ 4 ∧ 0 ≤ p' := by
    intro p q hp
    obtain ⟨code, res, p', q', h1, h2, h3⟩ := j1 p q hp
    exact ⟨code, res, p', q', Ev.step (fun k => by simp only [spec_l4DrawRes.j0]; rw [if_neg (by simp)]) h1, h2, h3⟩
  by_cases hrow : rowsOkB l st = true
  · rw [hrow] at r1
    by_cases hop : opOkB a b c = true
    · rw [hop] at o1
      obtain ⟨y, p2, q2, e2, hp2⟩ := once_ok s p q 3 hp hs (by omega) (by omega)
      have fin : ∃ code res p' q', Ev (fun k => spec_l4DrawRes.j0 k (!y) s p2 q2 l st a b c) (code, res, p', q') ∧ res.length ≤ 4 ∧ 0 ≤ p' := by
        cases y with
        | true => exact no p2 q2 hp2
        | false =>
          unfold rowsOkB at hrow
          simp only [Bool.and_eq_true, decide_eq_true_eq, inB_iff] at hrow
          obtain ⟨_, h4, hst⟩ := hrow
          obtain ⟨⟨res, y2⟩, d1, _, d3⟩ := done_both l st a b c h4 hst hop
          have d3' : res.length ≤ 4 := d3.1
          have st0 : ∀ k, spec_l4DrawRes.j0 (k + 1) (!false) s p2 q2 l st a b c = (spec_l4Done.f k l st a b c).bind fun bt828 => (if bt828.2 = true then (some (0, bt828.1, p2, q2)) else (spec_l4DrawRes.j1 k s p2 q2)) := fun k => by
            simp only [spec_l4DrawRes.j0]; rw [if_pos (by rfl)]
          cases y2 with
          | true => exact ⟨0, res, p2, q2, Ev.step st0 (Ev.bind d1 (ev_pos rfl (Ev.now _))), d3', hp2⟩
          | false =>
            obtain ⟨code, res', p', q', h1, h2, h3⟩ := j1 p2 q2 hp2
            exact ⟨code, res', p', q', Ev.step st0 (Ev.bind d1 (ev_neg (by simp) h1)), h2, h3⟩
      obtain ⟨code, res, p', q', h1, h2, h3⟩ := fin
      refine ⟨code, res, p', q', Ev.bind r1 (ev_pos rfl (Ev.bind o1 (ev_pos rfl ?_))), h2, h3⟩
      simp only [e2, Option.bind_some]
      exact h1
    · have hop' : opOkB a b c = false := by simpa using hop
      rw [hop'] at o1
      obtain ⟨code, res, p', q', h1, h2, h3⟩ := no p q hp
      exact ⟨code, res, p', q', Ev.bind r1 (ev_pos rfl (Ev.bind o1 (ev_neg (by simp) h1))), h2, h3⟩
  · have hrow' : rowsOkB l st = false := by simpa using hrow
    rw [hrow'] at r1
    obtain ⟨code, res, p', q', h1, h2, h3⟩ := no p q hp
    exact ⟨code, res, p', q', Ev.bind r1 (ev_neg (by simp) h1), h2, h3⟩
theorem ev_DrawAllowed (s : List Int) (hs : s.length ≤ 1048576) : ∃ l st a b c code res, Ev (fun k => spec_DrawAllowed.f k s) (l, st, a, b, c, code, res) ∧ l.length ≤ 4 ∧ res.length ≤ 4 := by
  obtain ⟨q, h1⟩ := ev_new s hs
  obtain ⟨l, st, p2, q2, h2, hl, hp2⟩ := ev_l3Draw s 0 q (by omega) hs
  obtain ⟨a, b, c, p3, q3, h3, hp3⟩ := ev_l4Draw s p2 q2 hp2 hs
  obtain ⟨code, res, p4, q4, h4, hr, _⟩ := ev_l4DrawRes s p3 q3 l st a b c hp3 hs (by omega)
  exact ⟨l, st, a, b, c, code, res, Ev.bind h1 (Ev.bind h2 (Ev.bind h3 (Ev.bind h4 (Ev.now _)))), hl, hr⟩
theorem ev_DrawResSame (s : List Int) (hs : s.length ≤ 1048576) : ∃ c1 r1 c2 r2, Ev (fun k => spec_DrawResSame.f k s) (c1, r1, c2, r2) ∧ r1.length ≤ 4 ∧ r2.length ≤ 4 := by
  obtain ⟨q, h1⟩ := ev_new s hs
  obtain ⟨l, st, p2, q2, h2, hl, hp2⟩ := ev_l3DrawRight s 0 q (by omega) hs
  obtain ⟨a, b, c, p3, q3, h3, hp3⟩ := ev_l4DrawRight s p2 q2 hp2 hs
  obtain ⟨code, res, p4, q4, h4, hr, hp4⟩ := ev_l4DrawRes s p3 q3 l st a b c hp3 hs (by omega)
  obtain ⟨y, p5, q5, e5, hp5⟩ := once_ok s p4 q4 2 hp4 hs (by omega) (by omega)
  cases y with
  | true =>
    refine ⟨code, res, code, res, Ev.bind h1 (Ev.bind h2 (Ev.bind h3 (Ev.bind h4 (ev_of fun k => ?_)))), hr, hr⟩
    simp [e5]
    omega
  | false =>
    obtain ⟨a', b', c', p6, q6, h6, hp6⟩ := ev_l4DrawRight s p5 q5 hp5 hs
    obtain ⟨code', res', p7, q7, h7, hr', _⟩ := ev_l4DrawRes s p6 q6 l st a' b' c' hp6 hs (by omega)
    refine ⟨code, res, code', res', Ev.bind h1 (Ev.bind h2 (Ev.bind h3 (Ev.bind h4 ?_))), hr, hr'⟩
    simp only [e5, Option.bind_some]
    exact ev_neg (by simp) (Ev.bind h6 (Ev.bind h7 (Ev.now _)))
theorem ev_DrawOpOk (s : List Int) (hs : s.length ≤ 1048576) : ∃ a b c, Ev (fun k => spec_DrawOpOk.f k s) (a, b, c) := by
  obtain ⟨q, h1⟩ := ev_new s hs
  obtain ⟨a, b, c, p3, q3, h3, _⟩ := ev_l4Draw s 0 q (by omega) hs
  exact ⟨a, b, c, Ev.bind h1 (Ev.bind h3 (Ev.now _))⟩
end Go.Proofs.Ytopikhjcbcpiaaa.Q
end
section
/- The plain part of the law about what is allowed: for up to 1048576 bytes the drawings end, both sides tell the same, what is refused changes nothing and what is done leaves right rows. -/
namespace Go.Proofs.Ytopikhjcbcpiaaa.Q
open Go.RowKit Go.Proofs.YtopikhjcbcpiaaaW.PrintWords Go.Proofs.YtopikhjcbcpiaaaX
theorem ev_sameInts (l : List Int) (hl : l.length ≤ 1048576) : Ev (fun k => laws_sameInts.f k l l) true := by
  unfold laws_sameInts.f
  refine ev_pos rfl ?_
  refine ev_down (g := fun k i => laws_sameInts.l0 k l l i) (R := fun _ => true) (n := l.length) ?_ 0 (by omega)
  intro i hi h
  by_cases hlt : i < l.length
  · refine Ev.step (fun k => ?_) (h hlt)
    simp only [laws_sameInts.l0]
    rw [if_pos (by omega), if_pos (by omega), if_pos (by omega), if_pos trivial, wrap_succ hlt (by omega)]
  · refine ev_succ (fun k => ?_)
    simp only [laws_sameInts.l0]
    rw [if_neg (by omega)]
theorem resSame_both (a : Int) (l : List Int) (b : Int) (m : List Int) (hl : l.length ≤ 1048576) : ∃ r, Ev (fun k => impl_ResSame.f k a l b m) r ∧ Ev (fun k => spec_ResSame.f k a l b m) r := by
  unfold impl_ResSame.f spec_ResSame.f
  by_cases e : a = b
  · exact ⟨decide (l = m), ev_pos e (Ev.bind (f := fun _ t => some t) (ev_Equal l m hl) (Ev.now _)), ev_pos e (Ev.bind (f := fun _ t => some t) (ev_Ints l m hl) (Ev.now _))⟩
  · exact ⟨false, ev_neg e (Ev.now _), ev_neg e (Ev.now _)⟩
end Go.Proofs.Ytopikhjcbcpiaaa.Q
namespace Go.Proofs.Ytopikhjcbcpiaaa.Pure
open Go.RowKit Go.Proofs.Ytopikhjcbcpiaaa.Q Go.Proofs.YtopikhjcbcpiaaaW.PrintWords Go.Proofs.YtopikhjcbcpiaaaX
theorem FnAllowed : laws_FnAllowed.Pure := by
  intro s _ _ _
  suffices h : Ev (fun k => laws_FnAllowed.f k s) true by
    obtain ⟨a, ha⟩ := h
    exact ⟨a, ha a (Nat.le_refl _)⟩
  unfold laws_FnAllowed.f laws_big.f
  simp only [Option.bind_some]
  by_cases hb : (s.length : Int) > 1048576
  · exact ev_pos (by simpa using hb) (Ev.now _)
  · refine ev_neg (by simpa using hb) ?_
    have hs : s.length ≤ 1048576 := by omega
    obtain ⟨l, st, a, b, c, code, res, d1, hl, hr⟩ := ev_DrawAllowed s hs
    obtain ⟨ok, ⟨g, gs⟩, s1, i1, s2, i2, hg, hno, hyes⟩ := after_both l st a b c code res (by omega)
    obtain ⟨c1, r1, c2, r2, d2, hr1, hr2⟩ := ev_DrawResSame s hs
    obtain ⟨oa, ob, oc, d3⟩ := ev_DrawOpOk s hs
    obtain ⟨q, rs1, rs2⟩ := resSame_both c1 r1 c2 r2 (by omega)
    have hg' : g.length = l.length := hg
    refine Ev.bind d1 (Ev.bind i1 (Ev.bind i2 (Ev.bind s2 (Ev.bind d2 (Ev.bind d3 (Ev.bind s1 ?_))))))
    refine ev_neg (by simp) (Ev.bind (ev_sameInts g (by omega)) (ev_pos rfl (ev_pos rfl (Ev.bind rs1 (Ev.bind rs2 (ev_neg (by simp) (Ev.bind (ev_impl_OpOk oa ob oc) (Ev.bind (ev_spec_OpOk oa ob oc) ?_))))))))
    have e0 : (opOkB oa ob oc != opOkB oa ob oc) = false := by simp
    simp only [e0]
    have left : g = l → gs = st → Ev (fun k => laws_FnAllowed.j1 k true l st g gs) true := by
      rintro rfl rfl
      refine Ev.step (f := fun k => (laws_sameInts.f k g g).bind fun t980 => (if t980 = true then (some (gs == gs)) else (some false))) (fun k => by simp only [laws_FnAllowed.j1]; rw [if_pos trivial]) (Ev.bind (ev_sameInts g (by omega)) (ev_of fun k => by simp))
    cases ok with
    | false =>
      have e := hno (.inl rfl)
      injection e with e1 e2
      exact Ev.step (f := fun k => laws_FnAllowed.j1 k true l st g gs) (fun k => by simp [laws_FnAllowed.j0]) (left e1 e2)
    | true =>
      by_cases hc : code = 0
      · have hrow : rowsOkB g gs = true := hyes rfl hc
        have r := ev_impl_RowsOk g gs (by omega)
        rw [hrow] at r
        refine Ev.step (f := fun k => laws_FnAllowed.j1 k false l st g gs) (fun k => by simp [laws_FnAllowed.j0, hc]) ?_
        exact Ev.step (f := fun k => (impl_RowsOk.f k g gs).bind fun t981 => (some t981)) (fun k => by simp only [laws_FnAllowed.j1]; rw [if_neg (by simp)]) (Ev.bind (f := fun _ t => some t) r (Ev.now _))
      · have e := hno (.inr hc)
        injection e with e1 e2
        have hc' : (code != 0) = true := by simpa using hc
        exact Ev.step (f := fun k => laws_FnAllowed.j1 k true l st g gs) (fun k => by simp [laws_FnAllowed.j0, hc']) (left e1 e2)
end Go.Proofs.Ytopikhjcbcpiaaa.Pure
end
