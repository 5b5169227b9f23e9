/- Part 6 of the steps by which the law is shown: what each function of the program, of the reference and of the law computes. No condition. -/
import Derived.Test.YtopikhjcbcpiaaaMnw0
import Derived.Test.YtopikhjcbcpiaaaMnw2
import Derived.Test.YtopikhjcbcpiaaaMnw3
import Derived.Test.YtopikhjcbcpiaaaMnw4
namespace Go.Proofs.Ytopikhjcbcpiaaa.Q
open Go.RowKit Go.Proofs.YtopikhjcbcpiaaaW.PrintWords Go.Proofs.YtopikhjcbcpiaaaW.PrintLast Go.Proofs.YtopikhjcbcpiaaaW.PrintMore
attribute [local go_sem] max2_int min2_int max_two min_two max_three min_three max_four min_four   -- for this text's walks alone
set_option linter.unusedVariables false
set_option linter.unusedSimpArgs false
def laws_heldDescS.l0 : Nat → List (S145) → Int → Int → Option (Int)
 | 0, _, _, _ => none
 | k + 1, x0, x1, x5 => if x5 < (x0.length : Int) then (if 0 ≤ x5 then (if ((rd_T145 x0 x5).f0) = x1 then (if ((rd_T145 x0 x5).f1) = (wrap64 (x1 + 1)) then ((laws_heldEntryS.f k ((rd_T145 x0 x5).f2) (wrap64 ((wrap64 (x1 + 1)) + 1))).bind fun t1154 => (if t1154 < 0 then (some (-1)) else (if ((rd_T145 x0 x5).f3.f0) = t1154 then ((laws_heldIntS.f k ((rd_T145 x0 x5).f3.f1) (wrap64 (t1154 + 1))).bind fun t1157 => (if t1157 < 0 then (some (-1)) else (laws_heldDescS.l0 k x0 t1157 (wrap64 (x5 + 1))))) else (some (-1))))) else (some (-1))) else (some (-1))) else (none)) else (some x1)
def laws_heldDescS.f (k : Nat) (l0 : List (S145)) (a1 : Int) : Option (Int) := laws_heldDescS.l0 k l0 a1 0
set_option maxHeartbeats 8000000 in
set_option maxRecDepth 100000 in
theorem laws_heldDescS.calls (k : Nat) (A0 : Option Addr) (c0 : Nat) (l0 : List (S145)) (a1 : Int) (r : Int) (w : World) (hr0 : Kd.C k145 w A0 l0.length l0) (hc0 : l0.length ≤ c0) (h : laws_heldDescS.f k l0 a1 = some r) :
  Calls Try.prog 132 #[.slice A0 l0.length c0, .int .i64 a1] w fun e w' => e = .returned (.int .i64 r) ∧ Drawn0 w w' := by
 have HR0 := Aside0.mk hr0
 have HC0 := Aside0.mk hc0
 clear hr0 hc0
 have H := h
 clear h
 unfold laws_heldDescS.f at H
 have H' := Aside0.mk H
 clear H
 go_enter Try.func132, Try.ntmps132
 go_wp2
 go_loopg [1, 5] k (fun kq v1 v5 w' => ∃ (x1_1 : Int) (x5_1 : Int), v1 = .int .i64 x1_1 ∧ v5 = .int .i64 x5_1 ∧ Aside0 (laws_heldDescS.l0 kq l0 x1_1 x5_1 = some r) ∧ Aside0 (kq ≤ k) ∧ Drawn0 w w')
 case atStart => exact ⟨(a1), (0), rsd, rsd, H', ⟨Nat.le_refl _⟩, by repeat (first | exact Drawn0.refl _ | apply Drawn0.step)⟩
 case round =>
  clear H'
  obtain ⟨x1_1, x5_1, rfl, rfl, HA, HK1, ⟨m1, rfl⟩⟩ := hrel
  cases gk with
  | zero => exact absurd HA.out (by simp [laws_heldDescS.l0])
  | succ k1 =>
   have H := HA.out
   clear HA
   simp only [laws_heldDescS.l0] at H
   revert H; refine icd (fun c3b0 H => ?_) fun c3b0 H => ?neg
   case neg =>
    obtain rfl := oin H
    go_wp2
    go_ret
    exact ⟨rsd, by repeat (first | exact Drawn0.refl _ | apply Drawn0.step)⟩
   obtain ⟨c4b0, H⟩ := itd H
   by_cases c5 : ((rd_T145 l0 x5_1).f0) = x1_1
   case neg =>
    rw [if_neg c5] at H
    have c5b0 : (((rd_T145 l0 x5_1).f0) == x1_1) = false := beq_eq_false_iff_ne.mpr c5
    have c5b1 : (((rd_T145 l0 x5_1).f0) != x1_1) = true := bne_iff_ne.mpr c5
    obtain rfl := oin H
    have p1151 : 0 ≤ (x5_1 : Int) := od
    have q1151 : x5_1 < (l0.length : Int) := od
    obtain ⟨ad1151, A1151_2, c1151_2, A1151_4, c1151_4, e1151, hx1151, hl1151_2, hi1151_2, hl1151_4, hi1151_4⟩ := att145 HR0.out x5_1 p1151 q1151
    cases e1151
    have HR1151_2 := Aside0.mk hi1151_2
    have HC1151_2 := Aside0.mk hl1151_2
    clear hi1151_2 hl1151_2
    have HR1151_4 := Aside0.mk hi1151_4
    have HC1151_4 := Aside0.mk hl1151_4
    clear hi1151_4 hl1151_4
    replace p1151 := eq_true p1151
    replace q1151 := eq_true q1151
    go_wp2
    go_ret
    exact ⟨rsd, by repeat (first | exact Drawn0.refl _ | apply Drawn0.step)⟩
   rw [if_pos c5] at H
   have c5b0 : (((rd_T145 l0 x5_1).f0) == x1_1) = true := beq_iff_eq.mpr c5
   have c5b1 : (((rd_T145 l0 x5_1).f0) != x1_1) = false := bne_eq_false_iff_eq.mpr c5
   clear c5
   by_cases c6 : ((rd_T145 l0 x5_1).f1) = (wrap64 (x1_1 + 1))
   case neg =>
    rw [if_neg c6] at H
    have c6b0 : (((rd_T145 l0 x5_1).f1) == (wrap64 (x1_1 + 1))) = false := beq_eq_false_iff_ne.mpr c6
    have c6b1 : (((rd_T145 l0 x5_1).f1) != (wrap64 (x1_1 + 1))) = true := bne_iff_ne.mpr c6
    obtain rfl := oin H
    have p1151 : 0 ≤ (x5_1 : Int) := od
    have q1151 : x5_1 < (l0.length : Int) := od
    obtain ⟨ad1151, A1151_2, c1151_2, A1151_4, c1151_4, e1151, hx1151_0, hx1151_1, hx1151_2, hx1151_3, hx1151_4, hl1151_2, hi1151_2, hl1151_4, hi1151_4⟩ := at_T145 HR0.out x5_1 p1151 q1151
    cases e1151
    have HR1151_2 := Aside0.mk hi1151_2
    have HC1151_2 := Aside0.mk hl1151_2
    clear hi1151_2 hl1151_2
    have HR1151_4 := Aside0.mk hi1151_4
    have HC1151_4 := Aside0.mk hl1151_4
    clear hi1151_4 hl1151_4
    replace p1151 := eq_true p1151
    replace q1151 := eq_true q1151
    have p1152 : 0 ≤ (x5_1 : Int) := od
    have q1152 : x5_1 < (l0.length : Int) := od
    obtain ⟨ad1152, A1152_2, c1152_2, A1152_4, c1152_4, e1152, hx1152_0, hx1152_1, hx1152_2, hx1152_3, hx1152_4, hl1152_2, hi1152_2, hl1152_4, hi1152_4⟩ := at_T145 HR0.out x5_1 p1152 q1152
    obtain rfl : ad1151 = ad1152 := (by injection e1152)
    have HR1152_2 := Aside0.mk hi1152_2
    have HC1152_2 := Aside0.mk hl1152_2
    clear hi1152_2 hl1152_2
    have HR1152_4 := Aside0.mk hi1152_4
    have HC1152_4 := Aside0.mk hl1152_4
    clear hi1152_4 hl1152_4
    replace p1152 := eq_true p1152
    replace q1152 := eq_true q1152
    have ea_ := Option.some.inj (hx1151_2.symm.trans hx1152_2)
    injection ea_ with ea_ en_ ec_
    subst ea_
    subst ec_
    clear en_
    have ea_ := Option.some.inj (hx1151_4.symm.trans hx1152_4)
    injection ea_ with ea_ en_ ec_
    subst ea_
    subst ec_
    clear en_
    go_wp2
    go_ret
    exact ⟨rsd, by repeat (first | exact Drawn0.refl _ | apply Drawn0.step)⟩
   rw [if_pos c6] at H
   have c6b0 : (((rd_T145 l0 x5_1).f1) == (wrap64 (x1_1 + 1))) = true := beq_iff_eq.mpr c6
   have c6b1 : (((rd_T145 l0 x5_1).f1) != (wrap64 (x1_1 + 1))) = false := bne_eq_false_iff_eq.mpr c6
   clear c6
   obtain ⟨t1154, A7, H⟩ := bn H
   try dsimp only at H
   revert H; refine icd (fun c8b0 H => ?pos) fun c8b0 H => ?_
   case pos =>
    obtain rfl := oin H
    have p1151 : 0 ≤ (x5_1 : Int) := od
    have q1151 : x5_1 < (l0.length : Int) := od
    obtain ⟨ad1151, A1151_2, c1151_2, A1151_4, c1151_4, e1151, hx1151_0, hx1151_1, hx1151_2, hx1151_3, hx1151_4, hl1151_2, hi1151_2, hl1151_4, hi1151_4⟩ := at_T145 HR0.out x5_1 p1151 q1151
    cases e1151
    have HR1151_2 := Aside0.mk hi1151_2
    have HC1151_2 := Aside0.mk hl1151_2
    clear hi1151_2 hl1151_2
    have HR1151_4 := Aside0.mk hi1151_4
    have HC1151_4 := Aside0.mk hl1151_4
    clear hi1151_4 hl1151_4
    replace p1151 := eq_true p1151
    replace q1151 := eq_true q1151
    have p1152 : 0 ≤ (x5_1 : Int) := od
    have q1152 : x5_1 < (l0.length : Int) := od
    obtain ⟨ad1152, A1152_2, c1152_2, A1152_4, c1152_4, e1152, hx1152_0, hx1152_1, hx1152_2, hx1152_3, hx1152_4, hl1152_2, hi1152_2, hl1152_4, hi1152_4⟩ := at_T145 HR0.out x5_1 p1152 q1152
    obtain rfl : ad1151 = ad1152 := (by injection e1152)
    have HR1152_2 := Aside0.mk hi1152_2
    have HC1152_2 := Aside0.mk hl1152_2
    clear hi1152_2 hl1152_2
    have HR1152_4 := Aside0.mk hi1152_4
    have HC1152_4 := Aside0.mk hl1152_4
    clear hi1152_4 hl1152_4
    replace p1152 := eq_true p1152
    replace q1152 := eq_true q1152
    have ea_ := Option.some.inj (hx1151_2.symm.trans hx1152_2)
    injection ea_ with ea_ en_ ec_
    subst ea_
    subst ec_
    clear en_
    have ea_ := Option.some.inj (hx1151_4.symm.trans hx1152_4)
    injection ea_ with ea_ en_ ec_
    subst ea_
    subst ec_
    clear en_
    have p1153 : 0 ≤ (x5_1 : Int) := od
    have q1153 : x5_1 < (l0.length : Int) := od
    obtain ⟨ad1153, A1153_2, c1153_2, A1153_4, c1153_4, e1153, hx1153_0, hx1153_1, hx1153_2, hx1153_3, hx1153_4, hl1153_2, hi1153_2, hl1153_4, hi1153_4⟩ := at_T145 HR0.out x5_1 p1153 q1153
    obtain rfl : ad1151 = ad1153 := (by injection e1153)
    have HR1153_2 := Aside0.mk hi1153_2
    have HC1153_2 := Aside0.mk hl1153_2
    clear hi1153_2 hl1153_2
    have HR1153_4 := Aside0.mk hi1153_4
    have HC1153_4 := Aside0.mk hl1153_4
    clear hi1153_4 hl1153_4
    replace p1153 := eq_true p1153
    replace q1153 := eq_true q1153
    have ea_ := Option.some.inj (hx1151_2.symm.trans hx1153_2)
    injection ea_ with ea_ en_ ec_
    subst ea_
    subst ec_
    clear en_
    have ea_ := Option.some.inj (hx1151_4.symm.trans hx1153_4)
    injection ea_ with ea_ en_ ec_
    subst ea_
    subst ec_
    clear en_
    go_wp2_with (first | ((with_reducible refine gf 184 rfl ?_); refine gL 36 Try.func184 #[.slice A1151_2 ((rd_T145 l0 x5_1).f2).length c1151_2, .int .i64 (wrap64 ((wrap64 (x1_1 + 1)) + 1))] ?_; (with_reducible refine (laws_heldEntryS.calls k1 _ _ ((rd_T145 l0 x5_1).f2) (wrap64 ((wrap64 (x1_1 + 1)) + 1)) t1154 _ ?side1 HC1153_2.out A7.out).mono ?_); (case side1 => repeat (first | exact HR1153_2.out | (with_reducible refine Kd.C_alloc ?_ _) | (with_reducible refine Kd.C_drewN ?_ _) | (with_reducible refine Kd.C_drew ?_))); rintro e w' ⟨rfl, ⟨nd, rfl⟩⟩; refine ⟨_, rfl, ?_⟩))
    go_ret
    exact ⟨rsd, by repeat (first | exact Drawn0.refl _ | apply Drawn0.step)⟩
   by_cases c9 : ((rd_T145 l0 x5_1).f3.f0) = t1154
   case neg =>
    rw [if_neg c9] at H
    have c9b0 : (((rd_T145 l0 x5_1).f3.f0) == t1154) = false := beq_eq_false_iff_ne.mpr c9
    have c9b1 : (((rd_T145 l0 x5_1).f3.f0) != t1154) = true := bne_iff_ne.mpr c9
    obtain rfl := oin H
    have p1151 : 0 ≤ (x5_1 : Int) := od
    have q1151 : x5_1 < (l0.length : Int) := od
    obtain ⟨ad1151, A1151_2, c1151_2, A1151_4, c1151_4, e1151, hx1151_0, hx1151_1, hx1151_2, hx1151_3, hx1151_4, hl1151_2, hi1151_2, hl1151_4, hi1151_4⟩ := at_T145 HR0.out x5_1 p1151 q1151
    cases e1151
    have HR1151_2 := Aside0.mk hi1151_2
    have HC1151_2 := Aside0.mk hl1151_2
    clear hi1151_2 hl1151_2
    have HR1151_4 := Aside0.mk hi1151_4
    have HC1151_4 := Aside0.mk hl1151_4
    clear hi1151_4 hl1151_4
    replace p1151 := eq_true p1151
    replace q1151 := eq_true q1151
    have p1152 : 0 ≤ (x5_1 : Int) := od
    have q1152 : x5_1 < (l0.length : Int) := od
    obtain ⟨ad1152, A1152_2, c1152_2, A1152_4, c1152_4, e1152, hx1152_0, hx1152_1, hx1152_2, hx1152_3, hx1152_4, hl1152_2, hi1152_2, hl1152_4, hi1152_4⟩ := at_T145 HR0.out x5_1 p1152 q1152
    obtain rfl : ad1151 = ad1152 := (by injection e1152)
    have HR1152_2 := Aside0.mk hi1152_2
    have HC1152_2 := Aside0.mk hl1152_2
    clear hi1152_2 hl1152_2
    have HR1152_4 := Aside0.mk hi1152_4
    have HC1152_4 := Aside0.mk hl1152_4
    clear hi1152_4 hl1152_4
    replace p1152 := eq_true p1152
    replace q1152 := eq_true q1152
    have ea_ := Option.some.inj (hx1151_2.symm.trans hx1152_2)
    injection ea_ with ea_ en_ ec_
    subst ea_
    subst ec_
    clear en_
    have ea_ := Option.some.inj (hx1151_4.symm.trans hx1152_4)
    injection ea_ with ea_ en_ ec_
    subst ea_
    subst ec_
    clear en_
    have p1153 : 0 ≤ (x5_1 : Int) := od
    have q1153 : x5_1 < (l0.length : Int) := od
    obtain ⟨ad1153, A1153_2, c1153_2, A1153_4, c1153_4, e1153, hx1153_0, hx1153_1, hx1153_2, hx1153_3, hx1153_4, hl1153_2, hi1153_2, hl1153_4, hi1153_4⟩ := at_T145 HR0.out x5_1 p1153 q1153
    obtain rfl : ad1151 = ad1153 := (by injection e1153)
    have HR1153_2 := Aside0.mk hi1153_2
    have HC1153_2 := Aside0.mk hl1153_2
    clear hi1153_2 hl1153_2
    have HR1153_4 := Aside0.mk hi1153_4
    have HC1153_4 := Aside0.mk hl1153_4
    clear hi1153_4 hl1153_4
    replace p1153 := eq_true p1153
    replace q1153 := eq_true q1153
    have ea_ := Option.some.inj (hx1151_2.symm.trans hx1153_2)
    injection ea_ with ea_ en_ ec_
    subst ea_
    subst ec_
    clear en_
    have ea_ := Option.some.inj (hx1151_4.symm.trans hx1153_4)
    injection ea_ with ea_ en_ ec_
    subst ea_
    subst ec_
    clear en_
    go_wp2_with (first | ((with_reducible refine gf 184 rfl ?_); refine gL 36 Try.func184 #[.slice A1151_2 ((rd_T145 l0 x5_1).f2).length c1151_2, .int .i64 (wrap64 ((wrap64 (x1_1 + 1)) + 1))] ?_; (with_reducible refine (laws_heldEntryS.calls k1 _ _ ((rd_T145 l0 x5_1).f2) (wrap64 ((wrap64 (x1_1 + 1)) + 1)) t1154 _ ?side1 HC1153_2.out A7.out).mono ?_); (case side1 => repeat (first | exact HR1153_2.out | (with_reducible refine Kd.C_alloc ?_ _) | (with_reducible refine Kd.C_drewN ?_ _) | (with_reducible refine Kd.C_drew ?_))); rintro e w' ⟨rfl, ⟨nd, rfl⟩⟩; refine ⟨_, rfl, ?_⟩; have p1155 : 0 ≤ (x5_1 : Int) := od; have q1155 : x5_1 < (l0.length : Int) := od; obtain ⟨ad1155, A1155_2, c1155_2, A1155_4, c1155_4, e1155, hx1155_0, hx1155_1, hx1155_2, hx1155_3, hx1155_4, hl1155_2, hi1155_2, hl1155_4, hi1155_4⟩ := at_T145 HR0.out x5_1 p1155 q1155; obtain rfl : ad1151 = ad1155 := (by injection e1155); have HR1155_2 := Aside0.mk hi1155_2; have HC1155_2 := Aside0.mk hl1155_2; clear hi1155_2 hl1155_2; have HR1155_4 := Aside0.mk hi1155_4; have HC1155_4 := Aside0.mk hl1155_4; clear hi1155_4 hl1155_4; replace p1155 := eq_true p1155; replace q1155 := eq_true q1155; have ea_ := Option.some.inj (hx1151_2.symm.trans hx1155_2); injection ea_ with ea_ en_ ec_; subst ea_; subst ec_; clear en_; have ea_ := Option.some.inj (hx1151_4.symm.trans hx1155_4); injection ea_ with ea_ en_ ec_; subst ea_; subst ec_; clear en_))
    go_ret
    exact ⟨rsd, by repeat (first | exact Drawn0.refl _ | apply Drawn0.step)⟩
   rw [if_pos c9] at H
   have c9b0 : (((rd_T145 l0 x5_1).f3.f0) == t1154) = true := beq_iff_eq.mpr c9
   have c9b1 : (((rd_T145 l0 x5_1).f3.f0) != t1154) = false := bne_eq_false_iff_eq.mpr c9
   clear c9
   obtain ⟨t1157, A10, H⟩ := bn H
   try dsimp only at H
   revert H; refine icd (fun c11b0 H => ?pos) fun c11b0 H => ?_
   case pos =>
    obtain rfl := oin H
    have p1151 : 0 ≤ (x5_1 : Int) := od
    have q1151 : x5_1 < (l0.length : Int) := od
    obtain ⟨ad1151, A1151_2, c1151_2, A1151_4, c1151_4, e1151, hx1151_0, hx1151_1, hx1151_2, hx1151_3, hx1151_4, hl1151_2, hi1151_2, hl1151_4, hi1151_4⟩ := at_T145 HR0.out x5_1 p1151 q1151
    cases e1151
    have HR1151_2 := Aside0.mk hi1151_2
    have HC1151_2 := Aside0.mk hl1151_2
    clear hi1151_2 hl1151_2
    have HR1151_4 := Aside0.mk hi1151_4
    have HC1151_4 := Aside0.mk hl1151_4
    clear hi1151_4 hl1151_4
    replace p1151 := eq_true p1151
    replace q1151 := eq_true q1151
    have p1152 : 0 ≤ (x5_1 : Int) := od
    have q1152 : x5_1 < (l0.length : Int) := od
    obtain ⟨ad1152, A1152_2, c1152_2, A1152_4, c1152_4, e1152, hx1152_0, hx1152_1, hx1152_2, hx1152_3, hx1152_4, hl1152_2, hi1152_2, hl1152_4, hi1152_4⟩ := at_T145 HR0.out x5_1 p1152 q1152
    obtain rfl : ad1151 = ad1152 := (by injection e1152)
    have HR1152_2 := Aside0.mk hi1152_2
    have HC1152_2 := Aside0.mk hl1152_2
    clear hi1152_2 hl1152_2
    have HR1152_4 := Aside0.mk hi1152_4
    have HC1152_4 := Aside0.mk hl1152_4
    clear hi1152_4 hl1152_4
    replace p1152 := eq_true p1152
    replace q1152 := eq_true q1152
    have ea_ := Option.some.inj (hx1151_2.symm.trans hx1152_2)
    injection ea_ with ea_ en_ ec_
    subst ea_
    subst ec_
    clear en_
    have ea_ := Option.some.inj (hx1151_4.symm.trans hx1152_4)
    injection ea_ with ea_ en_ ec_
    subst ea_
    subst ec_
    clear en_
    have p1153 : 0 ≤ (x5_1 : Int) := od
    have q1153 : x5_1 < (l0.length : Int) := od
    obtain ⟨ad1153, A1153_2, c1153_2, A1153_4, c1153_4, e1153, hx1153_0, hx1153_1, hx1153_2, hx1153_3, hx1153_4, hl1153_2, hi1153_2, hl1153_4, hi1153_4⟩ := at_T145 HR0.out x5_1 p1153 q1153
    obtain rfl : ad1151 = ad1153 := (by injection e1153)
    have HR1153_2 := Aside0.mk hi1153_2
    have HC1153_2 := Aside0.mk hl1153_2
    clear hi1153_2 hl1153_2
    have HR1153_4 := Aside0.mk hi1153_4
    have HC1153_4 := Aside0.mk hl1153_4
    clear hi1153_4 hl1153_4
    replace p1153 := eq_true p1153
    replace q1153 := eq_true q1153
    have ea_ := Option.some.inj (hx1151_2.symm.trans hx1153_2)
    injection ea_ with ea_ en_ ec_
    subst ea_
    subst ec_
    clear en_
    have ea_ := Option.some.inj (hx1151_4.symm.trans hx1153_4)
    injection ea_ with ea_ en_ ec_
    subst ea_
    subst ec_
    clear en_
    go_wp2_with (first | ((with_reducible refine gf 184 rfl ?_); refine gL 36 Try.func184 #[.slice A1151_2 ((rd_T145 l0 x5_1).f2).length c1151_2, .int .i64 (wrap64 ((wrap64 (x1_1 + 1)) + 1))] ?_; (with_reducible refine (laws_heldEntryS.calls k1 _ _ ((rd_T145 l0 x5_1).f2) (wrap64 ((wrap64 (x1_1 + 1)) + 1)) t1154 _ ?side1 HC1153_2.out A7.out).mono ?_); (case side1 => repeat (first | exact HR1153_2.out | (with_reducible refine Kd.C_alloc ?_ _) | (with_reducible refine Kd.C_drewN ?_ _) | (with_reducible refine Kd.C_drew ?_))); rintro e w' ⟨rfl, ⟨nd, rfl⟩⟩; refine ⟨_, rfl, ?_⟩; have p1155 : 0 ≤ (x5_1 : Int) := od; have q1155 : x5_1 < (l0.length : Int) := od; obtain ⟨ad1155, A1155_2, c1155_2, A1155_4, c1155_4, e1155, hx1155_0, hx1155_1, hx1155_2, hx1155_3, hx1155_4, hl1155_2, hi1155_2, hl1155_4, hi1155_4⟩ := at_T145 HR0.out x5_1 p1155 q1155; obtain rfl : ad1151 = ad1155 := (by injection e1155); have HR1155_2 := Aside0.mk hi1155_2; have HC1155_2 := Aside0.mk hl1155_2; clear hi1155_2 hl1155_2; have HR1155_4 := Aside0.mk hi1155_4; have HC1155_4 := Aside0.mk hl1155_4; clear hi1155_4 hl1155_4; replace p1155 := eq_true p1155; replace q1155 := eq_true q1155; have ea_ := Option.some.inj (hx1151_2.symm.trans hx1155_2); injection ea_ with ea_ en_ ec_; subst ea_; subst ec_; clear en_; have ea_ := Option.some.inj (hx1151_4.symm.trans hx1155_4); injection ea_ with ea_ en_ ec_; subst ea_; subst ec_; clear en_; have p1156 : 0 ≤ (x5_1 : Int) := od; have q1156 : x5_1 < (l0.length : Int) := od; obtain ⟨ad1156, A1156_2, c1156_2, A1156_4, c1156_4, e1156, hx1156_0, hx1156_1, hx1156_2, hx1156_3, hx1156_4, hl1156_2, hi1156_2, hl1156_4, hi1156_4⟩ := at_T145 HR0.out x5_1 p1156 q1156; obtain rfl : ad1151 = ad1156 := (by injection e1156); have HR1156_2 := Aside0.mk hi1156_2; have HC1156_2 := Aside0.mk hl1156_2; clear hi1156_2 hl1156_2; have HR1156_4 := Aside0.mk hi1156_4; have HC1156_4 := Aside0.mk hl1156_4; clear hi1156_4 hl1156_4; replace p1156 := eq_true p1156; replace q1156 := eq_true q1156; have ea_ := Option.some.inj (hx1151_2.symm.trans hx1156_2); injection ea_ with ea_ en_ ec_; subst ea_; subst ec_; clear en_; have ea_ := Option.some.inj (hx1151_4.symm.trans hx1156_4); injection ea_ with ea_ en_ ec_; subst ea_; subst ec_; clear en_) | ((with_reducible refine gf 31 rfl ?_); refine gL 56 Try.func31 #[.slice A1151_4 ((rd_T145 l0 x5_1).f3.f1).length c1151_4, .int .i64 (wrap64 (t1154 + 1))] ?_; (with_reducible refine (laws_heldIntS.calls k1 _ _ ((rd_T145 l0 x5_1).f3.f1) (wrap64 (t1154 + 1)) t1157 _ ?side1 HC1156_4.out A10.out).mono ?_); (case side1 => repeat (first | exact HR1156_4.out | (with_reducible refine Kd.C_alloc ?_ _) | (with_reducible refine Kd.C_drewN ?_ _) | (with_reducible refine Kd.C_drew ?_))); rintro e w' ⟨rfl, ⟨nd, rfl⟩⟩; refine ⟨_, rfl, ?_⟩))
    go_ret
    exact ⟨rsd, by repeat (first | exact Drawn0.refl _ | apply Drawn0.step)⟩
   have H' := Aside0.mk H
   clear H
   have p1151 : 0 ≤ (x5_1 : Int) := od
   have q1151 : x5_1 < (l0.length : Int) := od
   obtain ⟨ad1151, A1151_2, c1151_2, A1151_4, c1151_4, e1151, hx1151_0, hx1151_1, hx1151_2, hx1151_3, hx1151_4, hl1151_2, hi1151_2, hl1151_4, hi1151_4⟩ := at_T145 HR0.out x5_1 p1151 q1151
   cases e1151
   have HR1151_2 := Aside0.mk hi1151_2
   have HC1151_2 := Aside0.mk hl1151_2
   clear hi1151_2 hl1151_2
   have HR1151_4 := Aside0.mk hi1151_4
   have HC1151_4 := Aside0.mk hl1151_4
   clear hi1151_4 hl1151_4
   replace p1151 := eq_true p1151
   replace q1151 := eq_true q1151
   have p1152 : 0 ≤ (x5_1 : Int) := od
   have q1152 : x5_1 < (l0.length : Int) := od
   obtain ⟨ad1152, A1152_2, c1152_2, A1152_4, c1152_4, e1152, hx1152_0, hx1152_1, hx1152_2, hx1152_3, hx1152_4, hl1152_2, hi1152_2, hl1152_4, hi1152_4⟩ := at_T145 HR0.out x5_1 p1152 q1152
   obtain rfl : ad1151 = ad1152 := (by injection e1152)
   have HR1152_2 := Aside0.mk hi1152_2
   have HC1152_2 := Aside0.mk hl1152_2
   clear hi1152_2 hl1152_2
   have HR1152_4 := Aside0.mk hi1152_4
   have HC1152_4 := Aside0.mk hl1152_4
   clear hi1152_4 hl1152_4
   replace p1152 := eq_true p1152
   replace q1152 := eq_true q1152
   have ea_ := Option.some.inj (hx1151_2.symm.trans hx1152_2)
   injection ea_ with ea_ en_ ec_
   subst ea_
   subst ec_
   clear en_
   have ea_ := Option.some.inj (hx1151_4.symm.trans hx1152_4)
   injection ea_ with ea_ en_ ec_
   subst ea_
   subst ec_
   clear en_
   have p1153 : 0 ≤ (x5_1 : Int) := od
   have q1153 : x5_1 < (l0.length : Int) := od
   obtain ⟨ad1153, A1153_2, c1153_2, A1153_4, c1153_4, e1153, hx1153_0, hx1153_1, hx1153_2, hx1153_3, hx1153_4, hl1153_2, hi1153_2, hl1153_4, hi1153_4⟩ := at_T145 HR0.out x5_1 p1153 q1153
   obtain rfl : ad1151 = ad1153 := (by injection e1153)
   have HR1153_2 := Aside0.mk hi1153_2
   have HC1153_2 := Aside0.mk hl1153_2
   clear hi1153_2 hl1153_2
   have HR1153_4 := Aside0.mk hi1153_4
   have HC1153_4 := Aside0.mk hl1153_4
   clear hi1153_4 hl1153_4
   replace p1153 := eq_true p1153
   replace q1153 := eq_true q1153
   have ea_ := Option.some.inj (hx1151_2.symm.trans hx1153_2)
   injection ea_ with ea_ en_ ec_
   subst ea_
   subst ec_
   clear en_
   have ea_ := Option.some.inj (hx1151_4.symm.trans hx1153_4)
   injection ea_ with ea_ en_ ec_
   subst ea_
   subst ec_
   clear en_
   go_wp2_with (first | ((with_reducible refine gf 184 rfl ?_); refine gL 36 Try.func184 #[.slice A1151_2 ((rd_T145 l0 x5_1).f2).length c1151_2, .int .i64 (wrap64 ((wrap64 (x1_1 + 1)) + 1))] ?_; (with_reducible refine (laws_heldEntryS.calls k1 _ _ ((rd_T145 l0 x5_1).f2) (wrap64 ((wrap64 (x1_1 + 1)) + 1)) t1154 _ ?side1 HC1153_2.out A7.out).mono ?_); (case side1 => repeat (first | exact HR1153_2.out | (with_reducible refine Kd.C_alloc ?_ _) | (with_reducible refine Kd.C_drewN ?_ _) | (with_reducible refine Kd.C_drew ?_))); rintro e w' ⟨rfl, ⟨nd, rfl⟩⟩; refine ⟨_, rfl, ?_⟩; have p1155 : 0 ≤ (x5_1 : Int) := od; have q1155 : x5_1 < (l0.length : Int) := od; obtain ⟨ad1155, A1155_2, c1155_2, A1155_4, c1155_4, e1155, hx1155_0, hx1155_1, hx1155_2, hx1155_3, hx1155_4, hl1155_2, hi1155_2, hl1155_4, hi1155_4⟩ := at_T145 HR0.out x5_1 p1155 q1155; obtain rfl : ad1151 = ad1155 := (by injection e1155); have HR1155_2 := Aside0.mk hi1155_2; have HC1155_2 := Aside0.mk hl1155_2; clear hi1155_2 hl1155_2; have HR1155_4 := Aside0.mk hi1155_4; have HC1155_4 := Aside0.mk hl1155_4; clear hi1155_4 hl1155_4; replace p1155 := eq_true p1155; replace q1155 := eq_true q1155; have ea_ := Option.some.inj (hx1151_2.symm.trans hx1155_2); injection ea_ with ea_ en_ ec_; subst ea_; subst ec_; clear en_; have ea_ := Option.some.inj (hx1151_4.symm.trans hx1155_4); injection ea_ with ea_ en_ ec_; subst ea_; subst ec_; clear en_; have p1156 : 0 ≤ (x5_1 : Int) := od; have q1156 : x5_1 < (l0.length : Int) := od; obtain ⟨ad1156, A1156_2, c1156_2, A1156_4, c1156_4, e1156, hx1156_0, hx1156_1, hx1156_2, hx1156_3, hx1156_4, hl1156_2, hi1156_2, hl1156_4, hi1156_4⟩ := at_T145 HR0.out x5_1 p1156 q1156; obtain rfl : ad1151 = ad1156 := (by injection e1156); have HR1156_2 := Aside0.mk hi1156_2; have HC1156_2 := Aside0.mk hl1156_2; clear hi1156_2 hl1156_2; have HR1156_4 := Aside0.mk hi1156_4; have HC1156_4 := Aside0.mk hl1156_4; clear hi1156_4 hl1156_4; replace p1156 := eq_true p1156; replace q1156 := eq_true q1156; have ea_ := Option.some.inj (hx1151_2.symm.trans hx1156_2); injection ea_ with ea_ en_ ec_; subst ea_; subst ec_; clear en_; have ea_ := Option.some.inj (hx1151_4.symm.trans hx1156_4); injection ea_ with ea_ en_ ec_; subst ea_; subst ec_; clear en_) | ((with_reducible refine gf 31 rfl ?_); refine gL 56 Try.func31 #[.slice A1151_4 ((rd_T145 l0 x5_1).f3.f1).length c1151_4, .int .i64 (wrap64 (t1154 + 1))] ?_; (with_reducible refine (laws_heldIntS.calls k1 _ _ ((rd_T145 l0 x5_1).f3.f1) (wrap64 (t1154 + 1)) t1157 _ ?side1 HC1156_4.out A10.out).mono ?_); (case side1 => repeat (first | exact HR1156_4.out | (with_reducible refine Kd.C_alloc ?_ _) | (with_reducible refine Kd.C_drewN ?_ _) | (with_reducible refine Kd.C_drew ?_))); rintro e w' ⟨rfl, ⟨nd, rfl⟩⟩; refine ⟨_, rfl, ?_⟩))
   go_roundg k1
   case measure => have := HK1.out; omega
   case rel => exact ⟨(t1157), (wrap64 (x5_1 + 1)), rsd, rsd, H', ⟨by have := HK1.out; omega⟩, by repeat (first | exact Drawn0.refl _ | apply Drawn0.step)⟩
def laws_eqRows.f (k : Nat) (l0_0 : List Int) (a0_1 : Int) (l1_0 : List Int) (a1_1 : Int) : Option (Bool) := (laws_eqIntS.f k l0_0 l1_0).bind fun t643 => (if t643 = true then (if a0_1 = a1_1 then (some true) else (some false)) else (some false))
set_option maxHeartbeats 8000000 in
set_option maxRecDepth 100000 in
theorem laws_eqRows.calls (k : Nat) (A0_0 : Option Addr) (c0_0 : Nat) (l0_0 : List Int) (a0_1 : Int) (A1_0 : Option Addr) (c1_0 : Nat) (l1_0 : List Int) (a1_1 : Int) (r : Bool) (w : World) (hr0_0 : Kd.C (Kd.int .i64) w A0_0 l0_0.length l0_0) (hc0_0 : l0_0.length ≤ c0_0) (hr1_0 : Kd.C (Kd.int .i64) w A1_0 l1_0.length l1_0) (hc1_0 : l1_0.length ≤ c1_0) (h : laws_eqRows.f k l0_0 a0_1 l1_0 a1_1 = some r) :
  Calls Try.prog 39 #[.agg #[.slice A0_0 l0_0.length c0_0, .int .i64 a0_1], .agg #[.slice A1_0 l1_0.length c1_0, .int .i64 a1_1]] w fun e w' => e = .returned (.bool r) ∧ Below w.heap.size w w' := by
 have hu65 := Try.underlying65
 have HR0_0 := Aside0.mk hr0_0
 have HC0_0 := Aside0.mk hc0_0
 clear hr0_0 hc0_0
 have HR1_0 := Aside0.mk hr1_0
 have HC1_0 := Aside0.mk hc1_0
 clear hr1_0 hc1_0
 have HB := Aside0.mk (Below.refl w.heap.size w)
 have H := h
 clear h
 unfold laws_eqRows.f at H
 obtain ⟨t643, A3, H⟩ := bn H
 try dsimp only at H
 cases t643
 case false =>
  replace H := ipf H
  obtain rfl := oin H
  go_enter Try.func39, Try.ntmps39
  go_wp2_with (first | ((with_reducible refine gq 2 rfl ?_); refine bx0 HB (N := 2) (t := 65) ?_; clear HB; intro gb641 w16 BK641 GE641 HB) | ((with_reducible refine gq 3 rfl ?_); refine bx1 HB BK641 (N := 3) (t := 65) ?_; clear HB BK641; intro gb642 w17 BK642 GE642 HB NB641_642 NB642_641 BK641; have hnb18 := NB641_642.out; have hnc18 := NB642_641.out; have hz19 := cs2_ BK641; have hz20 := cs2_ BK642) | ((with_reducible refine gf 14 rfl ?_); refine gL 9 Try.func14 #[.slice A0_0 l0_0.length c0_0, .slice A1_0 l1_0.length c1_0] ?_; (with_reducible refine (laws_eqIntS.calls k _ _ l0_0 _ _ l1_0 false _ (kc HR0_0 HB) HC0_0.out (kc HR1_0 HB) HC1_0.out A3.out).mono ?_); rintro e w' ⟨rfl, ⟨nd, rfl⟩⟩; refine ⟨_, rfl, ?_⟩))
  go_ret
  exact ⟨er, tb HB⟩
 replace H := ipt H
 by_cases c5 : a0_1 = a1_1
 case neg =>
  rw [if_neg c5] at H
  have c5b0 : (a0_1 == a1_1) = false := beq_eq_false_iff_ne.mpr c5
  have c5b1 : (a0_1 != a1_1) = true := bne_iff_ne.mpr c5
  obtain rfl := oin H
  go_enter Try.func39, Try.ntmps39
  go_wp2_with (first | ((with_reducible refine gq 2 rfl ?_); refine bx0 HB (N := 2) (t := 65) ?_; clear HB; intro gb641 w11 BK641 GE641 HB) | ((with_reducible refine gq 3 rfl ?_); refine bx1 HB BK641 (N := 3) (t := 65) ?_; clear HB BK641; intro gb642 w12 BK642 GE642 HB NB641_642 NB642_641 BK641; have hnb13 := NB641_642.out; have hnc13 := NB642_641.out; have hz14 := cs2_ BK641; have hz15 := cs2_ BK642) | ((with_reducible refine gf 14 rfl ?_); refine gL 9 Try.func14 #[.slice A0_0 l0_0.length c0_0, .slice A1_0 l1_0.length c1_0] ?_; (with_reducible refine (laws_eqIntS.calls k _ _ l0_0 _ _ l1_0 true _ (kc HR0_0 HB) HC0_0.out (kc HR1_0 HB) HC1_0.out A3.out).mono ?_); rintro e w' ⟨rfl, ⟨nd, rfl⟩⟩; refine ⟨_, rfl, ?_⟩))
  go_ret
  exact ⟨er, tb HB⟩
 rw [if_pos c5] at H
 have c5b0 : (a0_1 == a1_1) = true := beq_iff_eq.mpr c5
 have c5b1 : (a0_1 != a1_1) = false := bne_eq_false_iff_eq.mpr c5
 clear c5
 obtain rfl := oin H
 go_enter Try.func39, Try.ntmps39
 go_wp2_with (first | ((with_reducible refine gq 2 rfl ?_); refine bx0 HB (N := 2) (t := 65) ?_; clear HB; intro gb641 w6 BK641 GE641 HB) | ((with_reducible refine gq 3 rfl ?_); refine bx1 HB BK641 (N := 3) (t := 65) ?_; clear HB BK641; intro gb642 w7 BK642 GE642 HB NB641_642 NB642_641 BK641; have hnb8 := NB641_642.out; have hnc8 := NB642_641.out; have hz9 := cs2_ BK641; have hz10 := cs2_ BK642) | ((with_reducible refine gf 14 rfl ?_); refine gL 9 Try.func14 #[.slice A0_0 l0_0.length c0_0, .slice A1_0 l1_0.length c1_0] ?_; (with_reducible refine (laws_eqIntS.calls k _ _ l0_0 _ _ l1_0 true _ (kc HR0_0 HB) HC0_0.out (kc HR1_0 HB) HC1_0.out A3.out).mono ?_); rintro e w' ⟨rfl, ⟨nd, rfl⟩⟩; refine ⟨_, rfl, ?_⟩))
 go_ret
 exact ⟨er, tb HB⟩
def laws_markRows.f (k : Nat) (l0_0 : List Int) (a0_1 : Int) (a1 : Int) : Option (Int × List Int) := (laws_markIntS.f k l0_0 a1).bind fun bt645 => (some (bt645.1, bt645.2))
set_option maxHeartbeats 8000000 in
set_option maxRecDepth 100000 in
theorem laws_markRows.calls (k : Nat) (P0_0_ : Nat → Prop) (u9000_ : Value) (l0_0 : List Int) (a0_1 : Int) (a1 : Int) (r1 : Int) (r2 : List Int) (w0 w : World) (hB : Below w0.heap.size w0 w) (ho0_0 : Kd.R (Kd.int .i64) 3 w w0.heap.size P0_0_ u9000_ l0_0) (h : laws_markRows.f k l0_0 a0_1 a1 = some (r1, r2)) :
  Calls Try.prog 41 #[.agg #[u9000_, .int .i64 a0_1], .int .i64 a1] w fun e w' => e = .returned (.int .i64 r1) ∧ Kd.R (Kd.int .i64) 3 w' w0.heap.size (fun k_ => (P0_0_ k_ ∨ w.heap.size ≤ k_)) u9000_ r2 ∧ Below w0.heap.size w0 w' ∧ Kept w w' (fun k_ => P0_0_ k_) := by
 have hu65 := Try.underlying65
 have HO0_0 := Aside0.mk (show Kd.R (Kd.int .i64) 3 w w0.heap.size (fun k_ => (P0_0_ k_ ∨ w.heap.size ≤ k_)) u9000_ l0_0 from Kd.R_mono ho0_0 (fun k_ hk => (.inl hk)))
 have HK := Aside0.mk (Kept.refl w (fun k_ => P0_0_ k_))
 have HW0 := Aside0.mk hB.size
 have HB := Aside0.mk hB
 clear hB
 have H := h
 clear h
 unfold laws_markRows.f at H
 obtain ⟨⟨t645, t646⟩, A3, H⟩ := bn H
 try dsimp only at H
 simp only [Option.some.injEq, Prod.mk.injEq] at H
 obtain ⟨rfl, rfl⟩ := H
 obtain ⟨Ao4, co4, eo4⟩ := Kd.R_slice HO0_0.out
 subst eo4
 go_enter Try.func41, Try.ntmps41
 go_wp2_with (first | ((with_reducible refine gq 2 rfl ?_); refine bx (N := 2) (cs := #[.slice Ao4 l0_0.length co4, .int .i64 a0_1]) (t := 65) ?_; intro gb644 hg w5 hbox hb; replace HO0_0 := rb HO0_0 hb; have BK644 := Aside0.mk (hbox); have GW644 := Aside0.mk ((by rw [hg]; exact (by first | exact HK.out.1 | exact (show Kept w _ (fun k_ => P0_0_ k_) from by repeat (first | (with_reducible first | exact HK.out | apply Kept.alloc | apply Kept.drewN | apply Kept.drew) | exact HK.out)).1) : w.heap.size ≤ gb644)); replace HK := Aside0.mk (Kept.below (S := (fun k_ => P0_0_ k_)) (by repeat (first | (with_reducible first | exact HK.out | apply Kept.alloc | apply Kept.drewN | apply Kept.drew) | exact HK.out)) hb); have GE644 := Aside0.mk ((by rw [hg]; exact (below_size (tb HB)) : w0.heap.size ≤ gb644)); replace HB := bs HB hb; clear hb hbox hg; have hz6 := cs2_ BK644) | ((with_reducible refine gf 30 rfl ?_); refine gL 8 Try.func30 #[.slice Ao4 l0_0.length co4, .int .i64 a1] ?_; (with_reducible refine (laws_markIntS.calls k (fun k_ => some k_ = (.slice Ao4 l0_0.length co4 : Value).ownBlock) (.slice Ao4 l0_0.length co4) l0_0 a1 t645 t646 w0 _ ?side1 ?side2 A3.out).mono ?_); (case side1 => repeat (first | (with_reducible first | exact HB.out | apply below_alloc | apply pw_below_drewN | apply below_drew1 | refine below_set ?_ GE644.out) | exact HB.out)); (case side2 => exact Kd.R_tight rfl HO0_0.out); rintro e w7 ⟨rfl, hy0, hb, hkp⟩; refine ⟨_, rfl, ?_⟩; replace BK644 := Aside0.mk (blk_kept (bk BK644) hkp (fun hs_ => (fun e_ => (Kd.R_ne HO0_0.out BK644.out (by decide)) e_) hs_)); replace HK := Aside0.mk (Kept.then_ (S := (fun k_ => P0_0_ k_)) (by repeat (first | (with_reducible first | exact HK.out | apply Kept.alloc | apply Kept.drewN | apply Kept.drew | refine Kept.setCell ?_ (.inr GW644.out) _) | exact HK.out)) hkp (fun k_ hs_ => (fun e_ => (HO0_0.out.1 k_ e_.symm)) hs_)); replace HO0_0 := Aside0.mk (Kd.R_reok rfl hy0 (fun k_ e_ => HO0_0.out.1 k_ e_)); replace HB := Aside0.mk (hb); (try clear hb); (try clear hkp); (try clear hy0)))
 go_ret
 exact ⟨er, kr HO0_0.out, tb HB, by repeat (first | (with_reducible first | exact HK.out | apply Kept.alloc | apply Kept.drewN | apply Kept.drew | refine Kept.setCell ?_ (.inr GW644.out) _) | exact HK.out)⟩
def laws_szRows.f (l0_0 : List Int) (a0_1 : Int) (a1 : Int) : Option (Int) := (laws_szIntS.f l0_0 a1).bind fun t471 => (if t471 < 0 then (some (-1)) else (some t471))
set_option maxHeartbeats 8000000 in
set_option maxRecDepth 100000 in
theorem laws_szRows.calls (A0_0 : Option Addr) (c0_0 : Nat) (l0_0 : List Int) (a0_1 : Int) (a1 : Int) (r : Int) (w : World) (hr0_0 : Kd.C (Kd.int .i64) w A0_0 l0_0.length l0_0) (hc0_0 : l0_0.length ≤ c0_0) (h : laws_szRows.f l0_0 a0_1 a1 = some r) :
  Calls Try.prog 32 #[.agg #[.slice A0_0 l0_0.length c0_0, .int .i64 a0_1], .int .i64 a1] w fun e w' => e = .returned (.int .i64 r) ∧ Below w.heap.size w w' := by
 have hu58 := Try.underlying58
 have HR0_0 := Aside0.mk hr0_0
 have HC0_0 := Aside0.mk hc0_0
 clear hr0_0 hc0_0
 have HB := Aside0.mk (Below.refl w.heap.size w)
 have H := h
 clear h
 unfold laws_szRows.f at H
 obtain ⟨t471, A3, H⟩ := bn H
 try dsimp only at H
 revert H; refine icd (fun c4b0 H => ?pos) fun c4b0 H => ?_
 case pos =>
  obtain rfl := oin H
  go_enter Try.func32, Try.ntmps32
  go_wp2_with (first | ((with_reducible refine gq 2 rfl ?_); refine bx0 HB (N := 2) (t := 58) ?_; clear HB; intro gb470 w5 BK470 GE470 HB; have hz6 := cs2_ BK470) | ((with_reducible refine gf 102 rfl ?_); refine gL 8 Try.func102 #[.slice A0_0 l0_0.length c0_0, .int .i64 a1] ?_; (with_reducible refine (laws_szIntS.calls _ _ l0_0 a1 t471 _ (kc HR0_0 HB) HC0_0.out A3.out).mono ?_); rintro e w' ⟨rfl, ⟨nd, rfl⟩⟩; refine ⟨_, rfl, ?_⟩))
  go_ret
  exact ⟨er, tb HB⟩
 obtain rfl := oin H
 go_enter Try.func32, Try.ntmps32
 go_wp2_with (first | ((with_reducible refine gq 2 rfl ?_); refine bx0 HB (N := 2) (t := 58) ?_; clear HB; intro gb470 w7 BK470 GE470 HB; have hz8 := cs2_ BK470) | ((with_reducible refine gf 102 rfl ?_); refine gL 8 Try.func102 #[.slice A0_0 l0_0.length c0_0, .int .i64 a1] ?_; (with_reducible refine (laws_szIntS.calls _ _ l0_0 a1 t471 _ (kc HR0_0 HB) HC0_0.out A3.out).mono ?_); rintro e w' ⟨rfl, ⟨nd, rfl⟩⟩; refine ⟨_, rfl, ?_⟩))
 go_ret
 exact ⟨er, tb HB⟩
def laws_toRows.f (k : Nat) (l0_0 : List Int) (a0_1 : Int) : Option (List Int × Int) := (laws_toIntS.f k l0_0).bind fun t561 => (some (t561, a0_1))
set_option maxHeartbeats 8000000 in
set_option maxRecDepth 100000 in
theorem laws_toRows.calls (k : Nat) (A0_0 : Option Addr) (c0_0 : Nat) (l0_0 : List Int) (a0_1 : Int) (r1 : List Int) (r2 : Int) (w : World) (hr0_0 : Kd.C (Kd.int .i64) w A0_0 l0_0.length l0_0) (hc0_0 : l0_0.length ≤ c0_0) (h : laws_toRows.f k l0_0 a0_1 = some (r1, r2)) :
  Calls Try.prog 35 #[.agg #[.slice A0_0 l0_0.length c0_0, .int .i64 a0_1]] w fun e w' => ∃ v0_ : Value, e = .returned (.agg #[v0_, .int .i64 r2]) ∧ Kd.R (Kd.int .i64) 3 w' w.heap.size (fun _ => True) v0_ r1 ∧ Below w.heap.size w w' := by
 have hu58 := Try.underlying58
 have hu65 := Try.underlying65
 have HR0_0 := Aside0.mk hr0_0
 have HC0_0 := Aside0.mk hc0_0
 clear hr0_0 hc0_0
 have HB := Aside0.mk (Below.refl w.heap.size w)
 have H := h
 clear h
 unfold laws_toRows.f at H
 obtain ⟨t561, A2, H⟩ := bn H
 try dsimp only at H
 simp only [Option.some.injEq, Prod.mk.injEq] at H
 obtain ⟨rfl, rfl⟩ := H
 go_enter Try.func35, Try.ntmps35
 go_wp2_with (first | ((with_reducible refine gq 1 rfl ?_); refine bx0 HB (N := 1) (t := 58) ?_; clear HB; intro gb558 w3 BK558 GE558 HB) | ((with_reducible refine gq 2 rfl ?_); refine bx1 HB BK558 (N := 2) (cs := #[.slice none 0 0, .int .i64 0]) (t := 65) ?_; clear HB BK558; intro gb559 w4 BK559 GE559 HB NB558_559 NB559_558 BK558) | ((with_reducible refine gq 3 rfl ?_); refine bx2 HB BK558 BK559 (N := 3) (cs := #[.slice none 0 0, .int .i64 0]) (t := 65) ?_; clear HB BK558 BK559; intro gb560 w5 BK560 GE560 HB NB558_560 NB560_558 BK558 NB559_560 NB560_559 BK559; have hnb6 := NB558_559.out; have hnc6 := NB559_558.out; have hnb7 := NB558_560.out; have hnc7 := NB560_558.out; have hz8 := cs2_ BK558) | ((with_reducible refine gf 12 rfl ?_); refine gL 6 Try.func12 #[.slice A0_0 l0_0.length c0_0] ?_; (with_reducible refine (laws_toIntS.calls k _ _ l0_0 t561 _ (kc HR0_0 HB) HC0_0.out A2.out).mono ?_); rintro e w9 ⟨v562, rfl, ho0, hb⟩; refine ⟨_, rfl, ?_⟩; have HO563 := Aside0.mk (Kd.R_lower ho0 (below_size (tb HB))); replace BK558 := bb BK558 hb; replace BK559 := bb BK559 hb; replace BK560 := bb BK560 hb; replace HB := bs HB hb; (try clear hb); (try clear ho0); obtain ⟨Ao10, co10, eo10⟩ := Kd.R_slice HO563.out; subst eo10; have hnb11 := NB560_559.out; have hnc11 := NB559_560.out; have hz12 := cs2_ BK560; have hz13 := cs2_ BK558; have hz14 := cs2_ BK559))
 refine bodyPost_ret (results_cell_row rfl _ _ gb559 65 #[.slice Ao10 t561.length co10, .int .i64 a0_1] (0, 0) _ rfl (bfp2 BK559) Try.underlying65 rfl (by kernel_rfl)) rfl ?_
 exact ⟨_, er, by (with_reducible repeat (first | apply Kd.R_alloc | apply Kd.R_drewN | apply Kd.R_drew)); exact Kd.R_mono (Kd.R_far (p := ⟨gb559, 1, none⟩) (Kd.R_far (p := ⟨gb559, 0, none⟩) (Kd.R_far (p := ⟨gb560, 1, none⟩) (Kd.R_far (p := ⟨gb560, 0, none⟩) (Kd.R_types (Kd.R_types HO563.out BK560.out (by decide)) BK559.out (by decide)) (fun _ hk => hk.1.2) (.slice Ao10 t561.length co10)) (fun _ hk => hk.1.2) (.int .i64 a0_1)) (fun _ hk => hk.2) (.slice Ao10 t561.length co10)) (fun _ hk => hk.2) (.int .i64 a0_1)) (fun _ hk => trivial), tb HB⟩
end Go.Proofs.Ytopikhjcbcpiaaa.Q
section
namespace Go.Proofs.Ytopikhjcbcpiaaa.Q
open Go.RowKit Go.Proofs.YtopikhjcbcpiaaaW.PrintWords Go.Proofs.YtopikhjcbcpiaaaW.PrintLast Go.Proofs.YtopikhjcbcpiaaaW.PrintMore
set_option linter.unusedVariables false
def hE : HP := fun _ _ => True
section
variable {P : Program} {ops : Array Oper} {Q : Exit → Act → World → Prop} {md : Region.Mode} {S : World → Prop}
end
end Go.Proofs.Ytopikhjcbcpiaaa.Q
end
