/- Part 4 of the steps by which the law is shown: what each function of the program, of the reference and of the law computes. No condition. -/
import Derived.Test.YtopikhjcbcpiaaaMnw0
import Derived.Test.YtopikhjcbcpiaaaMnw2
namespace Go.Proofs.Ytopikhjcbcpiaaa.Q
open Go.RowKit Go.Proofs.YtopikhjcbcpiaaaW.PrintWords Go.Proofs.YtopikhjcbcpiaaaW.PrintLast Go.Proofs.YtopikhjcbcpiaaaW.PrintMore
attribute [local go_sem] max2_int min2_int max_two min_two max_three min_three max_four min_four   -- for this text's walks alone
set_option linter.unusedVariables false
set_option linter.unusedSimpArgs false
def laws_heldWordS.l0 : Nat → List (S141) → Int → Int → Option (Int)
 | 0, _, _, _ => none
 | k + 1, x0, x1, x5 => if x5 < (x0.length : Int) then (if 0 ≤ x5 then (if ((rd_T141 x0 x5).f0) = x1 then (if ((rd_T141 x0 x5).f1) = (wrap64 (x1 + 1)) then (if ((rd_T141 x0 x5).f2) = (wrap64 ((wrap64 (x1 + 1)) + 1)) then (laws_heldWordS.l0 k x0 (wrap64 ((wrap64 ((wrap64 (x1 + 1)) + 1)) + 1)) (wrap64 (x5 + 1))) else (some (-1))) else (some (-1))) else (some (-1))) else (none)) else (some x1)
def laws_heldWordS.f (k : Nat) (l0 : List (S141)) (a1 : Int) : Option (Int) := laws_heldWordS.l0 k l0 a1 0
set_option maxHeartbeats 8000000 in
set_option maxRecDepth 100000 in
theorem laws_heldWordS.calls (k : Nat) (A0 : Option Addr) (c0 : Nat) (l0 : List (S141)) (a1 : Int) (r : Int) (w : World) (hr0 : Kd.C k141 w A0 l0.length l0) (hc0 : l0.length ≤ c0) (h : laws_heldWordS.f k l0 a1 = some r) :
  Calls Try.prog 131 #[.slice A0 l0.length c0, .int .i64 a1] w fun e w' => e = .returned (.int .i64 r) ∧ Drawn0 w w' := by
 have HR0 := Aside0.mk hr0
 have HC0 := Aside0.mk hc0
 clear hr0 hc0
 have H := h
 clear h
 unfold laws_heldWordS.f at H
 have H' := Aside0.mk H
 clear H
 go_enter Try.func131, Try.ntmps131
 go_wp2
 go_loopg [1, 5] k (fun kq v1 v5 w' => ∃ (x1_1 : Int) (x5_1 : Int), v1 = .int .i64 x1_1 ∧ v5 = .int .i64 x5_1 ∧ Aside0 (laws_heldWordS.l0 kq l0 x1_1 x5_1 = some r) ∧ Aside0 (kq ≤ k) ∧ Drawn0 w w')
 case atStart => exact ⟨(a1), (0), rsd, rsd, H', ⟨Nat.le_refl _⟩, by repeat (first | exact Drawn0.refl _ | apply Drawn0.step)⟩
 case round =>
  clear H'
  obtain ⟨x1_1, x5_1, rfl, rfl, HA, HK1, ⟨m1, rfl⟩⟩ := hrel
  cases gk with
  | zero => exact absurd HA.out (by simp [laws_heldWordS.l0])
  | succ k1 =>
   have H := HA.out
   clear HA
   simp only [laws_heldWordS.l0] at H
   revert H; refine icd (fun c3b0 H => ?_) fun c3b0 H => ?neg
   case neg =>
    obtain rfl := oin H
    go_wp2
    go_ret
    exact ⟨rsd, by repeat (first | exact Drawn0.refl _ | apply Drawn0.step)⟩
   obtain ⟨c4b0, H⟩ := itd H
   by_cases c5 : ((rd_T141 l0 x5_1).f0) = x1_1
   case neg =>
    rw [if_neg c5] at H
    have c5b0 : (((rd_T141 l0 x5_1).f0) == x1_1) = false := beq_eq_false_iff_ne.mpr c5
    have c5b1 : (((rd_T141 l0 x5_1).f0) != x1_1) = true := bne_iff_ne.mpr c5
    obtain rfl := oin H
    have p1145 : 0 ≤ (x5_1 : Int) := od
    have q1145 : x5_1 < (l0.length : Int) := od
    obtain ⟨ad1145, e1145, hx1145⟩ := att141 HR0.out x5_1 p1145 q1145
    cases e1145
    replace p1145 := eq_true p1145
    replace q1145 := eq_true q1145
    go_wp2
    go_ret
    exact ⟨rsd, by repeat (first | exact Drawn0.refl _ | apply Drawn0.step)⟩
   rw [if_pos c5] at H
   have c5b0 : (((rd_T141 l0 x5_1).f0) == x1_1) = true := beq_iff_eq.mpr c5
   have c5b1 : (((rd_T141 l0 x5_1).f0) != x1_1) = false := bne_eq_false_iff_eq.mpr c5
   clear c5
   by_cases c6 : ((rd_T141 l0 x5_1).f1) = (wrap64 (x1_1 + 1))
   case neg =>
    rw [if_neg c6] at H
    have c6b0 : (((rd_T141 l0 x5_1).f1) == (wrap64 (x1_1 + 1))) = false := beq_eq_false_iff_ne.mpr c6
    have c6b1 : (((rd_T141 l0 x5_1).f1) != (wrap64 (x1_1 + 1))) = true := bne_iff_ne.mpr c6
    obtain rfl := oin H
    have p1145 : 0 ≤ (x5_1 : Int) := od
    have q1145 : x5_1 < (l0.length : Int) := od
    obtain ⟨ad1145, e1145, hx1145_0, hx1145_1, hx1145_2⟩ := at_T141 HR0.out x5_1 p1145 q1145
    cases e1145
    replace p1145 := eq_true p1145
    replace q1145 := eq_true q1145
    have p1146 : 0 ≤ (x5_1 : Int) := od
    have q1146 : x5_1 < (l0.length : Int) := od
    obtain ⟨ad1146, e1146, hx1146⟩ := att141 HR0.out x5_1 p1146 q1146
    obtain rfl : ad1145 = ad1146 := (by injection e1146)
    replace p1146 := eq_true p1146
    replace q1146 := eq_true q1146
    go_wp2
    go_ret
    exact ⟨rsd, by repeat (first | exact Drawn0.refl _ | apply Drawn0.step)⟩
   rw [if_pos c6] at H
   have c6b0 : (((rd_T141 l0 x5_1).f1) == (wrap64 (x1_1 + 1))) = true := beq_iff_eq.mpr c6
   have c6b1 : (((rd_T141 l0 x5_1).f1) != (wrap64 (x1_1 + 1))) = false := bne_eq_false_iff_eq.mpr c6
   clear c6
   by_cases c7 : ((rd_T141 l0 x5_1).f2) = (wrap64 ((wrap64 (x1_1 + 1)) + 1))
   case neg =>
    rw [if_neg c7] at H
    have c7b0 : (((rd_T141 l0 x5_1).f2) == (wrap64 ((wrap64 (x1_1 + 1)) + 1))) = false := beq_eq_false_iff_ne.mpr c7
    have c7b1 : (((rd_T141 l0 x5_1).f2) != (wrap64 ((wrap64 (x1_1 + 1)) + 1))) = true := bne_iff_ne.mpr c7
    obtain rfl := oin H
    have p1145 : 0 ≤ (x5_1 : Int) := od
    have q1145 : x5_1 < (l0.length : Int) := od
    obtain ⟨ad1145, e1145, hx1145_0, hx1145_1, hx1145_2⟩ := at_T141 HR0.out x5_1 p1145 q1145
    cases e1145
    replace p1145 := eq_true p1145
    replace q1145 := eq_true q1145
    have p1146 : 0 ≤ (x5_1 : Int) := od
    have q1146 : x5_1 < (l0.length : Int) := od
    obtain ⟨ad1146, e1146, hx1146_0, hx1146_1, hx1146_2⟩ := at_T141 HR0.out x5_1 p1146 q1146
    obtain rfl : ad1145 = ad1146 := (by injection e1146)
    replace p1146 := eq_true p1146
    replace q1146 := eq_true q1146
    have p1147 : 0 ≤ (x5_1 : Int) := od
    have q1147 : x5_1 < (l0.length : Int) := od
    obtain ⟨ad1147, e1147, hx1147⟩ := att141 HR0.out x5_1 p1147 q1147
    obtain rfl : ad1145 = ad1147 := (by injection e1147)
    replace p1147 := eq_true p1147
    replace q1147 := eq_true q1147
    go_wp2
    go_ret
    exact ⟨rsd, by repeat (first | exact Drawn0.refl _ | apply Drawn0.step)⟩
   rw [if_pos c7] at H
   have c7b0 : (((rd_T141 l0 x5_1).f2) == (wrap64 ((wrap64 (x1_1 + 1)) + 1))) = true := beq_iff_eq.mpr c7
   have c7b1 : (((rd_T141 l0 x5_1).f2) != (wrap64 ((wrap64 (x1_1 + 1)) + 1))) = false := bne_eq_false_iff_eq.mpr c7
   clear c7
   have H' := Aside0.mk H
   clear H
   have p1145 : 0 ≤ (x5_1 : Int) := od
   have q1145 : x5_1 < (l0.length : Int) := od
   obtain ⟨ad1145, e1145, hx1145_0, hx1145_1, hx1145_2⟩ := at_T141 HR0.out x5_1 p1145 q1145
   cases e1145
   replace p1145 := eq_true p1145
   replace q1145 := eq_true q1145
   have p1146 : 0 ≤ (x5_1 : Int) := od
   have q1146 : x5_1 < (l0.length : Int) := od
   obtain ⟨ad1146, e1146, hx1146_0, hx1146_1, hx1146_2⟩ := at_T141 HR0.out x5_1 p1146 q1146
   obtain rfl : ad1145 = ad1146 := (by injection e1146)
   replace p1146 := eq_true p1146
   replace q1146 := eq_true q1146
   have p1147 : 0 ≤ (x5_1 : Int) := od
   have q1147 : x5_1 < (l0.length : Int) := od
   obtain ⟨ad1147, e1147, hx1147_0, hx1147_1, hx1147_2⟩ := at_T141 HR0.out x5_1 p1147 q1147
   obtain rfl : ad1145 = ad1147 := (by injection e1147)
   replace p1147 := eq_true p1147
   replace q1147 := eq_true q1147
   go_wp2
   go_roundg k1
   case measure => have := HK1.out; omega
   case rel => exact ⟨(wrap64 ((wrap64 ((wrap64 (x1_1 + 1)) + 1)) + 1)), (wrap64 (x5_1 + 1)), rsd, rsd, H', ⟨by have := HK1.out; omega⟩, by repeat (first | exact Drawn0.refl _ | apply Drawn0.step)⟩
def laws_heldEntryS.l0 : Nat → List (S166) → Int → Int → Option (Int)
 | 0, _, _, _ => none
 | k + 1, x0, x1, x5 => if x5 < (x0.length : Int) then (if 0 ≤ x5 then (if ((rd_T166 x0 x5).f0) = x1 then (if ((rd_T166 x0 x5).f1) = (wrap64 (x1 + 1)) then (if ((rd_T166 x0 x5).f2) = (wrap64 ((wrap64 (x1 + 1)) + 1)) then (laws_heldEntryS.l0 k x0 (wrap64 ((wrap64 ((wrap64 (x1 + 1)) + 1)) + 1)) (wrap64 (x5 + 1))) else (some (-1))) else (some (-1))) else (some (-1))) else (none)) else (some x1)
def laws_heldEntryS.f (k : Nat) (l0 : List (S166)) (a1 : Int) : Option (Int) := laws_heldEntryS.l0 k l0 a1 0
set_option maxHeartbeats 8000000 in
set_option maxRecDepth 100000 in
theorem laws_heldEntryS.calls (k : Nat) (A0 : Option Addr) (c0 : Nat) (l0 : List (S166)) (a1 : Int) (r : Int) (w : World) (hr0 : Kd.C k166 w A0 l0.length l0) (hc0 : l0.length ≤ c0) (h : laws_heldEntryS.f k l0 a1 = some r) :
  Calls Try.prog 184 #[.slice A0 l0.length c0, .int .i64 a1] w fun e w' => e = .returned (.int .i64 r) ∧ Drawn0 w w' := by
 have HR0 := Aside0.mk hr0
 have HC0 := Aside0.mk hc0
 clear hr0 hc0
 have H := h
 clear h
 unfold laws_heldEntryS.f at H
 have H' := Aside0.mk H
 clear H
 go_enter Try.func184, Try.ntmps184
 go_wp2
 go_loopg [1, 5] k (fun kq v1 v5 w' => ∃ (x1_1 : Int) (x5_1 : Int), v1 = .int .i64 x1_1 ∧ v5 = .int .i64 x5_1 ∧ Aside0 (laws_heldEntryS.l0 kq l0 x1_1 x5_1 = some r) ∧ Aside0 (kq ≤ k) ∧ Drawn0 w w')
 case atStart => exact ⟨(a1), (0), rsd, rsd, H', ⟨Nat.le_refl _⟩, by repeat (first | exact Drawn0.refl _ | apply Drawn0.step)⟩
 case round =>
  clear H'
  obtain ⟨x1_1, x5_1, rfl, rfl, HA, HK1, ⟨m1, rfl⟩⟩ := hrel
  cases gk with
  | zero => exact absurd HA.out (by simp [laws_heldEntryS.l0])
  | succ k1 =>
   have H := HA.out
   clear HA
   simp only [laws_heldEntryS.l0] at H
   revert H; refine icd (fun c3b0 H => ?_) fun c3b0 H => ?neg
   case neg =>
    obtain rfl := oin H
    go_wp2
    go_ret
    exact ⟨rsd, by repeat (first | exact Drawn0.refl _ | apply Drawn0.step)⟩
   obtain ⟨c4b0, H⟩ := itd H
   by_cases c5 : ((rd_T166 l0 x5_1).f0) = x1_1
   case neg =>
    rw [if_neg c5] at H
    have c5b0 : (((rd_T166 l0 x5_1).f0) == x1_1) = false := beq_eq_false_iff_ne.mpr c5
    have c5b1 : (((rd_T166 l0 x5_1).f0) != x1_1) = true := bne_iff_ne.mpr c5
    obtain rfl := oin H
    have p1148 : 0 ≤ (x5_1 : Int) := od
    have q1148 : x5_1 < (l0.length : Int) := od
    obtain ⟨ad1148, e1148, hx1148⟩ := att166 HR0.out x5_1 p1148 q1148
    cases e1148
    replace p1148 := eq_true p1148
    replace q1148 := eq_true q1148
    go_wp2
    go_ret
    exact ⟨rsd, by repeat (first | exact Drawn0.refl _ | apply Drawn0.step)⟩
   rw [if_pos c5] at H
   have c5b0 : (((rd_T166 l0 x5_1).f0) == x1_1) = true := beq_iff_eq.mpr c5
   have c5b1 : (((rd_T166 l0 x5_1).f0) != x1_1) = false := bne_eq_false_iff_eq.mpr c5
   clear c5
   by_cases c6 : ((rd_T166 l0 x5_1).f1) = (wrap64 (x1_1 + 1))
   case neg =>
    rw [if_neg c6] at H
    have c6b0 : (((rd_T166 l0 x5_1).f1) == (wrap64 (x1_1 + 1))) = false := beq_eq_false_iff_ne.mpr c6
    have c6b1 : (((rd_T166 l0 x5_1).f1) != (wrap64 (x1_1 + 1))) = true := bne_iff_ne.mpr c6
    obtain rfl := oin H
    have p1148 : 0 ≤ (x5_1 : Int) := od
    have q1148 : x5_1 < (l0.length : Int) := od
    obtain ⟨ad1148, e1148, hx1148_0, hx1148_1, hx1148_2⟩ := at_T166 HR0.out x5_1 p1148 q1148
    cases e1148
    replace p1148 := eq_true p1148
    replace q1148 := eq_true q1148
    have p1149 : 0 ≤ (x5_1 : Int) := od
    have q1149 : x5_1 < (l0.length : Int) := od
    obtain ⟨ad1149, e1149, hx1149⟩ := att166 HR0.out x5_1 p1149 q1149
    obtain rfl : ad1148 = ad1149 := (by injection e1149)
    replace p1149 := eq_true p1149
    replace q1149 := eq_true q1149
    go_wp2
    go_ret
    exact ⟨rsd, by repeat (first | exact Drawn0.refl _ | apply Drawn0.step)⟩
   rw [if_pos c6] at H
   have c6b0 : (((rd_T166 l0 x5_1).f1) == (wrap64 (x1_1 + 1))) = true := beq_iff_eq.mpr c6
   have c6b1 : (((rd_T166 l0 x5_1).f1) != (wrap64 (x1_1 + 1))) = false := bne_eq_false_iff_eq.mpr c6
   clear c6
   by_cases c7 : ((rd_T166 l0 x5_1).f2) = (wrap64 ((wrap64 (x1_1 + 1)) + 1))
   case neg =>
    rw [if_neg c7] at H
    have c7b0 : (((rd_T166 l0 x5_1).f2) == (wrap64 ((wrap64 (x1_1 + 1)) + 1))) = false := beq_eq_false_iff_ne.mpr c7
    have c7b1 : (((rd_T166 l0 x5_1).f2) != (wrap64 ((wrap64 (x1_1 + 1)) + 1))) = true := bne_iff_ne.mpr c7
    obtain rfl := oin H
    have p1148 : 0 ≤ (x5_1 : Int) := od
    have q1148 : x5_1 < (l0.length : Int) := od
    obtain ⟨ad1148, e1148, hx1148_0, hx1148_1, hx1148_2⟩ := at_T166 HR0.out x5_1 p1148 q1148
    cases e1148
    replace p1148 := eq_true p1148
    replace q1148 := eq_true q1148
    have p1149 : 0 ≤ (x5_1 : Int) := od
    have q1149 : x5_1 < (l0.length : Int) := od
    obtain ⟨ad1149, e1149, hx1149_0, hx1149_1, hx1149_2⟩ := at_T166 HR0.out x5_1 p1149 q1149
    obtain rfl : ad1148 = ad1149 := (by injection e1149)
    replace p1149 := eq_true p1149
    replace q1149 := eq_true q1149
    have p1150 : 0 ≤ (x5_1 : Int) := od
    have q1150 : x5_1 < (l0.length : Int) := od
    obtain ⟨ad1150, e1150, hx1150⟩ := att166 HR0.out x5_1 p1150 q1150
    obtain rfl : ad1148 = ad1150 := (by injection e1150)
    replace p1150 := eq_true p1150
    replace q1150 := eq_true q1150
    go_wp2
    go_ret
    exact ⟨rsd, by repeat (first | exact Drawn0.refl _ | apply Drawn0.step)⟩
   rw [if_pos c7] at H
   have c7b0 : (((rd_T166 l0 x5_1).f2) == (wrap64 ((wrap64 (x1_1 + 1)) + 1))) = true := beq_iff_eq.mpr c7
   have c7b1 : (((rd_T166 l0 x5_1).f2) != (wrap64 ((wrap64 (x1_1 + 1)) + 1))) = false := bne_eq_false_iff_eq.mpr c7
   clear c7
   have H' := Aside0.mk H
   clear H
   have p1148 : 0 ≤ (x5_1 : Int) := od
   have q1148 : x5_1 < (l0.length : Int) := od
   obtain ⟨ad1148, e1148, hx1148_0, hx1148_1, hx1148_2⟩ := at_T166 HR0.out x5_1 p1148 q1148
   cases e1148
   replace p1148 := eq_true p1148
   replace q1148 := eq_true q1148
   have p1149 : 0 ≤ (x5_1 : Int) := od
   have q1149 : x5_1 < (l0.length : Int) := od
   obtain ⟨ad1149, e1149, hx1149_0, hx1149_1, hx1149_2⟩ := at_T166 HR0.out x5_1 p1149 q1149
   obtain rfl : ad1148 = ad1149 := (by injection e1149)
   replace p1149 := eq_true p1149
   replace q1149 := eq_true q1149
   have p1150 : 0 ≤ (x5_1 : Int) := od
   have q1150 : x5_1 < (l0.length : Int) := od
   obtain ⟨ad1150, e1150, hx1150_0, hx1150_1, hx1150_2⟩ := at_T166 HR0.out x5_1 p1150 q1150
   obtain rfl : ad1148 = ad1150 := (by injection e1150)
   replace p1150 := eq_true p1150
   replace q1150 := eq_true q1150
   go_wp2
   go_roundg k1
   case measure => have := HK1.out; omega
   case rel => exact ⟨(wrap64 ((wrap64 ((wrap64 (x1_1 + 1)) + 1)) + 1)), (wrap64 (x5_1 + 1)), rsd, rsd, H', ⟨by have := HK1.out; omega⟩, by repeat (first | exact Drawn0.refl _ | apply Drawn0.step)⟩
end Go.Proofs.Ytopikhjcbcpiaaa.Q
