/- Part 4 of the steps by which the law is shown: what each function of the program, of the reference and of the law computes. No condition. -/
import Derived.Test.YtopikhjcbcpiaaaGreatMac3
namespace Go.Proofs.YtopikhjcbcpiaaaGreat.Q
open Go.RowKit Go.Proofs.YtopikhjcbcpiaaaGreatW.PrintWords Go.Proofs.YtopikhjcbcpiaaaGreatW.PrintLast Go.Proofs.YtopikhjcbcpiaaaGreatW.PrintMore
attribute [local go_sem] max2_int min2_int max_two min_two max_three min_three max_four min_four   -- for this text's walks alone
set_option linter.unusedVariables false
set_option linter.unusedSimpArgs false
attribute [local go_sem high] eqA132
def impl_callsOk.l0 : Nat → Int → Int → Int → Int → List (S134) → Int → Int → List (S39) → List (S52) → List (S82) → Int → List (S134) → List Int → List Int → Int → List (S132) → Int → Bool → List (S145) → List (S42) → Option (Bool)
 | 0, _, _, _, _, _, _, _, _, _, _, _, _, _, _, _, _, _, _, _, _ => none
 | k + 1, x1, x6, x7, x8, x17, x18, x19, x475000, x475001, x475002, x475003, x475004, x475005, x475006, x475007, x477000, x477001, x477002, x477003, x477004 => if x19 < x18 then (if 0 ≤ x19 then (if x19 < (x17.length : Int) then (if ((rd_T134 x17 x19).f0) = x1 then (if ((rd_T134 x17 x19).f4) ≥ 0 then (impl_callsOk.l0 k x1 x19 (wrap64 (x7 + 1)) x8 x17 x18 (wrap64 (x19 + 1)) x475000 x475001 x475002 x475003 x475004 x475005 x475006 x475007 x477000 x477001 x477002 x477003 x477004) else (impl_callsOk.l0 k x1 x19 x7 (wrap64 (x8 + 1)) x17 x18 (wrap64 (x19 + 1)) x475000 x475001 x475002 x475003 x475004 x475005 x475006 x475007 x477000 x477001 x477002 x477003 x477004)) else (impl_callsOk.l0 k x1 x6 x7 x8 x17 x18 (wrap64 (x19 + 1)) x475000 x475001 x475002 x475003 x475004 x475005 x475006 x475007 x477000 x477001 x477002 x477003 x477004)) else (none)) else (none)) else (if x7 = x477001 then (if x477002 = true then (if x6 ≥ 0 then (if x8 = 1 then (if 0 ≤ x6 then (if x6 < (x475004.length : Int) then (if ((rd_T134 x475004 x6).f4) = (-1) then (if 0 ≤ x477001 then (if x477001 < (x477000.length : Int) then (some (((rd_T134 x475004 x6).f1.f0) == ((rd_T132 x477000 x477001).f0) && (((rd_T134 x475004 x6).f1.f1) == ((rd_T132 x477000 x477001).f1) && (((rd_T134 x475004 x6).f1.f2) == ((rd_T132 x477000 x477001).f2))))) else (none)) else (none)) else (some false)) else (none)) else (none)) else (some false)) else (some false)) else (some (x8 == 0))) else (some false))
def impl_callsOk.f (k : Nat) (l0_0 : List (S39)) (l0_1 : List (S52)) (l0_2 : List (S82)) (a0_3 : Int) (l0_4 : List (S134)) (l0_5 : List Int) (l0_6 : List Int) (a0_7 : Int) (a1 : Int) : Option (Bool) := if 0 ≤ a1 then (if a1 < (l0_2.length : Int) then (impl_callsOk.l0 k a1 (-1) 0 0 l0_4 (l0_4.length : Int) 0 l0_0 l0_1 l0_2 a0_3 l0_4 l0_5 l0_6 a0_7 ((rd_T82 l0_2 a1).f0) ((rd_T82 l0_2 a1).f1) ((rd_T82 l0_2 a1).f2) ((rd_T82 l0_2 a1).f3) ((rd_T82 l0_2 a1).f4)) else (none)) else (none)
set_option maxHeartbeats 8000000 in
set_option maxRecDepth 100000 in
theorem impl_callsOk.calls (k : Nat) (A0_0 : Option Addr) (c0_0 : Nat) (l0_0 : List (S39)) (A0_1 : Option Addr) (c0_1 : Nat) (l0_1 : List (S52)) (A0_2 : Option Addr) (c0_2 : Nat) (l0_2 : List (S82)) (a0_3 : Int) (A0_4 : Option Addr) (c0_4 : Nat) (l0_4 : List (S134)) (A0_5 : Option Addr) (c0_5 : Nat) (l0_5 : List Int) (A0_6 : Option Addr) (c0_6 : Nat) (l0_6 : List Int) (a0_7 : Int) (a1 : Int) (r : Bool) (w : World) (hr0_0 : Kd.C k39 w A0_0 l0_0.length l0_0) (hc0_0 : l0_0.length ≤ c0_0) (hr0_1 : Kd.C k52 w A0_1 l0_1.length l0_1) (hc0_1 : l0_1.length ≤ c0_1) (hr0_2 : Kd.C k82 w A0_2 l0_2.length l0_2) (hc0_2 : l0_2.length ≤ c0_2) (hr0_4 : Kd.C k134 w A0_4 l0_4.length l0_4) (hc0_4 : l0_4.length ≤ c0_4) (hr0_5 : Kd.C (Kd.int .i64) w A0_5 l0_5.length l0_5) (hc0_5 : l0_5.length ≤ c0_5) (hr0_6 : Kd.C (Kd.int .i64) w A0_6 l0_6.length l0_6) (hc0_6 : l0_6.length ≤ c0_6) (h : impl_callsOk.f k l0_0 l0_1 l0_2 a0_3 l0_4 l0_5 l0_6 a0_7 a1 = some r) :
  Calls Tryz.prog 96 #[.agg #[.slice A0_0 l0_0.length c0_0, .slice A0_1 l0_1.length c0_1, .slice A0_2 l0_2.length c0_2, .int .i64 a0_3, .slice A0_4 l0_4.length c0_4, .slice A0_5 l0_5.length c0_5, .slice A0_6 l0_6.length c0_6, .int .i64 a0_7], .int .i64 a1] w fun e w' => e = .returned (.bool r) ∧ Below w.heap.size w w' := by
 have hu75 := Tryz.underlying75
 have hu82 := Tryz.underlying82
 have hu134 := Tryz.underlying134
 have hu132 := Tryz.underlying132
 have HR0_0 := Aside0.mk hr0_0
 have HC0_0 := Aside0.mk hc0_0
 clear hr0_0 hc0_0
 have HR0_1 := Aside0.mk hr0_1
 have HC0_1 := Aside0.mk hc0_1
 clear hr0_1 hc0_1
 have HR0_2 := Aside0.mk hr0_2
 have HC0_2 := Aside0.mk hc0_2
 clear hr0_2 hc0_2
 have HR0_4 := Aside0.mk hr0_4
 have HC0_4 := Aside0.mk hc0_4
 clear hr0_4 hc0_4
 have HR0_5 := Aside0.mk hr0_5
 have HC0_5 := Aside0.mk hc0_5
 clear hr0_5 hc0_5
 have HR0_6 := Aside0.mk hr0_6
 have HC0_6 := Aside0.mk hc0_6
 clear hr0_6 hc0_6
 have HB := Aside0.mk (Below.refl w.heap.size w)
 have H := h
 clear h
 unfold impl_callsOk.f at H
 obtain ⟨c3b0, H⟩ := itd H
 obtain ⟨c4b0, H⟩ := itd H
 have H' := Aside0.mk H
 clear H
 go_enter Tryz.func96, Tryz.ntmps96
 go_wp2_with (first | ((with_reducible refine gq 2 rfl ?_); refine bx0 HB (N := 2) (t := 75) ?_; clear HB; intro gb474 w5 BK474 GE474 HB; have hz6 := cs8_ BK474; have p475 : 0 ≤ (a1 : Int) := od; have q475 : a1 < (l0_2.length : Int) := od; obtain ⟨ad475, A475_0, c475_0, A475_3, c475_3, A475_4, c475_4, e475, hx475_0, hx475_1, hx475_2, hx475_3, hx475_4, hl475_0, hi475_0, hl475_3, hi475_3, hl475_4, hi475_4⟩ := at_T82 HR0_2.out a1 p475 q475; cases e475; replace hx475_0 := ox HB hx475_0; replace hx475_1 := ox HB hx475_1; replace hx475_2 := ox HB hx475_2; replace hx475_3 := ox HB hx475_3; replace hx475_4 := ox HB hx475_4; have HR475_0 := Aside0.mk hi475_0; have HC475_0 := Aside0.mk hl475_0; clear hi475_0 hl475_0; have HR475_3 := Aside0.mk hi475_3; have HC475_3 := Aside0.mk hl475_3; clear hi475_3 hl475_3; have HR475_4 := Aside0.mk hi475_4; have HC475_4 := Aside0.mk hl475_4; clear hi475_4 hl475_4; replace p475 := eq_true p475; replace q475 := eq_true q475) | ((with_reducible refine gq 5 rfl ?_); refine bx1 HB BK474 (N := 5) (cs := #[.slice none 0 0, .int .i64 0, .bool false, .slice none 0 0, .slice none 0 0]) (t := 82) ?_; clear HB BK474; intro gb476 w7 BK476 GE476 HB NB474_476 NB476_474 BK474; have hnb8 := NB476_474.out; have hnc8 := NB474_476.out; have hz9 := cs5_ BK476; have hz10 := cs8_ BK474))
 repeat (go_quiet (first | ((with_reducible refine gq 2 rfl ?_); refine bx0 HB (N := 2) (t := 75) ?_; clear HB; intro gb474 w5 BK474 GE474 HB; have hz6 := cs8_ BK474; have p475 : 0 ≤ (a1 : Int) := od; have q475 : a1 < (l0_2.length : Int) := od; obtain ⟨ad475, A475_0, c475_0, A475_3, c475_3, A475_4, c475_4, e475, hx475_0, hx475_1, hx475_2, hx475_3, hx475_4, hl475_0, hi475_0, hl475_3, hi475_3, hl475_4, hi475_4⟩ := at_T82 HR0_2.out a1 p475 q475; cases e475; replace hx475_0 := ox HB hx475_0; replace hx475_1 := ox HB hx475_1; replace hx475_2 := ox HB hx475_2; replace hx475_3 := ox HB hx475_3; replace hx475_4 := ox HB hx475_4; have HR475_0 := Aside0.mk hi475_0; have HC475_0 := Aside0.mk hl475_0; clear hi475_0 hl475_0; have HR475_3 := Aside0.mk hi475_3; have HC475_3 := Aside0.mk hl475_3; clear hi475_3 hl475_3; have HR475_4 := Aside0.mk hi475_4; have HC475_4 := Aside0.mk hl475_4; clear hi475_4 hl475_4; replace p475 := eq_true p475; replace q475 := eq_true q475) | ((with_reducible refine gq 5 rfl ?_); refine bx1 HB BK474 (N := 5) (cs := #[.slice none 0 0, .int .i64 0, .bool false, .slice none 0 0, .slice none 0 0]) (t := 82) ?_; clear HB BK474; intro gb476 w7 BK476 GE476 HB NB474_476 NB476_474 BK474; have hnb8 := NB476_474.out; have hnc8 := NB474_476.out; have hz9 := cs5_ BK476; have hz10 := cs8_ BK474)); try go_wp2_with (first | ((with_reducible refine gq 2 rfl ?_); refine bx0 HB (N := 2) (t := 75) ?_; clear HB; intro gb474 w5 BK474 GE474 HB; have hz6 := cs8_ BK474; have p475 : 0 ≤ (a1 : Int) := od; have q475 : a1 < (l0_2.length : Int) := od; obtain ⟨ad475, A475_0, c475_0, A475_3, c475_3, A475_4, c475_4, e475, hx475_0, hx475_1, hx475_2, hx475_3, hx475_4, hl475_0, hi475_0, hl475_3, hi475_3, hl475_4, hi475_4⟩ := at_T82 HR0_2.out a1 p475 q475; cases e475; replace hx475_0 := ox HB hx475_0; replace hx475_1 := ox HB hx475_1; replace hx475_2 := ox HB hx475_2; replace hx475_3 := ox HB hx475_3; replace hx475_4 := ox HB hx475_4; have HR475_0 := Aside0.mk hi475_0; have HC475_0 := Aside0.mk hl475_0; clear hi475_0 hl475_0; have HR475_3 := Aside0.mk hi475_3; have HC475_3 := Aside0.mk hl475_3; clear hi475_3 hl475_3; have HR475_4 := Aside0.mk hi475_4; have HC475_4 := Aside0.mk hl475_4; clear hi475_4 hl475_4; replace p475 := eq_true p475; replace q475 := eq_true q475) | ((with_reducible refine gq 5 rfl ?_); refine bx1 HB BK474 (N := 5) (cs := #[.slice none 0 0, .int .i64 0, .bool false, .slice none 0 0, .slice none 0 0]) (t := 82) ?_; clear HB BK474; intro gb476 w7 BK476 GE476 HB NB474_476 NB476_474 BK474; have hnb8 := NB476_474.out; have hnc8 := NB474_476.out; have hz9 := cs5_ BK476; have hz10 := cs8_ BK474)))
 go_loopg [6, 7, 8, 19] k (fun kq v6 v7 v8 v19 w' => ∃ (x6_1 : Int) (x7_1 : Int) (x8_1 : Int) (x19_1 : Int), v6 = .int .i64 x6_1 ∧ v7 = .int .i64 x7_1 ∧ v8 = .int .i64 x8_1 ∧ v19 = .int .i64 x19_1 ∧ Aside0 (impl_callsOk.l0 kq a1 x6_1 x7_1 x8_1 l0_4 (l0_4.length : Int) x19_1 l0_0 l0_1 l0_2 a0_3 l0_4 l0_5 l0_6 a0_7 ((rd_T82 l0_2 a1).f0) ((rd_T82 l0_2 a1).f1) ((rd_T82 l0_2 a1).f2) ((rd_T82 l0_2 a1).f3) ((rd_T82 l0_2 a1).f4) = some r) ∧ Aside0 (kq ≤ k) ∧ Aside0 (w'.heap[gb474]? = some (.cells #[(.slice A0_0 l0_0.length c0_0), (.slice A0_1 l0_1.length c0_1), (.slice (some ad475) l0_2.length c0_2), .int .i64 a0_3, (.slice A0_4 l0_4.length c0_4), (.slice A0_5 l0_5.length c0_5), (.slice A0_6 l0_6.length c0_6), .int .i64 a0_7] 75 (0, 0))) ∧ Aside0 (w'.heap[gb476]? = some (.cells #[(.slice A475_0 ((rd_T82 l0_2 a1).f0).length c475_0), .int .i64 ((rd_T82 l0_2 a1).f1), .bool ((rd_T82 l0_2 a1).f2), (.slice A475_3 ((rd_T82 l0_2 a1).f3).length c475_3), (.slice A475_4 ((rd_T82 l0_2 a1).f4).length c475_4)] 82 (0, 0))) ∧ Aside0 (Below w.heap.size w w'))
 case atStart => exact ⟨((-1)), (0), (0), (0), rsd, rsd, rsd, rsd, H', ⟨Nat.le_refl _⟩, ⟨bf BK474⟩, ⟨bfp5 BK476⟩, ⟨tb HB⟩⟩
 case round =>
  clear H'
  try clear p2
  try clear c3
  try clear c3b0
  try clear c4
  try clear c4b0
  try clear p4
  try clear q4
  try clear hx4
  try clear c8
  try clear c9
  try clear hz10
  try clear hz6
  try clear hz9
  try clear hz10
  try clear hz6
  try clear hz9
  try clear hx475_0
  try clear hx475_1
  try clear hx475_2
  try clear hx475_3
  try clear hx475_4
  try clear p475
  try clear q475
  obtain ⟨x6_1, x7_1, x8_1, x19_1, rfl, rfl, rfl, rfl, HA, HK1, BK474, BK476, HB⟩ := hrel
  cases gk with
  | zero => exact absurd HA.out (by simp [impl_callsOk.l0])
  | succ k1 =>
   have H := HA.out
   clear HA
   simp only [impl_callsOk.l0] at H
   revert H; refine icd (fun c11b0 H => ?pos) fun c11b0 H => ?_
   case pos =>
    obtain ⟨c12b0, H⟩ := itd H
    obtain ⟨c13b0, H⟩ := itd H
    by_cases c14 : ((rd_T134 l0_4 x19_1).f0) = a1
    case neg =>
     rw [if_neg c14] at H
     have c14b0 : (((rd_T134 l0_4 x19_1).f0) == a1) = false := beq_eq_false_iff_ne.mpr c14
     have c14b1 : (((rd_T134 l0_4 x19_1).f0) != a1) = true := bne_iff_ne.mpr c14
     have H' := Aside0.mk H
     clear H
     have p477 : 0 ≤ (x19_1 : Int) := od
     have q477 : x19_1 < (l0_4.length : Int) := od
     obtain ⟨ad477, A477_8, c477_8, e477, hx477, hl477_8, hi477_8⟩ := att134 HR0_4.out x19_1 p477 q477
     cases e477
     replace hx477 := ox9 HB hx477
     have HR477_8 := Aside0.mk hi477_8
     have HC477_8 := Aside0.mk hl477_8
     clear hi477_8 hl477_8
     replace p477 := eq_true p477
     replace q477 := eq_true q477
     go_wp2_with (first | ((with_reducible refine gq 10 rfl ?_); refine bx2 HB BK474 BK476 (N := 10) (cs := #[.int .i64 0, .int .i64 0, .int .i64 0, .int .i64 0, .int .i64 0, .int .i64 0, .int .i64 0, .int .i64 0, .slice none 0 0]) (t := 134) ?_; clear HB BK474 BK476; intro gb478 w24 BK478 GE478 HB NB474_478 NB478_474 BK474 NB476_478 NB478_476 BK476; have hnb25 := NB478_474.out; have hnc25 := NB474_478.out; have hnb26 := NB478_476.out; have hnc26 := NB476_478.out; have hz27 := cs9_ BK478))
     repeat (go_quiet (first | ((with_reducible refine gq 10 rfl ?_); refine bx2 HB BK474 BK476 (N := 10) (cs := #[.int .i64 0, .int .i64 0, .int .i64 0, .int .i64 0, .int .i64 0, .int .i64 0, .int .i64 0, .int .i64 0, .slice none 0 0]) (t := 134) ?_; clear HB BK474 BK476; intro gb478 w24 BK478 GE478 HB NB474_478 NB478_474 BK474 NB476_478 NB478_476 BK476; have hnb25 := NB478_474.out; have hnc25 := NB474_478.out; have hnb26 := NB478_476.out; have hnc26 := NB476_478.out; have hz27 := cs9_ BK478)); try go_wp2_with (first | ((with_reducible refine gq 10 rfl ?_); refine bx2 HB BK474 BK476 (N := 10) (cs := #[.int .i64 0, .int .i64 0, .int .i64 0, .int .i64 0, .int .i64 0, .int .i64 0, .int .i64 0, .int .i64 0, .slice none 0 0]) (t := 134) ?_; clear HB BK474 BK476; intro gb478 w24 BK478 GE478 HB NB474_478 NB478_474 BK474 NB476_478 NB478_476 BK476; have hnb25 := NB478_474.out; have hnc25 := NB474_478.out; have hnb26 := NB478_476.out; have hnc26 := NB476_478.out; have hz27 := cs9_ BK478)))
     go_roundg k1
     case measure => have := HK1.out; omega
     case rel => exact ⟨(x6_1), (x7_1), (x8_1), (wrap64 (x19_1 + 1)), rsd, rsd, rsd, rsd, H', ⟨by have := HK1.out; omega⟩, ⟨bf BK474⟩, ⟨bf BK476⟩, ⟨tb HB⟩⟩
    rw [if_pos c14] at H
    have c14b0 : (((rd_T134 l0_4 x19_1).f0) == a1) = true := beq_iff_eq.mpr c14
    have c14b1 : (((rd_T134 l0_4 x19_1).f0) != a1) = false := bne_eq_false_iff_eq.mpr c14
    clear c14
    revert H; refine icd (fun c15b0 H => ?_) fun c15b0 H => ?neg
    case neg =>
     have H' := Aside0.mk H
     clear H
     have p477 : 0 ≤ (x19_1 : Int) := od
     have q477 : x19_1 < (l0_4.length : Int) := od
     obtain ⟨ad477, A477_8, c477_8, e477, hx477_0, hx477_1, hx477_2, hx477_3, hx477_4, hx477_5, hx477_6, hx477_7, hx477_8, hl477_8, hi477_8⟩ := at_T134 HR0_4.out x19_1 p477 q477
     cases e477
     replace hx477_0 := ox HB hx477_0
     replace hx477_1 := ox HB hx477_1
     replace hx477_2 := ox HB hx477_2
     replace hx477_3 := ox HB hx477_3
     replace hx477_4 := ox HB hx477_4
     replace hx477_5 := ox HB hx477_5
     replace hx477_6 := ox HB hx477_6
     replace hx477_7 := ox HB hx477_7
     replace hx477_8 := ox HB hx477_8
     have HR477_8 := Aside0.mk hi477_8
     have HC477_8 := Aside0.mk hl477_8
     clear hi477_8 hl477_8
     replace p477 := eq_true p477
     replace q477 := eq_true q477
     go_wp2_with (first | ((with_reducible refine gq 10 rfl ?_); refine bx2 HB BK474 BK476 (N := 10) (cs := #[.int .i64 0, .int .i64 0, .int .i64 0, .int .i64 0, .int .i64 0, .int .i64 0, .int .i64 0, .int .i64 0, .slice none 0 0]) (t := 134) ?_; clear HB BK474 BK476; intro gb478 w20 BK478 GE478 HB NB474_478 NB478_474 BK474 NB476_478 NB478_476 BK476; have hnb21 := NB478_474.out; have hnc21 := NB474_478.out; have hnb22 := NB478_476.out; have hnc22 := NB476_478.out; have hz23 := cs9_ BK478))
     repeat (go_quiet (first | ((with_reducible refine gq 10 rfl ?_); refine bx2 HB BK474 BK476 (N := 10) (cs := #[.int .i64 0, .int .i64 0, .int .i64 0, .int .i64 0, .int .i64 0, .int .i64 0, .int .i64 0, .int .i64 0, .slice none 0 0]) (t := 134) ?_; clear HB BK474 BK476; intro gb478 w20 BK478 GE478 HB NB474_478 NB478_474 BK474 NB476_478 NB478_476 BK476; have hnb21 := NB478_474.out; have hnc21 := NB474_478.out; have hnb22 := NB478_476.out; have hnc22 := NB476_478.out; have hz23 := cs9_ BK478)); try go_wp2_with (first | ((with_reducible refine gq 10 rfl ?_); refine bx2 HB BK474 BK476 (N := 10) (cs := #[.int .i64 0, .int .i64 0, .int .i64 0, .int .i64 0, .int .i64 0, .int .i64 0, .int .i64 0, .int .i64 0, .slice none 0 0]) (t := 134) ?_; clear HB BK474 BK476; intro gb478 w20 BK478 GE478 HB NB474_478 NB478_474 BK474 NB476_478 NB478_476 BK476; have hnb21 := NB478_474.out; have hnc21 := NB474_478.out; have hnb22 := NB478_476.out; have hnc22 := NB476_478.out; have hz23 := cs9_ BK478)))
     go_roundg k1
     case measure => have := HK1.out; omega
     case rel => exact ⟨(x19_1), (x7_1), (wrap64 (x8_1 + 1)), (wrap64 (x19_1 + 1)), rsd, rsd, rsd, rsd, H', ⟨by have := HK1.out; omega⟩, ⟨bf BK474⟩, ⟨bf BK476⟩, ⟨tb HB⟩⟩
    have H' := Aside0.mk H
    clear H
    have p477 : 0 ≤ (x19_1 : Int) := od
    have q477 : x19_1 < (l0_4.length : Int) := od
    obtain ⟨ad477, A477_8, c477_8, e477, hx477_0, hx477_1, hx477_2, hx477_3, hx477_4, hx477_5, hx477_6, hx477_7, hx477_8, hl477_8, hi477_8⟩ := at_T134 HR0_4.out x19_1 p477 q477
    cases e477
    replace hx477_0 := ox HB hx477_0
    replace hx477_1 := ox HB hx477_1
    replace hx477_2 := ox HB hx477_2
    replace hx477_3 := ox HB hx477_3
    replace hx477_4 := ox HB hx477_4
    replace hx477_5 := ox HB hx477_5
    replace hx477_6 := ox HB hx477_6
    replace hx477_7 := ox HB hx477_7
    replace hx477_8 := ox HB hx477_8
    have HR477_8 := Aside0.mk hi477_8
    have HC477_8 := Aside0.mk hl477_8
    clear hi477_8 hl477_8
    replace p477 := eq_true p477
    replace q477 := eq_true q477
    go_wp2_with (first | ((with_reducible refine gq 10 rfl ?_); refine bx2 HB BK474 BK476 (N := 10) (cs := #[.int .i64 0, .int .i64 0, .int .i64 0, .int .i64 0, .int .i64 0, .int .i64 0, .int .i64 0, .int .i64 0, .slice none 0 0]) (t := 134) ?_; clear HB BK474 BK476; intro gb478 w16 BK478 GE478 HB NB474_478 NB478_474 BK474 NB476_478 NB478_476 BK476; have hnb17 := NB478_474.out; have hnc17 := NB474_478.out; have hnb18 := NB478_476.out; have hnc18 := NB476_478.out; have hz19 := cs9_ BK478))
    repeat (go_quiet (first | ((with_reducible refine gq 10 rfl ?_); refine bx2 HB BK474 BK476 (N := 10) (cs := #[.int .i64 0, .int .i64 0, .int .i64 0, .int .i64 0, .int .i64 0, .int .i64 0, .int .i64 0, .int .i64 0, .slice none 0 0]) (t := 134) ?_; clear HB BK474 BK476; intro gb478 w16 BK478 GE478 HB NB474_478 NB478_474 BK474 NB476_478 NB478_476 BK476; have hnb17 := NB478_474.out; have hnc17 := NB474_478.out; have hnb18 := NB478_476.out; have hnc18 := NB476_478.out; have hz19 := cs9_ BK478)); try go_wp2_with (first | ((with_reducible refine gq 10 rfl ?_); refine bx2 HB BK474 BK476 (N := 10) (cs := #[.int .i64 0, .int .i64 0, .int .i64 0, .int .i64 0, .int .i64 0, .int .i64 0, .int .i64 0, .int .i64 0, .slice none 0 0]) (t := 134) ?_; clear HB BK474 BK476; intro gb478 w16 BK478 GE478 HB NB474_478 NB478_474 BK474 NB476_478 NB478_476 BK476; have hnb17 := NB478_474.out; have hnc17 := NB474_478.out; have hnb18 := NB478_476.out; have hnc18 := NB476_478.out; have hz19 := cs9_ BK478)))
    go_roundg k1
    case measure => have := HK1.out; omega
    case rel => exact ⟨(x19_1), (wrap64 (x7_1 + 1)), (x8_1), (wrap64 (x19_1 + 1)), rsd, rsd, rsd, rsd, H', ⟨by have := HK1.out; omega⟩, ⟨bf BK474⟩, ⟨bf BK476⟩, ⟨tb HB⟩⟩
   by_cases c28 : x7_1 = ((rd_T82 l0_2 a1).f1)
   case neg =>
    rw [if_neg c28] at H
    have c28b0 : (x7_1 == ((rd_T82 l0_2 a1).f1)) = false := beq_eq_false_iff_ne.mpr c28
    have c28b1 : (x7_1 != ((rd_T82 l0_2 a1).f1)) = true := bne_iff_ne.mpr c28
    obtain rfl := oin H
    have hnb49 := NB476_474.out
    have hnc49 := NB474_476.out
    have hz50 := cs5_ BK476
    go_wp2
    repeat (go_quiet (fail); try go_wp2)
    go_ret
    exact ⟨er, tb HB⟩
   rw [if_pos c28] at H
   have c28b0 : (x7_1 == ((rd_T82 l0_2 a1).f1)) = true := beq_iff_eq.mpr c28
   have c28b1 : (x7_1 != ((rd_T82 l0_2 a1).f1)) = false := bne_eq_false_iff_eq.mpr c28
   clear c28
   by_cases c29 : ((rd_T82 l0_2 a1).f2) = true
   case neg =>
    rw [if_neg c29] at H
    have c29b0 : ((rd_T82 l0_2 a1).f2) = false := by simpa using c29
    clear c29
    obtain rfl := oin H
    have hnb47 := NB476_474.out
    have hnc47 := NB474_476.out
    have hz48 := cs5_ BK476
    go_wp2
    repeat (go_quiet (fail); try go_wp2)
    go_ret
    exact ⟨er, tb HB⟩
   rw [if_pos c29] at H
   have c29b0 : ((rd_T82 l0_2 a1).f2) = true := c29
   clear c29
   revert H; refine icd (fun c30b0 H => ?_) fun c30b0 H => ?neg
   case neg =>
    obtain rfl := oin H
    have hnb45 := NB476_474.out
    have hnc45 := NB474_476.out
    have hz46 := cs5_ BK476
    go_wp2
    repeat (go_quiet (fail); try go_wp2)
    go_ret
    exact ⟨er, tb HB⟩
   by_cases c31 : x8_1 = 1
   case neg =>
    rw [if_neg c31] at H
    have c31b0 : (x8_1 == 1) = false := beq_eq_false_iff_ne.mpr c31
    have c31b1 : (x8_1 != 1) = true := bne_iff_ne.mpr c31
    obtain rfl := oin H
    have hnb43 := NB476_474.out
    have hnc43 := NB474_476.out
    have hz44 := cs5_ BK476
    go_wp2
    repeat (go_quiet (fail); try go_wp2)
    go_ret
    exact ⟨er, tb HB⟩
   rw [if_pos c31] at H
   have c31b0 : (x8_1 == 1) = true := beq_iff_eq.mpr c31
   have c31b1 : (x8_1 != 1) = false := bne_eq_false_iff_eq.mpr c31
   clear c31
   obtain ⟨c32b0, H⟩ := itd H
   obtain ⟨c33b0, H⟩ := itd H
   by_cases c34 : ((rd_T134 l0_4 x6_1).f4) = (-1)
   case neg =>
    rw [if_neg c34] at H
    have c34b0 : (((rd_T134 l0_4 x6_1).f4) == (-1)) = false := beq_eq_false_iff_ne.mpr c34
    have c34b1 : (((rd_T134 l0_4 x6_1).f4) != (-1)) = true := bne_iff_ne.mpr c34
    obtain rfl := oin H
    have hnb40 := NB476_474.out
    have hnc40 := NB474_476.out
    have hz41 := cs5_ BK476
    have hz42 := cs8_ BK474
    have p479 : 0 ≤ (x6_1 : Int) := od
    have q479 : x6_1 < (l0_4.length : Int) := od
    obtain ⟨ad479, A479_8, c479_8, e479, hx479, hl479_8, hi479_8⟩ := att134 HR0_4.out x6_1 p479 q479
    cases e479
    replace hx479 := ox9 HB hx479
    have HR479_8 := Aside0.mk hi479_8
    have HC479_8 := Aside0.mk hl479_8
    clear hi479_8 hl479_8
    replace p479 := eq_true p479
    replace q479 := eq_true q479
    go_wp2
    repeat (go_quiet (fail); try go_wp2)
    go_ret
    exact ⟨er, tb HB⟩
   rw [if_pos c34] at H
   have c34b0 : (((rd_T134 l0_4 x6_1).f4) == (-1)) = true := beq_iff_eq.mpr c34
   have c34b1 : (((rd_T134 l0_4 x6_1).f4) != (-1)) = false := bne_eq_false_iff_eq.mpr c34
   clear c34
   obtain ⟨c35b0, H⟩ := itd H
   obtain ⟨c36b0, H⟩ := itd H
   obtain rfl := oin H
   have hnb37 := NB476_474.out
   have hnc37 := NB474_476.out
   have hz38 := cs5_ BK476
   have hz39 := cs8_ BK474
   have p479 : 0 ≤ (x6_1 : Int) := od
   have q479 : x6_1 < (l0_4.length : Int) := od
   obtain ⟨ad479, A479_8, c479_8, e479, hx479_0, hx479_1, hx479_2, hx479_3, hx479_4, hx479_5, hx479_6, hx479_7, hx479_8, hl479_8, hi479_8⟩ := at_T134 HR0_4.out x6_1 p479 q479
   cases e479
   replace hx479_0 := ox HB hx479_0
   replace hx479_1 := ox HB hx479_1
   replace hx479_2 := ox HB hx479_2
   replace hx479_3 := ox HB hx479_3
   replace hx479_4 := ox HB hx479_4
   replace hx479_5 := ox HB hx479_5
   replace hx479_6 := ox HB hx479_6
   replace hx479_7 := ox HB hx479_7
   replace hx479_8 := ox HB hx479_8
   have HR479_8 := Aside0.mk hi479_8
   have HC479_8 := Aside0.mk hl479_8
   clear hi479_8 hl479_8
   replace p479 := eq_true p479
   replace q479 := eq_true q479
   have p480 : 0 ≤ (x6_1 : Int) := od
   have q480 : x6_1 < (l0_4.length : Int) := od
   obtain ⟨ad480, A480_8, c480_8, e480, hx480_0, hx480_1, hx480_2, hx480_3, hx480_4, hx480_5, hx480_6, hx480_7, hx480_8, hl480_8, hi480_8⟩ := at_T134 HR0_4.out x6_1 p480 q480
   obtain rfl : ad479 = ad480 := (by injection e480)
   replace hx480_0 := ox HB hx480_0
   replace hx480_1 := ox HB hx480_1
   replace hx480_2 := ox HB hx480_2
   replace hx480_3 := ox HB hx480_3
   replace hx480_4 := ox HB hx480_4
   replace hx480_5 := ox HB hx480_5
   replace hx480_6 := ox HB hx480_6
   replace hx480_7 := ox HB hx480_7
   replace hx480_8 := ox HB hx480_8
   have HR480_8 := Aside0.mk hi480_8
   have HC480_8 := Aside0.mk hl480_8
   clear hi480_8 hl480_8
   replace p480 := eq_true p480
   replace q480 := eq_true q480
   have ea_ := Option.some.inj (hx479_8.symm.trans hx480_8)
   injection ea_ with ea_ en_ ec_
   subst ea_
   subst ec_
   clear en_
   have p481 : 0 ≤ (((rd_T82 l0_2 a1).f1) : Int) := od
   have q481 : ((rd_T82 l0_2 a1).f1) < (((rd_T82 l0_2 a1).f0).length : Int) := od
   obtain ⟨ad481, e481, hx481⟩ := att132 HR475_0.out ((rd_T82 l0_2 a1).f1) p481 q481
   cases e481
   replace hx481 := ox3 HB hx481
   replace p481 := eq_true p481
   replace q481 := eq_true q481
   go_wp2
   repeat (go_quiet (fail); try go_wp2)
   go_ret
   exact ⟨er, tb HB⟩
mutual
def impl_orderOk.l0 : Nat → Int → List (S134) → Int → Int → List (S39) → List (S52) → List (S82) → Int → List (S134) → List Int → List Int → Int → Option (Bool)
 | 0, _, _, _, _, _, _, _, _, _, _, _, _ => none
 | k + 1, x3, x9, x10, x11, x483000, x483001, x483002, x483003, x483004, x483005, x483006, x483007 => if x11 < x10 then (if 0 ≤ x11 then (if x11 < (x9.length : Int) then (if ((rd_T134 x9 x11).f3) ≥ 0 then (impl_orderOk.l0 k (wrap64 (x3 + 1)) x9 x10 (wrap64 (x11 + 1)) x483000 x483001 x483002 x483003 x483004 x483005 x483006 x483007) else (impl_orderOk.l0 k x3 x9 x10 (wrap64 (x11 + 1)) x483000 x483001 x483002 x483003 x483004 x483005 x483006 x483007)) else (none)) else (none)) else (impl_orderOk.l1 k x3 x483005 (x483005.length : Int) 0 x483000 x483001 x483002 x483003 x483004 x483005 x483006 x483007)
def impl_orderOk.l1 : Nat → Int → List Int → Int → Int → List (S39) → List (S52) → List (S82) → Int → List (S134) → List Int → List Int → Int → Option (Bool)
 | 0, _, _, _, _, _, _, _, _, _, _, _, _ => none
 | k + 1, x3, x22, x23, x24, x483000, x483001, x483002, x483003, x483004, x483005, x483006, x483007 => if x24 < x23 then (if 0 ≤ x24 then (if x24 < (x22.length : Int) then ((impl_from.f (rd x22 x24) 0 (wrap64 ((x483004.length : Int) - 1))).bind fun t486 => (if t486 = true then (if 0 ≤ (rd x22 x24) then (if (rd x22 x24) < (x483004.length : Int) then (if ((rd_T134 x483004 (rd x22 x24)).f3) < 0 then (some false) else (if x24 ≤ (x483005.length : Int) then ((slices_Contains_int_int.f k (x483005.take (x24 : Int).toNat) (rd x22 x24)).bind fun t489 => (if t489 = true then (some false) else (if x24 > 0 then (if 0 ≤ (wrap64 (x24 - 1)) then (if (wrap64 (x24 - 1)) < (x483005.length : Int) then (if 0 ≤ (rd x483005 (wrap64 (x24 - 1))) then (if (rd x483005 (wrap64 (x24 - 1))) < (x483004.length : Int) then (if ((rd_T134 x483004 (rd x483005 (wrap64 (x24 - 1)))).f3) > ((rd_T134 x483004 (rd x22 x24)).f3) then (some false) else (impl_orderOk.l1 k x3 x22 x23 (wrap64 (x24 + 1)) x483000 x483001 x483002 x483003 x483004 x483005 x483006 x483007)) else (none)) else (none)) else (none)) else (none)) else (impl_orderOk.l1 k x3 x22 x23 (wrap64 (x24 + 1)) x483000 x483001 x483002 x483003 x483004 x483005 x483006 x483007)))) else (none))) else (none)) else (none)) else (some false))) else (none)) else (none)) else (some (x3 == (x483005.length : Int)))
end
def impl_orderOk.f (k : Nat) (l0_0 : List (S39)) (l0_1 : List (S52)) (l0_2 : List (S82)) (a0_3 : Int) (l0_4 : List (S134)) (l0_5 : List Int) (l0_6 : List Int) (a0_7 : Int) : Option (Bool) := impl_orderOk.l0 k 0 l0_4 (l0_4.length : Int) 0 l0_0 l0_1 l0_2 a0_3 l0_4 l0_5 l0_6 a0_7
def impl_orderOk.T11 : Bool × List (List Nat × List Nat) := (true, [([], []), ([], []), ([1], [1]), ([2], [2]), ([3], [3]), ([0, 4], [0, 4]), ([5], [5]), ([6, 5], [6]), ([7], [7]), ([8, 7], [7, 8]), ([7], [7]), ([9, 10, 7], [7, 9, 10]), ([11, 7], [7, 11]), ([12, 7], [7, 12]), ([13, 7], [7, 13]), ([7, 14], [7, 14]), ([15, 7], [15]), ([16], [16]), ([17, 16], [16, 17]), ([16], [16]), ([18, 19, 16], [16, 18, 19]), ([16], [16]), ([20, 21, 16, 16], [16, 20, 21]), ([16, 22], [16, 22]), ([23, 22], [23]), ([24], [24]), ([25, 24], [24, 25]), ([26, 24, 24], [24, 26]), ([27], [27]), ([28, 27], [27, 28]), ([27], [27]), ([30, 27], [27, 30]), ([27], [27]), ([32, 27], [27, 32]), ([31, 33, 27], [27, 31, 33]), ([34, 27], [27, 34]), ([29, 35, 27], [27, 29, 35]), ([36, 27], [27, 36]), ([37, 27], [27, 37]), ([27], [27]), ([39, 27], [27, 39]), ([27], [27]), ([40, 41, 27], [27, 40, 41]), ([42, 27], [27, 42]), ([43, 27], [27, 43]), ([38, 44, 27], [27, 38, 44]), ([27, 45, 24], [24, 27, 45]), ([24, 46], [24, 46])])
def impl_orderOk.B11 : List Nat := [0, 0, 2, 6, 14, 31, 63, 127, 255, 511, 255, 2047, 4095, 8191, 16383, 32767, 65535, 131071, 262143, 131071, 1048575, 131071, 4194303, 8388607, 16777215, 33554431, 67108863, 134217727, 268435455, 536870911, 268435455, 1342177279, 268435455, 4563402751, 16374562815, 33554431999, 68719476735, 137438953471, 274877906943, 268435455, 550024249343, 268435455, 3848559132671, 8246605643775, 17042698665983, 35184372088831, 70368744177663, 140737488355327]
theorem impl_orderOk.tab11 : rtab .any (opsOf Tryz.f97 11) = impl_orderOk.T11 := by kernel_rfl
theorem impl_orderOk.bits11 : waitsOk impl_orderOk.T11.2 impl_orderOk.B11 = true := by kernel_rfl
set_option maxHeartbeats 8000000 in
set_option maxRecDepth 100000 in
theorem impl_orderOk.calls (k : Nat) (A0_0 : Option Addr) (c0_0 : Nat) (l0_0 : List (S39)) (A0_1 : Option Addr) (c0_1 : Nat) (l0_1 : List (S52)) (A0_2 : Option Addr) (c0_2 : Nat) (l0_2 : List (S82)) (a0_3 : Int) (A0_4 : Option Addr) (c0_4 : Nat) (l0_4 : List (S134)) (A0_5 : Option Addr) (c0_5 : Nat) (l0_5 : List Int) (A0_6 : Option Addr) (c0_6 : Nat) (l0_6 : List Int) (a0_7 : Int) (r : Bool) (w : World) (hr0_0 : Kd.C k39 w A0_0 l0_0.length l0_0) (hc0_0 : l0_0.length ≤ c0_0) (hr0_1 : Kd.C k52 w A0_1 l0_1.length l0_1) (hc0_1 : l0_1.length ≤ c0_1) (hr0_2 : Kd.C k82 w A0_2 l0_2.length l0_2) (hc0_2 : l0_2.length ≤ c0_2) (hr0_4 : Kd.C k134 w A0_4 l0_4.length l0_4) (hc0_4 : l0_4.length ≤ c0_4) (hr0_5 : Kd.C (Kd.int .i64) w A0_5 l0_5.length l0_5) (hc0_5 : l0_5.length ≤ c0_5) (hr0_6 : Kd.C (Kd.int .i64) w A0_6 l0_6.length l0_6) (hc0_6 : l0_6.length ≤ c0_6) (h : impl_orderOk.f k l0_0 l0_1 l0_2 a0_3 l0_4 l0_5 l0_6 a0_7 = some r) :
  Calls Tryz.prog 97 #[.agg #[.slice A0_0 l0_0.length c0_0, .slice A0_1 l0_1.length c0_1, .slice A0_2 l0_2.length c0_2, .int .i64 a0_3, .slice A0_4 l0_4.length c0_4, .slice A0_5 l0_5.length c0_5, .slice A0_6 l0_6.length c0_6, .int .i64 a0_7]] w fun e w' => e = .returned (.bool r) ∧ Below w.heap.size w w' := by
 have hu75 := Tryz.underlying75
 have hu134 := Tryz.underlying134
 have HR0_0 := Aside0.mk hr0_0
 have HC0_0 := Aside0.mk hc0_0
 clear hr0_0 hc0_0
 have HR0_1 := Aside0.mk hr0_1
 have HC0_1 := Aside0.mk hc0_1
 clear hr0_1 hc0_1
 have HR0_2 := Aside0.mk hr0_2
 have HC0_2 := Aside0.mk hc0_2
 clear hr0_2 hc0_2
 have HR0_4 := Aside0.mk hr0_4
 have HC0_4 := Aside0.mk hc0_4
 clear hr0_4 hc0_4
 have HR0_5 := Aside0.mk hr0_5
 have HC0_5 := Aside0.mk hc0_5
 clear hr0_5 hc0_5
 have HR0_6 := Aside0.mk hr0_6
 have HC0_6 := Aside0.mk hc0_6
 clear hr0_6 hc0_6
 have HB := Aside0.mk (Below.refl w.heap.size w)
 have H := h
 clear h
 unfold impl_orderOk.f at H
 have H' := Aside0.mk H
 clear H
 go_enter Tryz.func97, Tryz.ntmps97
 go_wp2_with (first | ((with_reducible refine gq 1 rfl ?_); refine bx0 HB (N := 1) (t := 75) ?_; clear HB; intro gb482 w2 BK482 GE482 HB; have hz3 := cs8_ BK482))
 go_loopg [3, 11] k (fun kq v3 v11 w' => ∃ (x3_1 : Int) (x11_1 : Int), v3 = .int .i64 x3_1 ∧ v11 = .int .i64 x11_1 ∧ Aside0 (impl_orderOk.l0 kq x3_1 l0_4 (l0_4.length : Int) x11_1 l0_0 l0_1 l0_2 a0_3 l0_4 l0_5 l0_6 a0_7 = some r) ∧ Aside0 (kq ≤ k) ∧ Aside0 (w'.heap[gb482]? = some (.cells #[(.slice A0_0 l0_0.length c0_0), (.slice A0_1 l0_1.length c0_1), (.slice A0_2 l0_2.length c0_2), .int .i64 a0_3, (.slice A0_4 l0_4.length c0_4), (.slice A0_5 l0_5.length c0_5), (.slice A0_6 l0_6.length c0_6), .int .i64 a0_7] 75 (0, 0))) ∧ Aside0 (Below w.heap.size w w'))
 case atStart => exact ⟨(0), (0), rsd, rsd, H', ⟨Nat.le_refl _⟩, ⟨by (with_reducible repeat (first | refine blk_drewN ?_ _ | refine blk_drew ?_ | refine blk_alloc ?_ _)); exact BK482.out⟩, ⟨tb HB⟩⟩
 case round =>
  clear H'
  try clear p2
  try clear hz3
  obtain ⟨x3_1, x11_1, rfl, rfl, HA, HK1, BK482, HB⟩ := hrel
  cases gk with
  | zero => exact absurd HA.out (by simp [impl_orderOk.l0])
  | succ k1 =>
   have H := HA.out
   clear HA
   simp only [impl_orderOk.l0] at H
   revert H; refine icd (fun c4b0 H => ?pos) fun c4b0 H => ?_
   case pos =>
    obtain ⟨c5b0, H⟩ := itd H
    obtain ⟨c6b0, H⟩ := itd H
    revert H; refine icd (fun c7b0 H => ?_) fun c7b0 H => ?neg
    case neg =>
     have H' := Aside0.mk H
     clear H
     have p483 : 0 ≤ (x11_1 : Int) := od
     have q483 : x11_1 < (l0_4.length : Int) := od
     obtain ⟨ad483, A483_8, c483_8, e483, hx483, hl483_8, hi483_8⟩ := att134 HR0_4.out x11_1 p483 q483
     cases e483
     replace hx483 := ox9 HB hx483
     have HR483_8 := Aside0.mk hi483_8
     have HC483_8 := Aside0.mk hl483_8
     clear hi483_8 hl483_8
     replace p483 := eq_true p483
     replace q483 := eq_true q483
     go_wp2_with (first | ((with_reducible refine gq 5 rfl ?_); refine bx1 HB BK482 (N := 5) (cs := #[.int .i64 0, .int .i64 0, .int .i64 0, .int .i64 0, .int .i64 0, .int .i64 0, .int .i64 0, .int .i64 0, .slice none 0 0]) (t := 134) ?_; clear HB BK482; intro gb484 w11 BK484 GE484 HB NB482_484 NB484_482 BK482; have hnb12 := NB484_482.out; have hnc12 := NB482_484.out; have hz13 := cs9_ BK484))
     go_roundg k1
     case measure => have := HK1.out; omega
     case rel => exact ⟨(x3_1), (wrap64 (x11_1 + 1)), rsd, rsd, H', ⟨by have := HK1.out; omega⟩, ⟨bf BK482⟩, ⟨tb HB⟩⟩
    have H' := Aside0.mk H
    clear H
    have p483 : 0 ≤ (x11_1 : Int) := od
    have q483 : x11_1 < (l0_4.length : Int) := od
    obtain ⟨ad483, A483_8, c483_8, e483, hx483_0, hx483_1, hx483_2, hx483_3, hx483_4, hx483_5, hx483_6, hx483_7, hx483_8, hl483_8, hi483_8⟩ := at_T134 HR0_4.out x11_1 p483 q483
    cases e483
    replace hx483_0 := ox HB hx483_0
    replace hx483_1 := ox HB hx483_1
    replace hx483_2 := ox HB hx483_2
    replace hx483_3 := ox HB hx483_3
    replace hx483_4 := ox HB hx483_4
    replace hx483_5 := ox HB hx483_5
    replace hx483_6 := ox HB hx483_6
    replace hx483_7 := ox HB hx483_7
    replace hx483_8 := ox HB hx483_8
    have HR483_8 := Aside0.mk hi483_8
    have HC483_8 := Aside0.mk hl483_8
    clear hi483_8 hl483_8
    replace p483 := eq_true p483
    replace q483 := eq_true q483
    go_wp2_with (first | ((with_reducible refine gq 5 rfl ?_); refine bx1 HB BK482 (N := 5) (cs := #[.int .i64 0, .int .i64 0, .int .i64 0, .int .i64 0, .int .i64 0, .int .i64 0, .int .i64 0, .int .i64 0, .slice none 0 0]) (t := 134) ?_; clear HB BK482; intro gb484 w8 BK484 GE484 HB NB482_484 NB484_482 BK482; have hnb9 := NB484_482.out; have hnc9 := NB482_484.out; have hz10 := cs9_ BK484))
    go_roundg k1
    case measure => have := HK1.out; omega
    case rel => exact ⟨(wrap64 (x3_1 + 1)), (wrap64 (x11_1 + 1)), rsd, rsd, H', ⟨by have := HK1.out; omega⟩, ⟨bf BK482⟩, ⟨tb HB⟩⟩
   have H' := Aside0.mk H
   clear H
   have hz14 := cs8_ BK482
   go_wp2
   go_loopg [24] k1 (fun kq v24 w' => ∃ (x24_2 : Int), v24 = .int .i64 x24_2 ∧ Aside0 (impl_orderOk.l1 kq x3_1 l0_5 (l0_5.length : Int) x24_2 l0_0 l0_1 l0_2 a0_3 l0_4 l0_5 l0_6 a0_7 = some r) ∧ Aside0 (kq ≤ k1) ∧ Aside0 (w'.heap[gb482]? = some (.cells #[(.slice A0_0 l0_0.length c0_0), (.slice A0_1 l0_1.length c0_1), (.slice A0_2 l0_2.length c0_2), .int .i64 a0_3, (.slice A0_4 l0_4.length c0_4), (.slice A0_5 l0_5.length c0_5), (.slice A0_6 l0_6.length c0_6), .int .i64 a0_7] 75 (0, 0))) ∧ Aside0 (Below w.heap.size w w'))
   case atStart => exact ⟨(0), rsd, H', ⟨Nat.le_refl _⟩, ⟨by (with_reducible repeat (first | refine blk_drewN ?_ _ | refine blk_drew ?_ | refine blk_alloc ?_ _)); exact BK482.out⟩, ⟨tb HB⟩⟩
   case round =>
    clear H'
    try clear c1
    try clear p2
    try clear c4
    try clear c4b0
    try clear p4
    try clear q4
    try clear hx4
    try clear c5
    try clear c5b0
    try clear c6
    try clear c6b0
    try clear p6
    try clear c7
    try clear c7b0
    try clear c9
    try clear c12
    try clear hz10
    try clear hz13
    try clear hz14
    try clear hz3
    try clear hz10
    try clear hz13
    try clear hz14
    try clear hz3
    try clear hx483_0
    try clear hx483_1
    try clear hx483_2
    try clear hx483_3
    try clear hx483_4
    try clear hx483_5
    try clear hx483_6
    try clear hx483_7
    try clear hx483_8
    try clear p2
    try clear p483
    try clear q483
    obtain ⟨x24_2, rfl, HA, HK2, BK482, HB⟩ := hrel
    cases gk with
    | zero => exact absurd HA.out (by simp [impl_orderOk.l1])
    | succ k2 =>
     have H := HA.out
     clear HA
     simp only [impl_orderOk.l1] at H
     revert H; refine icd (fun c15b0 H => ?_) fun c15b0 H => ?neg
     case neg =>
      obtain rfl := oin H
      have hz44 := cs8_ BK482
      go_wp2
      go_ret
      exact ⟨er, tb HB⟩
     obtain ⟨c16b0, H⟩ := itd H
     obtain ⟨c17b0, H⟩ := itd H
     obtain ⟨t486, A18, H⟩ := bn H
     try dsimp only at H
     cases t486
     case false =>
      replace H := ipf H
      obtain rfl := oin H
      have p485 : 0 ≤ (x24_2 : Int) := od
      have q485 : x24_2 < (l0_5.length : Int) := od
      obtain ⟨ad485, e485, hx485_0⟩ := Kd.at_int HR0_5.out x24_2 p485 q485
      cases e485
      replace hx485_0 := ox HB hx485_0
      replace p485 := eq_true p485
      replace q485 := eq_true q485
      try go_wp2
      replace BK482 := bd BK482
      replace HB := Aside0.mk (below_drew1 HB.out)
      refine start_ (n := 48) (S := fun w' => cS8 gb482 (.slice A0_0 l0_0.length c0_0) (.slice A0_1 l0_1.length c0_1) (.slice A0_2 l0_2.length c0_2) (.int .i64 a0_3) (.slice A0_4 l0_4.length c0_4) (.slice (some ad485) l0_5.length c0_5) (.slice A0_6 l0_6.length c0_6) (.int .i64 a0_7) w') (ds := []) #[false, false, false, false, false, false, false, false, false, false, false, false, false, false, false, false, false, false, false, false, false, false, false, false, false, false, false, false, false, false, false, false, false, false, false, false, false, false, false, false, false, false, false, false, false, false, false, false] (by kernel_rfl) rfl rfl (ds8_ BK482) (fun hHeld => ?_); refine with_tabW impl_orderOk.tab11 impl_orderOk.bits11 (fun HT_ HW_ => ?_)
      generalize wr.drew = w43 at BK482 HB hHeld ⊢
      refine pu 0 29 ?_; refine pu 1 30 ?_; refine ta 2 31 ?_; refine pu 3 32 ?_; refine pu 4 33 ?_
      refine on1 5 (some 34) (fun K hK => ?_)
      refine gS Tryz.func62 #[.int .i64 (rd l0_5 x24_2), .int .i64 0, .int .i64 (wrap64 ((l0_4.length : Int) - 1))] ?_
      with_reducible refine (impl_from.calls (rd l0_5 x24_2) 0 (wrap64 ((l0_4.length : Int) - 1)) false _ A18.out).mono ?_
      rintro e w' ⟨rfl, ⟨nd, rfl⟩⟩
      refine ⟨_, rfl, ?_⟩
      refine hK.out _ _ (ds8_ BK482) (fun hHeld => ?_)
      clear hK K
      refine nm 34 ?_
      refine pu 6 35 ?_; refine pu 7 36 ?_; refine pn 8 37 ?_; refine pn 9 38 ?_; refine pn 10 39 ?_; refine pn 11 40 ?_; refine pn 12 41 ?_; refine pn 13 42 ?_; refine pn 14 43 ?_; refine pu 15 44 ?_; refine pu 16 45 ?_; refine pn 17 46 ?_
      refine pn 18 47 ?_; refine pn 19 48 ?_; refine pn 20 49 ?_; refine pn 21 50 ?_; refine pn 22 51 ?_; refine pu 23 52 ?_; refine pu 24 53 ?_; refine pn 25 54 ?_; refine pn 26 55 ?_; refine pn 27 56 ?_; refine pn 28 57 ?_; refine pn 29 58 ?_
      refine pn 30 59 ?_; refine pn 31 60 ?_; refine pn 32 61 ?_; refine pn 33 62 ?_; refine pn 34 63 ?_; refine pn 35 64 ?_; refine pn 36 65 ?_; refine pn 37 66 ?_; refine pn 38 67 ?_; refine pn 39 68 ?_; refine pn 40 69 ?_; refine pn 41 70 ?_
      refine pn 42 71 ?_; refine pn 43 72 ?_; refine pn 44 73 ?_; refine pn 45 74 ?_; refine pn 46 75 ?_; refine pu 47 76 ?_
      refine done_ (done_of HT_.out (by kernel_rfl)) ?_
      try go_wp2
      go_ret
      exact ⟨er, tb HB⟩
     replace H := ipt H
     obtain ⟨c20b0, H⟩ := itd H
     obtain ⟨c21b0, H⟩ := itd H
     revert H; refine icd (fun c22b0 H => ?pos) fun c22b0 H => ?_
     case pos =>
      obtain rfl := oin H
      have p485 : 0 ≤ (x24_2 : Int) := od
      have q485 : x24_2 < (l0_5.length : Int) := od
      obtain ⟨ad485, e485, hx485_0⟩ := Kd.at_int HR0_5.out x24_2 p485 q485
      cases e485
      replace hx485_0 := ox HB hx485_0
      replace p485 := eq_true p485
      replace q485 := eq_true q485
      try go_wp2
      replace BK482 := bd BK482
      replace HB := Aside0.mk (below_drew1 HB.out)
      have p487 : 0 ≤ ((rd l0_5 x24_2) : Int) := od
      have q487 : (rd l0_5 x24_2) < (l0_4.length : Int) := od
      obtain ⟨ad487, A487_8, c487_8, e487, hx487, hl487_8, hi487_8⟩ := att134 HR0_4.out (rd l0_5 x24_2) p487 q487
      have hw487 := hx487
      cases e487
      replace hx487 := ox9 HB hx487
      have HR487_8 := Aside0.mk hi487_8
      have HC487_8 := Aside0.mk hl487_8
      clear hi487_8 hl487_8
      replace p487 := eq_true p487
      replace q487 := eq_true q487
      refine start_ (n := 48) (S := fun w' => cS8 gb482 (.slice A0_0 l0_0.length c0_0) (.slice A0_1 l0_1.length c0_1) (.slice A0_2 l0_2.length c0_2) (.int .i64 a0_3) (.slice (some ad487) l0_4.length c0_4) (.slice (some ad485) l0_5.length c0_5) (.slice A0_6 l0_6.length c0_6) (.int .i64 a0_7) w' ∧ eT134 (ad487.add (((rd l0_5 x24_2)).toNat * 9)) (rd_T134 l0_4 (rd l0_5 x24_2)) A487_8 c487_8 w') (ds := []) #[false, false, false, false, false, false, false, false, false, false, false, false, false, false, false, false, false, false, false, false, false, false, false, false, false, false, false, false, false, false, false, false, false, false, false, false, false, false, false, false, false, false, false, false, false, false, false, false] (by kernel_rfl) rfl rfl ⟨ds8_ BK482, (ox9 HB hw487 :)⟩ (fun hHeld => ?_); refine with_tabW impl_orderOk.tab11 impl_orderOk.bits11 (fun HT_ HW_ => ?_)
      generalize wr.drew = w23 at BK482 HB HR487_8 hx487 hHeld ⊢
      refine pu 0 29 ?_; refine pu 1 30 ?_; refine ta 2 31 ?_; refine pu 3 32 ?_; refine pu 4 33 ?_
      refine on1 5 (some 34) (fun K hK => ?_)
      refine gS Tryz.func62 #[.int .i64 (rd l0_5 x24_2), .int .i64 0, .int .i64 (wrap64 ((l0_4.length : Int) - 1))] ?_
      with_reducible refine (impl_from.calls (rd l0_5 x24_2) 0 (wrap64 ((l0_4.length : Int) - 1)) true _ A18.out).mono ?_
      rintro e w' ⟨rfl, ⟨nd, rfl⟩⟩
      refine ⟨_, rfl, ?_⟩
      refine hK.out _ _ ⟨ds8_ BK482, (ox9 HB hw487 :)⟩ (fun hHeld => ?_)
      clear hK K
      refine nm 34 ?_
      refine pu 6 35 ?_; refine pu 7 36 ?_; refine pu 8 37 ?_; refine pu 10 39 ?_; refine ta 9 38 ?_; refine pu 11 40 ?_; refine pu 12 41 ?_; refine ta 13 42 ?_; refine pu 14 43 ?_; refine pu 15 44 ?_; refine pu 16 45 ?_; refine pn 17 46 ?_
      refine pn 18 47 ?_; refine pn 19 48 ?_; refine pn 20 49 ?_; refine pn 21 50 ?_; refine pn 22 51 ?_; refine pu 23 52 ?_; refine pu 24 53 ?_; refine pn 25 54 ?_; refine pn 26 55 ?_; refine pn 27 56 ?_; refine pn 28 57 ?_; refine pn 29 58 ?_
      refine pn 30 59 ?_; refine pn 31 60 ?_; refine pn 32 61 ?_; refine pn 33 62 ?_; refine pn 34 63 ?_; refine pn 35 64 ?_; refine pn 36 65 ?_; refine pn 37 66 ?_; refine pn 38 67 ?_; refine pn 39 68 ?_; refine pn 40 69 ?_; refine pn 41 70 ?_
      refine pn 42 71 ?_; refine pn 43 72 ?_; refine pn 44 73 ?_; refine pn 45 74 ?_; refine pn 46 75 ?_; refine pu 47 76 ?_
      refine done_ (done_of HT_.out (by kernel_rfl)) ?_
      try go_wp2
      go_ret
      exact ⟨er, tb HB⟩
     have c24b0 := eq_true (od : 0 ≤ x24_2)
     obtain ⟨c25b0, c25b1, H⟩ := itb H
     obtain ⟨t489, A26, H⟩ := bn H
     try dsimp only at H
     cases t489
     case true =>
      replace H := ipt H
      obtain rfl := oin H
      have p485 : 0 ≤ (x24_2 : Int) := od
      have q485 : x24_2 < (l0_5.length : Int) := od
      obtain ⟨ad485, e485, hx485_0⟩ := Kd.at_int HR0_5.out x24_2 p485 q485
      cases e485
      replace hx485_0 := ox HB hx485_0
      replace p485 := eq_true p485
      replace q485 := eq_true q485
      try go_wp2
      replace BK482 := bd BK482
      replace HB := Aside0.mk (below_drew1 HB.out)
      have p487 : 0 ≤ ((rd l0_5 x24_2) : Int) := od
      have q487 : (rd l0_5 x24_2) < (l0_4.length : Int) := od
      obtain ⟨ad487, A487_8, c487_8, e487, hx487, hl487_8, hi487_8⟩ := att134 HR0_4.out (rd l0_5 x24_2) p487 q487
      have hw487 := hx487
      cases e487
      replace hx487 := ox9 HB hx487
      have HR487_8 := Aside0.mk hi487_8
      have HC487_8 := Aside0.mk hl487_8
      clear hi487_8 hl487_8
      replace p487 := eq_true p487
      replace q487 := eq_true q487
      refine start_ (n := 48) (S := fun w' => cS8 gb482 (.slice A0_0 l0_0.length c0_0) (.slice A0_1 l0_1.length c0_1) (.slice A0_2 l0_2.length c0_2) (.int .i64 a0_3) (.slice (some ad487) l0_4.length c0_4) (.slice (some ad485) l0_5.length c0_5) (.slice A0_6 l0_6.length c0_6) (.int .i64 a0_7) w' ∧ eT134 (ad487.add (((rd l0_5 x24_2)).toNat * 9)) (rd_T134 l0_4 (rd l0_5 x24_2)) A487_8 c487_8 w') (ds := []) #[false, false, false, false, false, false, false, false, false, false, false, false, false, false, false, false, false, false, false, false, false, false, false, false, false, false, false, false, false, false, false, false, false, false, false, false, false, false, false, false, false, false, false, false, false, false, false, false] (by kernel_rfl) rfl rfl ⟨ds8_ BK482, (ox9 HB hw487 :)⟩ (fun hHeld => ?_); refine with_tabW impl_orderOk.tab11 impl_orderOk.bits11 (fun HT_ HW_ => ?_)
      generalize wr.drew = w28 at BK482 HB HR487_8 hx487 hHeld ⊢
      refine pu 0 29 ?_; refine pu 1 30 ?_; refine ta 2 31 ?_; refine pu 3 32 ?_; refine pu 4 33 ?_
      refine on1 5 (some 34) (fun K hK => ?_)
      refine gS Tryz.func62 #[.int .i64 (rd l0_5 x24_2), .int .i64 0, .int .i64 (wrap64 ((l0_4.length : Int) - 1))] ?_
      with_reducible refine (impl_from.calls (rd l0_5 x24_2) 0 (wrap64 ((l0_4.length : Int) - 1)) true _ A18.out).mono ?_
      rintro e w' ⟨rfl, ⟨nd, rfl⟩⟩
      refine ⟨_, rfl, ?_⟩
      obtain ⟨i029, hi029, _, hsz29, _⟩ := info_parts info3
      obtain ⟨hcut29, hA29, hC29⟩ := print_take_of (P := Tryz.prog) (Value.int .i64) 0 29 3 .i64 Tryz.underlying29 hi029 hsz29 (some ad485) c0_5 l0_5 x24_2 (od) (od) HC0_5.out
      have HR488 := Aside0.mk (Kd.C_of_reads (h1 := fun _ => rfl) (hA29 _ (Kd.reads_of_C HR0_5.out)))
      have HC488 := Aside0.mk hC29
      clear hA29 hC29 hi029 hsz29
      refine hK.out _ _ ⟨ds8_ BK482, (ox9 HB hw487 :)⟩ (fun hHeld => ?_)
      clear hK K
      refine nm 34 ?_
      refine pu 6 35 ?_; refine pu 7 36 ?_; refine pu 8 37 ?_; refine pu 10 39 ?_; refine ta 9 38 ?_; refine pu 11 40 ?_; refine pu 12 41 ?_; refine ta 13 42 ?_; refine pu 14 43 ?_; refine pu 15 44 ?_; refine pu 16 45 ?_; refine pu 17 46 ?_
      refine pu 19 48 ?_; refine pu 21 50 ?_; refine ta 18 47 ?_; refine pu 20 49 ?_
      refine on1 22 (some 51) (fun K hK => ?_)
      refine goes_ Tryz.func149 (by kernel_rfl) rfl #[.slice (some ad485) (l0_5.take (x24_2 : Int).toNat).length c0_5, .int .i64 (rd l0_5 x24_2)] (by rfl) rfl rfl (by (try simp only [List.map_toArray, List.map_cons, List.map_nil]); first | done | (rw [show (l0_5.take (x24_2 : Int).toNat).length = x24_2.toNat from (by rw [List.length_take]; have h_ : (x24_2 : Int) ≤ (l0_5.length : Int) := od; omega)] <;> rfl) | rfl | (simp only [List.length_drop, List.length_take]; rfl)) ?_
      with_reducible refine (slices_Contains_int_int.calls k2 _ _ (l0_5.take (x24_2 : Int).toNat) (rd l0_5 x24_2) true _ ?side1 ?side2 A26.out).mono ?_
      (case side1 => repeat (first | exact (Kd.C_below HR488.out (tb HB)) | (with_reducible refine Kd.C_alloc ?_ _) | (with_reducible refine Kd.C_drewN ?_ _) | (with_reducible refine Kd.C_drew ?_)))
      (case side2 => exact HC488.out)
      rintro e w' ⟨rfl, ⟨nd, rfl⟩⟩
      refine ⟨_, rfl, ?_⟩
      refine hK.out _ _ ⟨ds8_ BK482, (ox9 HB hw487 :)⟩ (fun hHeld => ?_)
      clear hK K
      refine nm 51 ?_
      refine pu 23 52 ?_; refine pu 24 53 ?_; refine pn 25 54 ?_; refine pn 26 55 ?_; refine pn 27 56 ?_; refine pn 28 57 ?_; refine pn 29 58 ?_; refine pn 30 59 ?_; refine pn 31 60 ?_; refine pn 32 61 ?_; refine pn 33 62 ?_; refine pn 34 63 ?_
      refine pn 35 64 ?_; refine pn 36 65 ?_; refine pn 37 66 ?_; refine pn 38 67 ?_; refine pn 39 68 ?_; refine pn 40 69 ?_; refine pn 41 70 ?_; refine pn 42 71 ?_; refine pn 43 72 ?_; refine pn 44 73 ?_; refine pn 45 74 ?_; refine pn 46 75 ?_
      refine pu 47 76 ?_
      refine done_ (done_of HT_.out (by kernel_rfl)) ?_
      try go_wp2
      go_ret
      exact ⟨er, tb HB⟩
     replace H := ipf H
     revert H; refine icd (fun c30b0 H => ?_) fun c30b0 H => ?neg
     case neg =>
      have H' := Aside0.mk H
      clear H
      have p485 : 0 ≤ (x24_2 : Int) := od
      have q485 : x24_2 < (l0_5.length : Int) := od
      obtain ⟨ad485, e485, hx485_0⟩ := Kd.at_int HR0_5.out x24_2 p485 q485
      cases e485
      replace hx485_0 := ox HB hx485_0
      replace p485 := eq_true p485
      replace q485 := eq_true q485
      try go_wp2
      replace BK482 := bd BK482
      replace HB := Aside0.mk (below_drew1 HB.out)
      have p487 : 0 ≤ ((rd l0_5 x24_2) : Int) := od
      have q487 : (rd l0_5 x24_2) < (l0_4.length : Int) := od
      obtain ⟨ad487, A487_8, c487_8, e487, hx487, hl487_8, hi487_8⟩ := att134 HR0_4.out (rd l0_5 x24_2) p487 q487
      have hw487 := hx487
      cases e487
      replace hx487 := ox9 HB hx487
      have HR487_8 := Aside0.mk hi487_8
      have HC487_8 := Aside0.mk hl487_8
      clear hi487_8 hl487_8
      replace p487 := eq_true p487
      replace q487 := eq_true q487
      refine start_ (n := 48) (S := fun w' => cS8 gb482 (.slice A0_0 l0_0.length c0_0) (.slice A0_1 l0_1.length c0_1) (.slice A0_2 l0_2.length c0_2) (.int .i64 a0_3) (.slice (some ad487) l0_4.length c0_4) (.slice (some ad485) l0_5.length c0_5) (.slice A0_6 l0_6.length c0_6) (.int .i64 a0_7) w' ∧ eT134 (ad487.add (((rd l0_5 x24_2)).toNat * 9)) (rd_T134 l0_4 (rd l0_5 x24_2)) A487_8 c487_8 w') (ds := []) #[false, false, false, false, false, false, false, false, false, false, false, false, false, false, false, false, false, false, false, false, false, false, false, false, false, false, false, false, false, false, false, false, false, false, false, false, false, false, false, false, false, false, false, false, false, false, false, false] (by kernel_rfl) rfl rfl ⟨ds8_ BK482, (ox9 HB hw487 :)⟩ (fun hHeld => ?_); refine with_tabW impl_orderOk.tab11 impl_orderOk.bits11 (fun HT_ HW_ => ?_)
      generalize wr.drew = w41 at BK482 HB HR487_8 hx487 hHeld ⊢
      refine pu 0 29 ?_; refine pu 1 30 ?_; refine ta 2 31 ?_; refine pu 3 32 ?_; refine pu 4 33 ?_
      refine on1 5 (some 34) (fun K hK => ?_)
      refine gS Tryz.func62 #[.int .i64 (rd l0_5 x24_2), .int .i64 0, .int .i64 (wrap64 ((l0_4.length : Int) - 1))] ?_
      with_reducible refine (impl_from.calls (rd l0_5 x24_2) 0 (wrap64 ((l0_4.length : Int) - 1)) true _ A18.out).mono ?_
      rintro e w' ⟨rfl, ⟨nd, rfl⟩⟩
      refine ⟨_, rfl, ?_⟩
      obtain ⟨i042, hi042, _, hsz42, _⟩ := info_parts info3
      obtain ⟨hcut42, hA42, hC42⟩ := print_take_of (P := Tryz.prog) (Value.int .i64) 0 29 3 .i64 Tryz.underlying29 hi042 hsz42 (some ad485) c0_5 l0_5 x24_2 (od) (od) HC0_5.out
      have HR488 := Aside0.mk (Kd.C_of_reads (h1 := fun _ => rfl) (hA42 _ (Kd.reads_of_C HR0_5.out)))
      have HC488 := Aside0.mk hC42
      clear hA42 hC42 hi042 hsz42
      refine hK.out _ _ ⟨ds8_ BK482, (ox9 HB hw487 :)⟩ (fun hHeld => ?_)
      clear hK K
      refine nm 34 ?_
      refine pu 6 35 ?_; refine pu 7 36 ?_; refine pu 8 37 ?_; refine pu 10 39 ?_; refine ta 9 38 ?_; refine pu 11 40 ?_; refine pu 12 41 ?_; refine ta 13 42 ?_; refine pu 14 43 ?_; refine pu 15 44 ?_; refine pu 16 45 ?_; refine pu 17 46 ?_
      refine pu 19 48 ?_; refine pu 21 50 ?_; refine ta 18 47 ?_; refine pu 20 49 ?_
      refine on1 22 (some 51) (fun K hK => ?_)
      refine goes_ Tryz.func149 (by kernel_rfl) rfl #[.slice (some ad485) (l0_5.take (x24_2 : Int).toNat).length c0_5, .int .i64 (rd l0_5 x24_2)] (by rfl) rfl rfl (by (try simp only [List.map_toArray, List.map_cons, List.map_nil]); first | done | (rw [show (l0_5.take (x24_2 : Int).toNat).length = x24_2.toNat from (by rw [List.length_take]; have h_ : (x24_2 : Int) ≤ (l0_5.length : Int) := od; omega)] <;> rfl) | rfl | (simp only [List.length_drop, List.length_take]; rfl)) ?_
      with_reducible refine (slices_Contains_int_int.calls k2 _ _ (l0_5.take (x24_2 : Int).toNat) (rd l0_5 x24_2) false _ ?side1 ?side2 A26.out).mono ?_
      (case side1 => repeat (first | exact (Kd.C_below HR488.out (tb HB)) | (with_reducible refine Kd.C_alloc ?_ _) | (with_reducible refine Kd.C_drewN ?_ _) | (with_reducible refine Kd.C_drew ?_)))
      (case side2 => exact HC488.out)
      rintro e w' ⟨rfl, ⟨nd, rfl⟩⟩
      refine ⟨_, rfl, ?_⟩
      refine hK.out _ _ ⟨ds8_ BK482, (ox9 HB hw487 :)⟩ (fun hHeld => ?_)
      clear hK K
      refine nm 51 ?_
      refine pu 23 52 ?_; refine pu 24 53 ?_; refine pu 25 54 ?_; refine pu 26 55 ?_; refine pu 27 56 ?_; refine pn 28 57 ?_; refine pn 29 58 ?_; refine pn 30 59 ?_; refine pn 31 60 ?_; refine pn 32 61 ?_; refine pn 33 62 ?_; refine pn 34 63 ?_
      refine pn 35 64 ?_; refine pn 36 65 ?_; refine pn 37 66 ?_; refine pn 38 67 ?_; refine pn 39 68 ?_; refine pn 40 69 ?_; refine pn 41 70 ?_; refine pn 42 71 ?_; refine pn 43 72 ?_; refine pn 44 73 ?_; refine pn 45 74 ?_; refine pu 46 75 ?_
      refine pu 47 76 ?_
      refine done_ (done_of HT_.out (by kernel_rfl)) ?_
      try go_wp2
      go_roundg k2
      case measure => have := HK1.out; have := HK2.out; omega
      case rel => exact ⟨(wrap64 (x24_2 + 1)), rsd, H', ⟨by have := HK1.out; have := HK2.out; omega⟩, ⟨by (with_reducible repeat (first | refine blk_drewN ?_ _ | refine blk_drew ?_ | refine blk_alloc ?_ _)); exact BK482.out⟩, ⟨tb HB⟩⟩
     obtain ⟨ji31, hji31⟩ : ∃ j_ : Int, (wrap64 (x24_2 - 1)) = j_ := ⟨_, rfl⟩
     replace H : (if 0 ≤ (ji31) then (if (ji31) < (l0_5.length : Int) then (if 0 ≤ (rd l0_5 (ji31)) then (if (rd l0_5 (ji31)) < (l0_4.length : Int) then (if ((rd_T134 l0_4 (rd l0_5 (ji31))).f3) > ((rd_T134 l0_4 (rd l0_5 x24_2)).f3) then (some false) else (impl_orderOk.l1 k2 x3_1 l0_5 (l0_5.length : Int) (wrap64 (x24_2 + 1)) l0_0 l0_1 l0_2 a0_3 l0_4 l0_5 l0_6 a0_7)) else (none)) else (none)) else (none)) else (none)) = some r := by first | (rw [hji31] at H; exact H) | (simp only [hji31] at H ⊢; exact H)
     (try rw [hji31] at A18)
     (try rw [hji31] at A26)
     have hji31w : (IntKind.i64.wrap (x24_2 - 1)) = ji31 := (i64_w _).trans hji31
     obtain ⟨c32b0, H⟩ := itd H
     obtain ⟨c33b0, H⟩ := itd H
     obtain ⟨c34b0, H⟩ := itd H
     obtain ⟨c35b0, H⟩ := itd H
     revert H; refine icd (fun c36b0 H => ?pos) fun c36b0 H => ?_
     case pos =>
      obtain rfl := oin H
      have p485 : 0 ≤ (x24_2 : Int) := od
      have q485 : x24_2 < (l0_5.length : Int) := od
      obtain ⟨ad485, e485, hx485_0⟩ := Kd.at_int HR0_5.out x24_2 p485 q485
      cases e485
      replace hx485_0 := ox HB hx485_0
      replace p485 := eq_true p485
      replace q485 := eq_true q485
      try go_wp2
      replace BK482 := bd BK482
      replace HB := Aside0.mk (below_drew1 HB.out)
      have p487 : 0 ≤ ((rd l0_5 x24_2) : Int) := od
      have q487 : (rd l0_5 x24_2) < (l0_4.length : Int) := od
      obtain ⟨ad487, A487_8, c487_8, e487, hx487, hl487_8, hi487_8⟩ := att134 HR0_4.out (rd l0_5 x24_2) p487 q487
      have hw487 := hx487
      cases e487
      replace hx487 := ox9 HB hx487
      have HR487_8 := Aside0.mk hi487_8
      have HC487_8 := Aside0.mk hl487_8
      clear hi487_8 hl487_8
      replace p487 := eq_true p487
      replace q487 := eq_true q487
      have p490 : 0 ≤ ((ji31) : Int) := od
      have q490 : (ji31) < (l0_5.length : Int) := od
      obtain ⟨ad490, e490, hx490_0⟩ := Kd.at_int HR0_5.out (ji31) p490 q490
      have hw490_0 := hx490_0
      obtain rfl : ad485 = ad490 := (by injection e490)
      replace hx490_0 := ox HB hx490_0
      replace p490 := eq_true p490
      replace q490 := eq_true q490
      have p491 : 0 ≤ ((rd l0_5 (ji31)) : Int) := od
      have q491 : (rd l0_5 (ji31)) < (l0_4.length : Int) := od
      obtain ⟨ad491, A491_8, c491_8, e491, hx491, hl491_8, hi491_8⟩ := att134 HR0_4.out (rd l0_5 (ji31)) p491 q491
      have hw491 := hx491
      obtain rfl : ad487 = ad491 := (by injection e491)
      replace hx491 := ox9 HB hx491
      have HR491_8 := Aside0.mk hi491_8
      have HC491_8 := Aside0.mk hl491_8
      clear hi491_8 hl491_8
      replace p491 := eq_true p491
      replace q491 := eq_true q491
      have p492 : 0 ≤ ((rd l0_5 x24_2) : Int) := od
      have q492 : (rd l0_5 x24_2) < (l0_4.length : Int) := od
      obtain ⟨ad492, A492_8, c492_8, e492, hx492, hl492_8, hi492_8⟩ := att134 HR0_4.out (rd l0_5 x24_2) p492 q492
      have hw492 := hx492
      obtain rfl : ad487 = ad492 := (by injection e492)
      replace hx492 := ox9 HB hx492
      have HR492_8 := Aside0.mk hi492_8
      have HC492_8 := Aside0.mk hl492_8
      clear hi492_8 hl492_8
      replace p492 := eq_true p492
      replace q492 := eq_true q492
      have ea_ := Option.some.inj (hx487.2.2.2.2.2.2.2.2.symm.trans hx492.2.2.2.2.2.2.2.2)
      injection ea_ with ea_ en_ ec_
      subst ea_
      subst ec_
      clear en_
      refine start_ (n := 48) (S := fun w' => cS8 gb482 (.slice A0_0 l0_0.length c0_0) (.slice A0_1 l0_1.length c0_1) (.slice A0_2 l0_2.length c0_2) (.int .i64 a0_3) (.slice (some ad487) l0_4.length c0_4) (.slice (some ad485) l0_5.length c0_5) (.slice A0_6 l0_6.length c0_6) (.int .i64 a0_7) w' ∧ eT134 (ad487.add (((rd l0_5 x24_2)).toNat * 9)) (rd_T134 l0_4 (rd l0_5 x24_2)) A487_8 c487_8 w' ∧ w'.cell? (ad485.add ((ji31)).toNat) = some (.int .i64 (rd l0_5 (ji31))) ∧ eT134 (ad487.add (((rd l0_5 (ji31))).toNat * 9)) (rd_T134 l0_4 (rd l0_5 (ji31))) A491_8 c491_8 w' ∧ eT134 (ad487.add (((rd l0_5 x24_2)).toNat * 9)) (rd_T134 l0_4 (rd l0_5 x24_2)) A487_8 c487_8 w') (ds := []) #[false, false, false, false, false, false, false, false, false, false, false, false, false, false, false, false, false, false, false, false, false, false, false, false, false, false, false, false, false, false, false, false, false, false, false, false, false, false, false, false, false, false, false, false, false, false, false, false] (by kernel_rfl) rfl rfl ⟨ds8_ BK482, (ox9 HB hw487 :), ((HB.out.cell (World.block_lt_of_cell? w _ hw490_0)).trans hw490_0), (ox9 HB hw491 :), (ox9 HB hw492 :)⟩ (fun hHeld => ?_); refine with_tabW impl_orderOk.tab11 impl_orderOk.bits11 (fun HT_ HW_ => ?_)
      generalize wr.drew = w37 at BK482 HB HR487_8 HR491_8 HR492_8 hx487 hx490_0 hx491 hx492 hHeld ⊢
      refine pu 0 29 ?_; refine pu 1 30 ?_; refine ta 2 31 ?_; refine pu 3 32 ?_; refine pu 4 33 ?_
      refine on1 5 (some 34) (fun K hK => ?_)
      refine gS Tryz.func62 #[.int .i64 (rd l0_5 x24_2), .int .i64 0, .int .i64 (wrap64 ((l0_4.length : Int) - 1))] ?_
      with_reducible refine (impl_from.calls (rd l0_5 x24_2) 0 (wrap64 ((l0_4.length : Int) - 1)) true _ A18.out).mono ?_
      rintro e w' ⟨rfl, ⟨nd, rfl⟩⟩
      refine ⟨_, rfl, ?_⟩
      obtain ⟨i038, hi038, _, hsz38, _⟩ := info_parts info3
      obtain ⟨hcut38, hA38, hC38⟩ := print_take_of (P := Tryz.prog) (Value.int .i64) 0 29 3 .i64 Tryz.underlying29 hi038 hsz38 (some ad485) c0_5 l0_5 x24_2 (od) (od) HC0_5.out
      have HR488 := Aside0.mk (Kd.C_of_reads (h1 := fun _ => rfl) (hA38 _ (Kd.reads_of_C HR0_5.out)))
      have HC488 := Aside0.mk hC38
      clear hA38 hC38 hi038 hsz38
      refine hK.out _ _ ⟨ds8_ BK482, (ox9 HB hw487 :), ((HB.out.cell (World.block_lt_of_cell? w _ hw490_0)).trans hw490_0), (ox9 HB hw491 :), (ox9 HB hw492 :)⟩ (fun hHeld => ?_)
      clear hK K
      refine nm 34 ?_
      refine pu 6 35 ?_; refine pu 7 36 ?_; refine pu 8 37 ?_; refine pu 10 39 ?_; refine ta 9 38 ?_; refine pu 11 40 ?_; refine pu 12 41 ?_; refine ta 13 42 ?_; refine pu 14 43 ?_; refine pu 15 44 ?_; refine pu 16 45 ?_; refine pu 17 46 ?_
      refine pu 19 48 ?_; refine pu 21 50 ?_; refine ta 18 47 ?_; refine pu 20 49 ?_
      refine on1 22 (some 51) (fun K hK => ?_)
      refine goes_ Tryz.func149 (by kernel_rfl) rfl #[.slice (some ad485) (l0_5.take (x24_2 : Int).toNat).length c0_5, .int .i64 (rd l0_5 x24_2)] (by rfl) rfl rfl (by (try simp only [List.map_toArray, List.map_cons, List.map_nil]); first | done | (rw [show (l0_5.take (x24_2 : Int).toNat).length = x24_2.toNat from (by rw [List.length_take]; have h_ : (x24_2 : Int) ≤ (l0_5.length : Int) := od; omega)] <;> rfl) | rfl | (simp only [List.length_drop, List.length_take]; rfl)) ?_
      with_reducible refine (slices_Contains_int_int.calls k2 _ _ (l0_5.take (x24_2 : Int).toNat) (rd l0_5 x24_2) false _ ?side1 ?side2 A26.out).mono ?_
      (case side1 => repeat (first | exact (Kd.C_below HR488.out (tb HB)) | (with_reducible refine Kd.C_alloc ?_ _) | (with_reducible refine Kd.C_drewN ?_ _) | (with_reducible refine Kd.C_drew ?_)))
      (case side2 => exact HC488.out)
      rintro e w' ⟨rfl, ⟨nd, rfl⟩⟩
      refine ⟨_, rfl, ?_⟩
      refine hK.out _ _ ⟨ds8_ BK482, (ox9 HB hw487 :), ((HB.out.cell (World.block_lt_of_cell? w _ hw490_0)).trans hw490_0), (ox9 HB hw491 :), (ox9 HB hw492 :)⟩ (fun hHeld => ?_)
      clear hK K
      refine nm 51 ?_
      refine pu 23 52 ?_; refine pu 24 53 ?_; refine pu 25 54 ?_; refine pu 26 55 ?_; refine pu 27 56 ?_; refine pu 28 57 ?_; refine pu 30 59 ?_; refine pu 32 61 ?_; refine pu 33 62 ?_; refine pu 39 68 ?_; refine pu 41 70 ?_; refine ta 29 58 ?_
      refine ta 31 60 ?_; refine pu 34 63 ?_; refine ta 35 64 ?_; refine pu 36 65 ?_; refine pu 37 66 ?_; refine ta 38 67 ?_; refine ta 40 69 ?_; refine pu 42 71 ?_; refine pu 43 72 ?_; refine ta 44 73 ?_; refine pu 45 74 ?_; refine pu 46 75 ?_
      refine pu 47 76 ?_
      refine done_ (done_of HT_.out (by kernel_rfl)) ?_
      try go_wp2
      go_ret
      exact ⟨by first | rfl | (simp [errW_none, errW_some] <;> rfl) | (simp only [← hji31]; first | rfl | (simp [errW_none, errW_some] <;> rfl)) | (simp [*, errW_none, errW_some] <;> rfl), tb HB⟩
     have H' := Aside0.mk H
     clear H
     have p485 : 0 ≤ (x24_2 : Int) := od
     have q485 : x24_2 < (l0_5.length : Int) := od
     obtain ⟨ad485, e485, hx485_0⟩ := Kd.at_int HR0_5.out x24_2 p485 q485
     cases e485
     replace hx485_0 := ox HB hx485_0
     replace p485 := eq_true p485
     replace q485 := eq_true q485
     try go_wp2
     replace BK482 := bd BK482
     replace HB := Aside0.mk (below_drew1 HB.out)
     have p487 : 0 ≤ ((rd l0_5 x24_2) : Int) := od
     have q487 : (rd l0_5 x24_2) < (l0_4.length : Int) := od
     obtain ⟨ad487, A487_8, c487_8, e487, hx487, hl487_8, hi487_8⟩ := att134 HR0_4.out (rd l0_5 x24_2) p487 q487
     have hw487 := hx487
     cases e487
     replace hx487 := ox9 HB hx487
     have HR487_8 := Aside0.mk hi487_8
     have HC487_8 := Aside0.mk hl487_8
     clear hi487_8 hl487_8
     replace p487 := eq_true p487
     replace q487 := eq_true q487
     have p490 : 0 ≤ ((ji31) : Int) := od
     have q490 : (ji31) < (l0_5.length : Int) := od
     obtain ⟨ad490, e490, hx490_0⟩ := Kd.at_int HR0_5.out (ji31) p490 q490
     have hw490_0 := hx490_0
     obtain rfl : ad485 = ad490 := (by injection e490)
     replace hx490_0 := ox HB hx490_0
     replace p490 := eq_true p490
     replace q490 := eq_true q490
     have p491 : 0 ≤ ((rd l0_5 (ji31)) : Int) := od
     have q491 : (rd l0_5 (ji31)) < (l0_4.length : Int) := od
     obtain ⟨ad491, A491_8, c491_8, e491, hx491, hl491_8, hi491_8⟩ := att134 HR0_4.out (rd l0_5 (ji31)) p491 q491
     have hw491 := hx491
     obtain rfl : ad487 = ad491 := (by injection e491)
     replace hx491 := ox9 HB hx491
     have HR491_8 := Aside0.mk hi491_8
     have HC491_8 := Aside0.mk hl491_8
     clear hi491_8 hl491_8
     replace p491 := eq_true p491
     replace q491 := eq_true q491
     have p492 : 0 ≤ ((rd l0_5 x24_2) : Int) := od
     have q492 : (rd l0_5 x24_2) < (l0_4.length : Int) := od
     obtain ⟨ad492, A492_8, c492_8, e492, hx492, hl492_8, hi492_8⟩ := att134 HR0_4.out (rd l0_5 x24_2) p492 q492
     have hw492 := hx492
     obtain rfl : ad487 = ad492 := (by injection e492)
     replace hx492 := ox9 HB hx492
     have HR492_8 := Aside0.mk hi492_8
     have HC492_8 := Aside0.mk hl492_8
     clear hi492_8 hl492_8
     replace p492 := eq_true p492
     replace q492 := eq_true q492
     have ea_ := Option.some.inj (hx487.2.2.2.2.2.2.2.2.symm.trans hx492.2.2.2.2.2.2.2.2)
     injection ea_ with ea_ en_ ec_
     subst ea_
     subst ec_
     clear en_
     refine start_ (n := 48) (S := fun w' => cS8 gb482 (.slice A0_0 l0_0.length c0_0) (.slice A0_1 l0_1.length c0_1) (.slice A0_2 l0_2.length c0_2) (.int .i64 a0_3) (.slice (some ad487) l0_4.length c0_4) (.slice (some ad485) l0_5.length c0_5) (.slice A0_6 l0_6.length c0_6) (.int .i64 a0_7) w' ∧ eT134 (ad487.add (((rd l0_5 x24_2)).toNat * 9)) (rd_T134 l0_4 (rd l0_5 x24_2)) A487_8 c487_8 w' ∧ w'.cell? (ad485.add ((ji31)).toNat) = some (.int .i64 (rd l0_5 (ji31))) ∧ eT134 (ad487.add (((rd l0_5 (ji31))).toNat * 9)) (rd_T134 l0_4 (rd l0_5 (ji31))) A491_8 c491_8 w' ∧ eT134 (ad487.add (((rd l0_5 x24_2)).toNat * 9)) (rd_T134 l0_4 (rd l0_5 x24_2)) A487_8 c487_8 w') (ds := []) #[false, false, false, false, false, false, false, false, false, false, false, false, false, false, false, false, false, false, false, false, false, false, false, false, false, false, false, false, false, false, false, false, false, false, false, false, false, false, false, false, false, false, false, false, false, false, false, false] (by kernel_rfl) rfl rfl ⟨ds8_ BK482, (ox9 HB hw487 :), ((HB.out.cell (World.block_lt_of_cell? w _ hw490_0)).trans hw490_0), (ox9 HB hw491 :), (ox9 HB hw492 :)⟩ (fun hHeld => ?_); refine with_tabW impl_orderOk.tab11 impl_orderOk.bits11 (fun HT_ HW_ => ?_)
     generalize wr.drew = w39 at BK482 HB HR487_8 HR491_8 HR492_8 hx487 hx490_0 hx491 hx492 hHeld ⊢
     refine pu 0 29 ?_; refine pu 1 30 ?_; refine ta 2 31 ?_; refine pu 3 32 ?_; refine pu 4 33 ?_
     refine on1 5 (some 34) (fun K hK => ?_)
     refine gS Tryz.func62 #[.int .i64 (rd l0_5 x24_2), .int .i64 0, .int .i64 (wrap64 ((l0_4.length : Int) - 1))] ?_
     with_reducible refine (impl_from.calls (rd l0_5 x24_2) 0 (wrap64 ((l0_4.length : Int) - 1)) true _ A18.out).mono ?_
     rintro e w' ⟨rfl, ⟨nd, rfl⟩⟩
     refine ⟨_, rfl, ?_⟩
     obtain ⟨i040, hi040, _, hsz40, _⟩ := info_parts info3
     obtain ⟨hcut40, hA40, hC40⟩ := print_take_of (P := Tryz.prog) (Value.int .i64) 0 29 3 .i64 Tryz.underlying29 hi040 hsz40 (some ad485) c0_5 l0_5 x24_2 (od) (od) HC0_5.out
     have HR488 := Aside0.mk (Kd.C_of_reads (h1 := fun _ => rfl) (hA40 _ (Kd.reads_of_C HR0_5.out)))
     have HC488 := Aside0.mk hC40
     clear hA40 hC40 hi040 hsz40
     refine hK.out _ _ ⟨ds8_ BK482, (ox9 HB hw487 :), ((HB.out.cell (World.block_lt_of_cell? w _ hw490_0)).trans hw490_0), (ox9 HB hw491 :), (ox9 HB hw492 :)⟩ (fun hHeld => ?_)
     clear hK K
     refine nm 34 ?_
     refine pu 6 35 ?_; refine pu 7 36 ?_; refine pu 8 37 ?_; refine pu 10 39 ?_; refine ta 9 38 ?_; refine pu 11 40 ?_; refine pu 12 41 ?_; refine ta 13 42 ?_; refine pu 14 43 ?_; refine pu 15 44 ?_; refine pu 16 45 ?_; refine pu 17 46 ?_
     refine pu 19 48 ?_; refine pu 21 50 ?_; refine ta 18 47 ?_; refine pu 20 49 ?_
     refine on1 22 (some 51) (fun K hK => ?_)
     refine goes_ Tryz.func149 (by kernel_rfl) rfl #[.slice (some ad485) (l0_5.take (x24_2 : Int).toNat).length c0_5, .int .i64 (rd l0_5 x24_2)] (by rfl) rfl rfl (by (try simp only [List.map_toArray, List.map_cons, List.map_nil]); first | done | (rw [show (l0_5.take (x24_2 : Int).toNat).length = x24_2.toNat from (by rw [List.length_take]; have h_ : (x24_2 : Int) ≤ (l0_5.length : Int) := od; omega)] <;> rfl) | rfl | (simp only [List.length_drop, List.length_take]; rfl)) ?_
     with_reducible refine (slices_Contains_int_int.calls k2 _ _ (l0_5.take (x24_2 : Int).toNat) (rd l0_5 x24_2) false _ ?side1 ?side2 A26.out).mono ?_
     (case side1 => repeat (first | exact (Kd.C_below HR488.out (tb HB)) | (with_reducible refine Kd.C_alloc ?_ _) | (with_reducible refine Kd.C_drewN ?_ _) | (with_reducible refine Kd.C_drew ?_)))
     (case side2 => exact HC488.out)
     rintro e w' ⟨rfl, ⟨nd, rfl⟩⟩
     refine ⟨_, rfl, ?_⟩
     refine hK.out _ _ ⟨ds8_ BK482, (ox9 HB hw487 :), ((HB.out.cell (World.block_lt_of_cell? w _ hw490_0)).trans hw490_0), (ox9 HB hw491 :), (ox9 HB hw492 :)⟩ (fun hHeld => ?_)
     clear hK K
     refine nm 51 ?_
     refine pu 23 52 ?_; refine pu 24 53 ?_; refine pu 25 54 ?_; refine pu 26 55 ?_; refine pu 27 56 ?_; refine pu 28 57 ?_; refine pu 30 59 ?_; refine pu 32 61 ?_; refine pu 33 62 ?_; refine pu 39 68 ?_; refine pu 41 70 ?_; refine ta 29 58 ?_
     refine ta 31 60 ?_; refine pu 34 63 ?_; refine ta 35 64 ?_; refine pu 36 65 ?_; refine pu 37 66 ?_; refine ta 38 67 ?_; refine ta 40 69 ?_; refine pu 42 71 ?_; refine pu 43 72 ?_; refine ta 44 73 ?_; refine pu 45 74 ?_; refine pu 46 75 ?_
     refine pu 47 76 ?_
     refine done_ (done_of HT_.out (by kernel_rfl)) ?_
     try go_wp2
     go_roundg k2
     case measure => have := HK1.out; have := HK2.out; omega
     case rel => exact ⟨(wrap64 (x24_2 + 1)), rsd, H', ⟨by have := HK1.out; have := HK2.out; omega⟩, ⟨by (with_reducible repeat (first | refine blk_drewN ?_ _ | refine blk_drew ?_ | refine blk_alloc ?_ _)); exact BK482.out⟩, ⟨tb HB⟩⟩
end Go.Proofs.YtopikhjcbcpiaaaGreat.Q
section
namespace Go.Proofs.YtopikhjcbcpiaaaGreat.Q
open Go.RowKit Go.Proofs.YtopikhjcbcpiaaaGreatW.PrintWords Go.Proofs.YtopikhjcbcpiaaaGreatW.PrintLast Go.Proofs.YtopikhjcbcpiaaaGreatW.PrintMore
set_option linter.unusedVariables false
def TimeAt (w : World) (g : Nat) (a : Int) : Prop := ∃ v0 v1 v2 v4 v5 v6 v7 : Value, w.heap[g]? = some (.cells #[v0, v1, v2, .int .i64 a, v4, v5, v6, v7] 75 (0, 0))
theorem TimeAt.of {w : World} {g : Nat} {a : Int} {v0 v1 v2 v4 v5 v6 v7 : Value} (h : w.heap[g]? = some (.cells #[v0, v1, v2, .int .i64 a, v4, v5, v6, v7] 75 (0, 0))) : TimeAt w g a := ⟨v0, v1, v2, v4, v5, v6, v7, h⟩
def impl_MachineOk_1.f (x0 x1 x2 x3 x4 x5 x6 x7 : Int) (x8 : List Int) (a1 : Int) (a2 : Int) : Option Bool := if a1 = -1 then some true else impl_from.f a1 x4 a2
set_option maxHeartbeats 4000000 in
set_option maxRecDepth 100000 in
theorem impl_MachineOk_1.calls (x0 x1 x2 x3 x4 x5 x6 x7 : Int) (A8 : Option Addr) (c8 : Nat) (x8 : List Int) (a1 : Int) (g1 : Nat) (a2 : Int) (b : Bool) (w : World) (hr8 : Kd.C (Kd.int .i64) w A8 x8.length x8) (hc8 : x8.length ≤ c8) (hg1 : TimeAt w g1 a2) (h : impl_MachineOk_1.f x0 x1 x2 x3 x4 x5 x6 x7 x8 a1 a2 = some b) :
    Calls Tryz.prog 94 #[.agg #[.int .i64 x0, .int .i64 x1, .int .i64 x2, .int .i64 x3, .int .i64 x4, .int .i64 x5, .int .i64 x6, .int .i64 x7, .slice A8 x8.length c8], .int .i64 a1, .pointer (some ⟨g1, 0, none⟩)] w fun e w' => e = .returned (.bool b) ∧ Below w.heap.size w w' := by
  have huE := Tryz.underlying134
  obtain ⟨v0, v1, v2, v4, v5, v6, v7, hg1⟩ := hg1
  have HG := Aside0.mk hg1
  clear hg1 hr8 hc8
  unfold impl_MachineOk_1.f at h
  by_cases c : a1 = -1
  · rw [if_pos c] at h
    obtain rfl := Option.some.inj h
    have cb : (a1 == -1) = true := beq_iff_eq.2 c
    clear c h
    go_enter Tryz.func94, Tryz.ntmps94
    go_wp2_with (first | ((with_reducible refine gate_dst (N := 3) rfl ?_); refine box_event ?hg (N := 3) ?hd (cs := #[.int .i64 x0, .int .i64 x1, .int .i64 x2, .int .i64 x3, .int .i64 x4, .int .i64 x5, .int .i64 x6, .int .i64 x7, .slice A8 x8.length c8]) (t := 134) ?hr ?_; (case hd => rfl); (case hg => rfl); (case hr => first | (go_simp; done) | (go_simp; rfl)); intro gb hg_ w2 hbox hb; have HB := Aside0.mk hb; clear hb hg_ hbox))
    go_ret
    exact ⟨rfl, HB.out⟩
  · rw [if_neg c] at h
    have cb : (a1 == -1) = false := beq_eq_false_iff_ne.2 c
    have E := Aside0.mk h
    clear c h
    go_enter Tryz.func94, Tryz.ntmps94
    go_wp2_with (first | ((with_reducible refine gate_dst (N := 3) rfl ?_); refine box_event ?hg (N := 3) ?hd (cs := #[.int .i64 x0, .int .i64 x1, .int .i64 x2, .int .i64 x3, .int .i64 x4, .int .i64 x5, .int .i64 x6, .int .i64 x7, .slice A8 x8.length c8]) (t := 134) ?hr ?_; (case hd => rfl); (case hg => rfl); (case hr => first | (go_simp; done) | (go_simp; rfl)); intro gb hg_ w2 hbox hb; have HB := Aside0.mk hb; have hc_ : w2.cell? ⟨g1, 3, none⟩ = some (.int .i64 a2) := (blk_cell (blk_below HG.out hb) 3).trans rfl; have hz4 : w2.cell? ⟨gb, 4, none⟩ = some (.int .i64 x4) := (blk_cell hbox 4).trans rfl; clear hb hg_ hbox) | (go_at_call 62; (with_reducible refine (impl_from.calls a1 x4 a2 b _ E.out).mono ?_); rintro e w' ⟨rfl, ⟨nd, rfl⟩⟩))
    go_ret
    exact ⟨by first | rfl | (simp; done) | (simp [*]; done), by repeat (first | (with_reducible first | exact HB.out | apply below_alloc | apply pw_below_drewN | apply below_drew1) | exact HB.out)⟩
end Go.Proofs.YtopikhjcbcpiaaaGreat.Q
end
namespace Go.Proofs.YtopikhjcbcpiaaaGreat.Q
open Go.RowKit Go.Proofs.YtopikhjcbcpiaaaGreatW.PrintWords Go.Proofs.YtopikhjcbcpiaaaGreatW.PrintLast Go.Proofs.YtopikhjcbcpiaaaGreatW.PrintMore
attribute [local go_sem] max2_int min2_int max_two min_two max_three min_three max_four min_four   -- for this text's walks alone
set_option linter.unusedVariables false
set_option linter.unusedSimpArgs false
mutual
def impl_MachineOk.j0 : Nat → Int → Bool → List (S39) → List (S52) → List (S82) → Int → List (S134) → List Int → List Int → Int → Option (Bool)
 | 0, _, _, _, _, _, _, _, _, _, _ => none
 | k + 1, x3, x41, x494000, x494001, x494002, x494003, x494004, x494005, x494006, x494007 => if x41 = true then (some false) else (impl_MachineOk.l0 k x3 x494004 (x494004.length : Int) 0 x494000 x494001 x494002 x494003 x494004 x494005 x494006 x494007)
def impl_MachineOk.l0 : Nat → Int → List (S134) → Int → Int → List (S39) → List (S52) → List (S82) → Int → List (S134) → List Int → List Int → Int → Option (Bool)
 | 0, _, _, _, _, _, _, _, _, _, _, _, _ => none
 | k + 1, x3, x44, x45, x46, x494000, x494001, x494002, x494003, x494004, x494005, x494006, x494007 => if x46 < x45 then (if 0 ≤ x46 then (if x46 < (x44.length : Int) then ((impl_from.f ((rd_T134 x44 x46).f0) 0 (wrap64 (x3 - 1))).bind fun t499 => (if t499 = true then ((impl_OpOk.f k ((rd_T134 x44 x46).f1.f0) ((rd_T134 x44 x46).f1.f1) ((rd_T134 x44 x46).f1.f2)).bind fun t500 => (if t500 = true then ((impl_from.f ((rd_T134 x44 x46).f2) 0 x494003).bind fun t501 => (if t501 = true then ((impl_MachineOk_1.f ((rd_T134 x44 x46).f0) ((rd_T134 x44 x46).f1.f0) ((rd_T134 x44 x46).f1.f1) ((rd_T134 x44 x46).f1.f2) ((rd_T134 x44 x46).f2) ((rd_T134 x44 x46).f3) ((rd_T134 x44 x46).f4) ((rd_T134 x44 x46).f5.f0) ((rd_T134 x44 x46).f5.f1) ((rd_T134 x44 x46).f3) x494003).bind fun t502 => (if t502 = true then ((impl_MachineOk_1.f ((rd_T134 x44 x46).f0) ((rd_T134 x44 x46).f1.f0) ((rd_T134 x44 x46).f1.f1) ((rd_T134 x44 x46).f1.f2) ((rd_T134 x44 x46).f2) ((rd_T134 x44 x46).f3) ((rd_T134 x44 x46).f4) ((rd_T134 x44 x46).f5.f0) ((rd_T134 x44 x46).f5.f1) ((rd_T134 x44 x46).f4) x494003).bind fun t503 => (if t503 = true then (impl_MachineOk.l0 k x3 x44 x45 (wrap64 (x46 + 1)) x494000 x494001 x494002 x494003 x494004 x494005 x494006 x494007) else (some false))) else (some false))) else (some false))) else (some false))) else (some false))) else (none)) else (none)) else (impl_MachineOk.l1 k x3 x494002 (x494002.length : Int) 0 x494000 x494001 x494002 x494003 x494004 x494005 x494006 x494007)
def impl_MachineOk.l1 : Nat → Int → List (S82) → Int → Int → List (S39) → List (S52) → List (S82) → Int → List (S134) → List Int → List Int → Int → Option (Bool)
 | 0, _, _, _, _, _, _, _, _, _, _, _, _ => none
 | k + 1, x3, x88, x89, x90, x494000, x494001, x494002, x494003, x494004, x494005, x494006, x494007 => if x90 < x89 then (if 0 ≤ x90 then (if x90 < (x88.length : Int) then ((impl_ThreadOk.f k ((rd_T82 x88 x90).f0) ((rd_T82 x88 x90).f1) ((rd_T82 x88 x90).f2) ((rd_T82 x88 x90).f3) ((rd_T82 x88 x90).f4) x3).bind fun t507 => (if t507 = true then ((impl_callsOk.f k x494000 x494001 x494002 x494003 x494004 x494005 x494006 x494007 x90).bind fun t508 => (if t508 = true then (impl_MachineOk.l1 k x3 x88 x89 (wrap64 (x90 + 1)) x494000 x494001 x494002 x494003 x494004 x494005 x494006 x494007) else (some false))) else (some false))) else (none)) else (none)) else ((impl_orderOk.f k x494000 x494001 x494002 x494003 x494004 x494005 x494006 x494007).bind fun t504 => (some t504))
end
def impl_MachineOk.f (k : Nat) (l0_0 : List (S39)) (l0_1 : List (S52)) (l0_2 : List (S82)) (a0_3 : Int) (l0_4 : List (S134)) (l0_5 : List Int) (l0_6 : List Int) (a0_7 : Int) : Option (Bool) := (impl_MemOk.f k l0_0 l0_1).bind fun t494 => (if t494 = true then (if (l0_1.length : Int) = (l0_2.length : Int) then ((impl_from.f a0_3 0 100000).bind fun t495 => (if t495 = true then (if (l0_4.length : Int) > 40 then (impl_MachineOk.j0 k (l0_2.length : Int) true l0_0 l0_1 l0_2 a0_3 l0_4 l0_5 l0_6 a0_7) else ((impl_RowsOk.f k l0_6 a0_7).bind fun t496 => (impl_MachineOk.j0 k (l0_2.length : Int) (!t496) l0_0 l0_1 l0_2 a0_3 l0_4 l0_5 l0_6 a0_7))) else (impl_MachineOk.j0 k (l0_2.length : Int) true l0_0 l0_1 l0_2 a0_3 l0_4 l0_5 l0_6 a0_7))) else (impl_MachineOk.j0 k (l0_2.length : Int) true l0_0 l0_1 l0_2 a0_3 l0_4 l0_5 l0_6 a0_7)) else (impl_MachineOk.j0 k (l0_2.length : Int) true l0_0 l0_1 l0_2 a0_3 l0_4 l0_5 l0_6 a0_7))
set_option maxHeartbeats 8000000 in
set_option maxRecDepth 100000 in
theorem impl_MachineOk.calls (k : Nat) (A0_0 : Option Addr) (c0_0 : Nat) (l0_0 : List (S39)) (A0_1 : Option Addr) (c0_1 : Nat) (l0_1 : List (S52)) (A0_2 : Option Addr) (c0_2 : Nat) (l0_2 : List (S82)) (a0_3 : Int) (A0_4 : Option Addr) (c0_4 : Nat) (l0_4 : List (S134)) (A0_5 : Option Addr) (c0_5 : Nat) (l0_5 : List Int) (A0_6 : Option Addr) (c0_6 : Nat) (l0_6 : List Int) (a0_7 : Int) (r : Bool) (w : World) (hr0_0 : Kd.C k39 w A0_0 l0_0.length l0_0) (hc0_0 : l0_0.length ≤ c0_0) (hr0_1 : Kd.C k52 w A0_1 l0_1.length l0_1) (hc0_1 : l0_1.length ≤ c0_1) (hr0_2 : Kd.C k82 w A0_2 l0_2.length l0_2) (hc0_2 : l0_2.length ≤ c0_2) (hr0_4 : Kd.C k134 w A0_4 l0_4.length l0_4) (hc0_4 : l0_4.length ≤ c0_4) (hr0_5 : Kd.C (Kd.int .i64) w A0_5 l0_5.length l0_5) (hc0_5 : l0_5.length ≤ c0_5) (hr0_6 : Kd.C (Kd.int .i64) w A0_6 l0_6.length l0_6) (hc0_6 : l0_6.length ≤ c0_6) (h : impl_MachineOk.f k l0_0 l0_1 l0_2 a0_3 l0_4 l0_5 l0_6 a0_7 = some r) :
  Calls Tryz.prog 27 #[.agg #[.slice A0_0 l0_0.length c0_0, .slice A0_1 l0_1.length c0_1, .slice A0_2 l0_2.length c0_2, .int .i64 a0_3, .slice A0_4 l0_4.length c0_4, .slice A0_5 l0_5.length c0_5, .slice A0_6 l0_6.length c0_6, .int .i64 a0_7]] w fun e w' => e = .returned (.bool r) ∧ Below w.heap.size w w' := by
 have hu75 := Tryz.underlying75
 have hu27 := Tryz.underlying27
 have hu73 := Tryz.underlying73
 have hu134 := Tryz.underlying134
 have hu132 := Tryz.underlying132
 have hu82 := Tryz.underlying82
 have HR0_0 := Aside0.mk hr0_0
 have HC0_0 := Aside0.mk hc0_0
 clear hr0_0 hc0_0
 have HR0_1 := Aside0.mk hr0_1
 have HC0_1 := Aside0.mk hc0_1
 clear hr0_1 hc0_1
 have HR0_2 := Aside0.mk hr0_2
 have HC0_2 := Aside0.mk hc0_2
 clear hr0_2 hc0_2
 have HR0_4 := Aside0.mk hr0_4
 have HC0_4 := Aside0.mk hc0_4
 clear hr0_4 hc0_4
 have HR0_5 := Aside0.mk hr0_5
 have HC0_5 := Aside0.mk hc0_5
 clear hr0_5 hc0_5
 have HR0_6 := Aside0.mk hr0_6
 have HC0_6 := Aside0.mk hc0_6
 clear hr0_6 hc0_6
 have HB := Aside0.mk (Below.refl w.heap.size w)
 have H := h
 clear h
 unfold impl_MachineOk.f at H
 have HC2 := Aside0.mk H
 clear H
 go_enter Tryz.func27, Tryz.ntmps27
 go_upto_region 2 with (first | ((with_reducible refine gq 1 rfl ?_); (try (refine gate_guard (by rfl) ?_; dsimp only)); refine bx0 HB (N := 1) (t := 75) ?_; clear HB; intro gb493 w3 BK493 GE493 HB; have hz4 := cs8_ BK493))
 (try simp only [Act.put, sA, sB, sC])
 go_cut [41] (fun v41 wc => ∃ (kq : Nat) (x41_1 : Bool), v41 = .bool x41_1 ∧ Aside0 (impl_MachineOk.j0 kq (l0_2.length : Int) x41_1 l0_0 l0_1 l0_2 a0_3 l0_4 l0_5 l0_6 a0_7 = some r) ∧ Aside0 (kq ≤ k) ∧ Aside0 (wc.heap[gb493]? = some (.cells #[(.slice A0_0 l0_0.length c0_0), (.slice A0_1 l0_1.length c0_1), (.slice A0_2 l0_2.length c0_2), .int .i64 a0_3, (.slice A0_4 l0_4.length c0_4), (.slice A0_5 l0_5.length c0_5), (.slice A0_6 l0_6.length c0_6), .int .i64 a0_7] 75 (0, 0))) ∧ Aside0 (Below w.heap.size w wc))
 case first =>
  have H := HC2.out
  clear HC2
  obtain ⟨t494, A5, H⟩ := bn H
  try dsimp only at H
  cases t494
  case false =>
   replace H := ipf H
   have H' := Aside0.mk H
   clear H
   have hz25 := cs8_ BK493
   go_wp2_with (first | ((with_reducible refine gf 22 rfl ?_); refine gL 14 Tryz.func22 #[.agg #[.slice A0_0 l0_0.length c0_0, .slice A0_1 l0_1.length c0_1]] ?_; (with_reducible refine (impl_MemOk.calls k _ _ l0_0 _ _ l0_1 false _ (kc HR0_0 HB) HC0_0.out (kc HR0_1 HB) HC0_1.out A5.out).mono ?_); rintro e w26 ⟨rfl, hb⟩; refine ⟨_, rfl, ?_⟩; replace BK493 := bb BK493 hb; replace HB := bs HB hb; (try clear hb)))
   go_meet
   case rel => exact ⟨_, (true), rsd, H', ⟨by first | omega | exact Nat.le_refl _⟩, ⟨by (with_reducible repeat (first | refine blk_drewN ?_ _ | refine blk_drew ?_ | refine blk_alloc ?_ _)); exact BK493.out⟩, ⟨tb HB⟩⟩
  replace H := ipt H
  by_cases c7 : (l0_1.length : Int) = (l0_2.length : Int)
  case neg =>
   rw [if_neg c7] at H
   have c7b0 : ((l0_1.length : Int) == (l0_2.length : Int)) = false := beq_eq_false_iff_ne.mpr c7
   have c7b1 : ((l0_1.length : Int) != (l0_2.length : Int)) = true := bne_iff_ne.mpr c7
   have c7b2 : (l0_1.length == l0_2.length) = false := by first | simpa using c7 | (simp at c7 ⊢; omega)
   (first | rw [c7b0] | (simp only [i64_w, i32_w]; rw [c7b0]) | skip)
   have H' := Aside0.mk H
   clear H
   have hz22 := cs8_ BK493
   go_wp2_with (first | ((with_reducible refine gf 22 rfl ?_); refine gL 14 Tryz.func22 #[.agg #[.slice A0_0 l0_0.length c0_0, .slice A0_1 l0_1.length c0_1]] ?_; (with_reducible refine (impl_MemOk.calls k _ _ l0_0 _ _ l0_1 true _ (kc HR0_0 HB) HC0_0.out (kc HR0_1 HB) HC0_1.out A5.out).mono ?_); rintro e w23 ⟨rfl, hb⟩; refine ⟨_, rfl, ?_⟩; replace BK493 := bb BK493 hb; replace HB := bs HB hb; (try clear hb); have hz24 := cs8_ BK493))
   go_meet
   case rel => exact ⟨_, (true), rsd, H', ⟨by first | omega | exact Nat.le_refl _⟩, ⟨by (with_reducible repeat (first | refine blk_drewN ?_ _ | refine blk_drew ?_ | refine blk_alloc ?_ _)); exact BK493.out⟩, ⟨tb HB⟩⟩
  rw [if_pos c7] at H
  have c7b0 : ((l0_1.length : Int) == (l0_2.length : Int)) = true := beq_iff_eq.mpr c7
  have c7b1 : ((l0_1.length : Int) != (l0_2.length : Int)) = false := bne_eq_false_iff_eq.mpr c7
  have c7b2 : (l0_1.length == l0_2.length) = true := by first | simpa using c7 | (simp at c7 ⊢; omega)
  clear c7
  (first | rw [c7b0] | (simp only [i64_w, i32_w]; rw [c7b0]) | skip)
  obtain ⟨t495, A8, H⟩ := bn H
  try dsimp only at H
  cases t495
  case false =>
   replace H := ipf H
   have H' := Aside0.mk H
   clear H
   have hz19 := cs8_ BK493
   go_wp2_with (first | ((with_reducible refine gf 22 rfl ?_); refine gL 14 Tryz.func22 #[.agg #[.slice A0_0 l0_0.length c0_0, .slice A0_1 l0_1.length c0_1]] ?_; (with_reducible refine (impl_MemOk.calls k _ _ l0_0 _ _ l0_1 true _ (kc HR0_0 HB) HC0_0.out (kc HR0_1 HB) HC0_1.out A5.out).mono ?_); rintro e w20 ⟨rfl, hb⟩; refine ⟨_, rfl, ?_⟩; replace BK493 := bb BK493 hb; replace HB := bs HB hb; (try clear hb); have hz21 := cs8_ BK493) | (go_at_call 62; (with_reducible refine (impl_from.calls a0_3 0 100000 false _ A8.out).mono ?_); rintro e w' ⟨rfl, ⟨nd, rfl⟩⟩))
   go_meet
   case rel => exact ⟨_, (true), rsd, H', ⟨by first | omega | exact Nat.le_refl _⟩, ⟨by (with_reducible repeat (first | refine blk_drewN ?_ _ | refine blk_drew ?_ | refine blk_alloc ?_ _)); exact BK493.out⟩, ⟨tb HB⟩⟩
  replace H := ipt H
  by_cases c10 : (l0_4.length : Int) > 40
  case pos =>
   rw [if_pos c10] at H
   have c10b0 := decide_eq_true c10
   have c10b1 : decide (40 < l0_4.length) = true := decide_eq_true (by omega)
   clear c10
   have H' := Aside0.mk H
   clear H
   have hz11 := cs8_ BK493
   go_wp2_with (first | ((with_reducible refine gf 22 rfl ?_); refine gL 14 Tryz.func22 #[.agg #[.slice A0_0 l0_0.length c0_0, .slice A0_1 l0_1.length c0_1]] ?_; (with_reducible refine (impl_MemOk.calls k _ _ l0_0 _ _ l0_1 true _ (kc HR0_0 HB) HC0_0.out (kc HR0_1 HB) HC0_1.out A5.out).mono ?_); rintro e w12 ⟨rfl, hb⟩; refine ⟨_, rfl, ?_⟩; replace BK493 := bb BK493 hb; replace HB := bs HB hb; (try clear hb); have hz13 := cs8_ BK493) | (go_at_call 62; (with_reducible refine (impl_from.calls a0_3 0 100000 true _ A8.out).mono ?_); rintro e w' ⟨rfl, ⟨nd, rfl⟩⟩))
   go_meet
   case rel => exact ⟨_, (true), rsd, H', ⟨by first | omega | exact Nat.le_refl _⟩, ⟨by (with_reducible repeat (first | refine blk_drewN ?_ _ | refine blk_drew ?_ | refine blk_alloc ?_ _)); exact BK493.out⟩, ⟨tb HB⟩⟩
  rw [if_neg c10] at H
  have c10b0 := decide_eq_false c10
  have c10b1 : decide (40 < l0_4.length) = false := decide_eq_false (by omega)
  clear c10
  obtain ⟨t496, A14, H⟩ := bn H
  try dsimp only at H
  have H' := Aside0.mk H
  clear H
  have hz15 := cs8_ BK493
  go_wp2_with (first | ((with_reducible refine gf 22 rfl ?_); refine gL 14 Tryz.func22 #[.agg #[.slice A0_0 l0_0.length c0_0, .slice A0_1 l0_1.length c0_1]] ?_; (with_reducible refine (impl_MemOk.calls k _ _ l0_0 _ _ l0_1 true _ (kc HR0_0 HB) HC0_0.out (kc HR0_1 HB) HC0_1.out A5.out).mono ?_); rintro e w16 ⟨rfl, hb⟩; refine ⟨_, rfl, ?_⟩; replace BK493 := bb BK493 hb; replace HB := bs HB hb; (try clear hb); have hz17 := cs8_ BK493) | (go_at_call 62; (with_reducible refine (impl_from.calls a0_3 0 100000 true _ A8.out).mono ?_); rintro e w' ⟨rfl, ⟨nd, rfl⟩⟩) | (go_at_call 93; (with_reducible refine (impl_RowsOk.calls k _ _ l0_6 a0_7 t496 _ ?side1 HC0_6.out A14.out).mono ?_); (case side1 => repeat (first | exact (Kd.C_below HR0_6.out (tb HB)) | (with_reducible refine Kd.C_alloc ?_ _) | (with_reducible refine Kd.C_drewN ?_ _) | (with_reducible refine Kd.C_drew ?_))); rintro e w18 ⟨rfl, hb⟩; replace BK493 := bb BK493 hb; replace HB := bs HB hb; (try clear hb)))
  go_meet
  case rel => exact ⟨_, (!t496), rsd, H', ⟨by first | omega | exact Nat.le_refl _⟩, ⟨by (with_reducible repeat (first | refine blk_drewN ?_ _ | refine blk_drew ?_ | refine blk_alloc ?_ _)); exact BK493.out⟩, ⟨tb HB⟩⟩
 case rest =>
  clear HC2
  try clear c1
  try clear c2
  try clear p2
  try clear c6
  try clear c7
  try clear c7b0
  try clear c7b1
  try clear c7b2
  try clear c9
  try clear c10
  try clear c10b0
  try clear c10b1
  try clear c22
  try clear hz11
  try clear hz13
  try clear hz15
  try clear hz17
  try clear hz19
  try clear hz21
  try clear hz22
  try clear hz24
  try clear hz25
  try clear hz4
  try clear hz11
  try clear hz13
  try clear hz15
  try clear hz17
  try clear hz19
  try clear hz21
  try clear hz22
  try clear hz24
  try clear hz25
  try clear hz4
  obtain ⟨kq, x41_1, rfl, HA, HJ1, BK493, HB⟩ := hcut
  cases kq with
  | zero => exact absurd HA.out (by simp [impl_MachineOk.j0])
  | succ kj1 =>
   have H := HA.out
   clear HA
   simp only [impl_MachineOk.j0] at H
   cases x41_1
   case true =>
    replace H := ipt H
    obtain rfl := oin H
    go_wp2
    go_ret
    exact ⟨er, tb HB⟩
   replace H := ipf H
   have H' := Aside0.mk H
   clear H
   have hz28 := cs8_ BK493
   go_wp2
   go_loopg [46] kj1 (fun kq v46 w' => ∃ (x46_2 : Int), v46 = .int .i64 x46_2 ∧ Aside0 (impl_MachineOk.l0 kq (l0_2.length : Int) l0_4 (l0_4.length : Int) x46_2 l0_0 l0_1 l0_2 a0_3 l0_4 l0_5 l0_6 a0_7 = some r) ∧ Aside0 (kq ≤ kj1) ∧ Aside0 (w'.heap[gb493]? = some (.cells #[(.slice A0_0 l0_0.length c0_0), (.slice A0_1 l0_1.length c0_1), (.slice A0_2 l0_2.length c0_2), .int .i64 a0_3, (.slice A0_4 l0_4.length c0_4), (.slice A0_5 l0_5.length c0_5), (.slice A0_6 l0_6.length c0_6), .int .i64 a0_7] 75 (0, 0))) ∧ Aside0 (Below w.heap.size w w'))
   case atStart => exact ⟨(0), rsd, H', ⟨Nat.le_refl _⟩, ⟨by (with_reducible repeat (first | refine blk_drewN ?_ _ | refine blk_drew ?_ | refine blk_alloc ?_ _)); exact BK493.out⟩, ⟨tb HB⟩⟩
   case round =>
    clear H'
    try clear c1
    try clear c2
    try clear p2
    try clear c6
    try clear c7
    try clear c7b0
    try clear c7b1
    try clear c7b2
    try clear c9
    try clear c10
    try clear c10b0
    try clear c10b1
    try clear c22
    try clear c27
    try clear hz11
    try clear hz13
    try clear hz15
    try clear hz17
    try clear hz19
    try clear hz21
    try clear hz22
    try clear hz24
    try clear hz25
    try clear hz28
    try clear hz4
    try clear hz11
    try clear hz13
    try clear hz15
    try clear hz17
    try clear hz19
    try clear hz21
    try clear hz22
    try clear hz24
    try clear hz25
    try clear hz28
    try clear hz4
    try clear p2
    obtain ⟨x46_2, rfl, HA, HK2, BK493, HB⟩ := hrel
    cases gk with
    | zero => exact absurd HA.out (by simp [impl_MachineOk.l0])
    | succ k2 =>
     have H := HA.out
     clear HA
     simp only [impl_MachineOk.l0] at H
     revert H; refine icd (fun c29b0 H => ?pos) fun c29b0 H => ?_
     case pos =>
      obtain ⟨c30b0, H⟩ := itd H
      obtain ⟨c31b0, H⟩ := itd H
      obtain ⟨t499, A32, H⟩ := bn H
      try dsimp only at H
      cases t499
      case false =>
       replace H := ipf H
       obtain rfl := oin H
       have p497 : 0 ≤ (x46_2 : Int) := od
       have q497 : x46_2 < (l0_4.length : Int) := od
       obtain ⟨ad497, A497_8, c497_8, e497, hx497, hl497_8, hi497_8⟩ := att134 HR0_4.out x46_2 p497 q497
       cases e497
       replace hx497 := ox9 HB hx497
       have HR497_8 := Aside0.mk hi497_8
       have HC497_8 := Aside0.mk hl497_8
       clear hi497_8 hl497_8
       replace p497 := eq_true p497
       replace q497 := eq_true q497
       go_wp2_with (first | ((with_reducible refine gq 6 rfl ?_); (try (refine gate_guard (by rfl) ?_; dsimp only)); refine bx1 HB BK493 (N := 6) (cs := #[.int .i64 0, .int .i64 0, .int .i64 0, .int .i64 0, .int .i64 0, .int .i64 0, .int .i64 0, .int .i64 0, .slice none 0 0]) (t := 134) ?_; clear HB BK493; intro gb498 w77 BK498 GE498 HB NB493_498 NB498_493 BK493; have hnb78 := NB498_493.out; have hnc78 := NB493_498.out; have hz79 := cs9_ BK498) | ((with_reducible refine gf 62 rfl ?_); refine gL 54 Tryz.func62 #[.int .i64 ((rd_T134 l0_4 x46_2).f0), .int .i64 0, .int .i64 (wrap64 ((l0_2.length : Int) - 1))] ?_; (with_reducible refine (impl_from.calls ((rd_T134 l0_4 x46_2).f0) 0 (wrap64 ((l0_2.length : Int) - 1)) false _ A32.out).mono ?_); rintro e w' ⟨rfl, ⟨nd, rfl⟩⟩; refine ⟨_, rfl, ?_⟩))
       go_ret
       exact ⟨er, tb HB⟩
      replace H := ipt H
      obtain ⟨t500, A34, H⟩ := bn H
      try dsimp only at H
      cases t500
      case false =>
       replace H := ipf H
       obtain rfl := oin H
       have p497 : 0 ≤ (x46_2 : Int) := od
       have q497 : x46_2 < (l0_4.length : Int) := od
       obtain ⟨ad497, A497_8, c497_8, e497, hx497_0, hx497_1, hx497_2, hx497_3, hx497_4, hx497_5, hx497_6, hx497_7, hx497_8, hl497_8, hi497_8⟩ := at_T134 HR0_4.out x46_2 p497 q497
       cases e497
       replace hx497_0 := ox HB hx497_0
       replace hx497_1 := ox HB hx497_1
       replace hx497_2 := ox HB hx497_2
       replace hx497_3 := ox HB hx497_3
       replace hx497_4 := ox HB hx497_4
       replace hx497_5 := ox HB hx497_5
       replace hx497_6 := ox HB hx497_6
       replace hx497_7 := ox HB hx497_7
       replace hx497_8 := ox HB hx497_8
       have HR497_8 := Aside0.mk hi497_8
       have HC497_8 := Aside0.mk hl497_8
       clear hi497_8 hl497_8
       replace p497 := eq_true p497
       replace q497 := eq_true q497
       go_wp2_with (first | ((with_reducible refine gq 6 rfl ?_); (try (refine gate_guard (by rfl) ?_; dsimp only)); refine bx1 HB BK493 (N := 6) (cs := #[.int .i64 0, .int .i64 0, .int .i64 0, .int .i64 0, .int .i64 0, .int .i64 0, .int .i64 0, .int .i64 0, .slice none 0 0]) (t := 134) ?_; clear HB BK493; intro gb498 w73 BK498 GE498 HB NB493_498 NB498_493 BK493; have hnb74 := NB498_493.out; have hnc74 := NB493_498.out; have hz75 := cs9_ BK498) | ((with_reducible refine gf 62 rfl ?_); refine gL 54 Tryz.func62 #[.int .i64 ((rd_T134 l0_4 x46_2).f0), .int .i64 0, .int .i64 (wrap64 ((l0_2.length : Int) - 1))] ?_; (with_reducible refine (impl_from.calls ((rd_T134 l0_4 x46_2).f0) 0 (wrap64 ((l0_2.length : Int) - 1)) true _ A32.out).mono ?_); rintro e w' ⟨rfl, ⟨nd, rfl⟩⟩; refine ⟨_, rfl, ?_⟩) | (go_at_call 95; (with_reducible refine (impl_OpOk.calls k2 ((rd_T134 l0_4 x46_2).f1.f0) ((rd_T134 l0_4 x46_2).f1.f1) ((rd_T134 l0_4 x46_2).f1.f2) false _ A34.out).mono ?_); rintro e w76 ⟨rfl, hb⟩; replace BK493 := bbf BK493 hb; replace BK498 := bbp9 BK498 hb; replace HB := bs HB hb; (try clear hb)))
       go_ret
       exact ⟨er, tb HB⟩
      replace H := ipt H
      obtain ⟨t501, A36, H⟩ := bn H
      try dsimp only at H
      cases t501
      case false =>
       replace H := ipf H
       obtain rfl := oin H
       have p497 : 0 ≤ (x46_2 : Int) := od
       have q497 : x46_2 < (l0_4.length : Int) := od
       obtain ⟨ad497, A497_8, c497_8, e497, hx497_0, hx497_1, hx497_2, hx497_3, hx497_4, hx497_5, hx497_6, hx497_7, hx497_8, hl497_8, hi497_8⟩ := at_T134 HR0_4.out x46_2 p497 q497
       cases e497
       replace hx497_0 := ox HB hx497_0
       replace hx497_1 := ox HB hx497_1
       replace hx497_2 := ox HB hx497_2
       replace hx497_3 := ox HB hx497_3
       replace hx497_4 := ox HB hx497_4
       replace hx497_5 := ox HB hx497_5
       replace hx497_6 := ox HB hx497_6
       replace hx497_7 := ox HB hx497_7
       replace hx497_8 := ox HB hx497_8
       have HR497_8 := Aside0.mk hi497_8
       have HC497_8 := Aside0.mk hl497_8
       clear hi497_8 hl497_8
       replace p497 := eq_true p497
       replace q497 := eq_true q497
       go_wp2_with (first | ((with_reducible refine gq 6 rfl ?_); (try (refine gate_guard (by rfl) ?_; dsimp only)); refine bx1 HB BK493 (N := 6) (cs := #[.int .i64 0, .int .i64 0, .int .i64 0, .int .i64 0, .int .i64 0, .int .i64 0, .int .i64 0, .int .i64 0, .slice none 0 0]) (t := 134) ?_; clear HB BK493; intro gb498 w67 BK498 GE498 HB NB493_498 NB498_493 BK493; have hnb68 := NB498_493.out; have hnc68 := NB493_498.out; have hz69 := cs9_ BK498) | ((with_reducible refine gf 62 rfl ?_); refine gL 54 Tryz.func62 #[.int .i64 ((rd_T134 l0_4 x46_2).f0), .int .i64 0, .int .i64 (wrap64 ((l0_2.length : Int) - 1))] ?_; (with_reducible refine (impl_from.calls ((rd_T134 l0_4 x46_2).f0) 0 (wrap64 ((l0_2.length : Int) - 1)) true _ A32.out).mono ?_); rintro e w' ⟨rfl, ⟨nd, rfl⟩⟩; refine ⟨_, rfl, ?_⟩) | (go_at_call 95; (with_reducible refine (impl_OpOk.calls k2 ((rd_T134 l0_4 x46_2).f1.f0) ((rd_T134 l0_4 x46_2).f1.f1) ((rd_T134 l0_4 x46_2).f1.f2) true _ A34.out).mono ?_); rintro e w70 ⟨rfl, hb⟩; replace BK493 := bbf BK493 hb; replace BK498 := bbp9 BK498 hb; replace HB := bs HB hb; (try clear hb); have hz71 := cs9_ BK498; have hz72 := cs8_ BK493) | (go_at_call 62; (with_reducible refine (impl_from.calls ((rd_T134 l0_4 x46_2).f2) 0 a0_3 false _ A36.out).mono ?_); rintro e w' ⟨rfl, ⟨nd, rfl⟩⟩))
       go_ret
       exact ⟨er, tb HB⟩
      replace H := ipt H
      obtain ⟨t502, A38, H⟩ := bn H
      try dsimp only at H
      cases t502
      case false =>
       replace H := ipf H
       obtain rfl := oin H
       have p497 : 0 ≤ (x46_2 : Int) := od
       have q497 : x46_2 < (l0_4.length : Int) := od
       obtain ⟨ad497, A497_8, c497_8, e497, hx497_0, hx497_1, hx497_2, hx497_3, hx497_4, hx497_5, hx497_6, hx497_7, hx497_8, hl497_8, hi497_8⟩ := at_T134 HR0_4.out x46_2 p497 q497
       cases e497
       replace hx497_0 := ox HB hx497_0
       replace hx497_1 := ox HB hx497_1
       replace hx497_2 := ox HB hx497_2
       replace hx497_3 := ox HB hx497_3
       replace hx497_4 := ox HB hx497_4
       replace hx497_5 := ox HB hx497_5
       replace hx497_6 := ox HB hx497_6
       replace hx497_7 := ox HB hx497_7
       replace hx497_8 := ox HB hx497_8
       have HR497_8 := Aside0.mk hi497_8
       have HC497_8 := Aside0.mk hl497_8
       clear hi497_8 hl497_8
       replace p497 := eq_true p497
       replace q497 := eq_true q497
       go_wp2_with (first | ((with_reducible refine gq 6 rfl ?_); (try (refine gate_guard (by rfl) ?_; dsimp only)); refine bx1 HB BK493 (N := 6) (cs := #[.int .i64 0, .int .i64 0, .int .i64 0, .int .i64 0, .int .i64 0, .int .i64 0, .int .i64 0, .int .i64 0, .slice none 0 0]) (t := 134) ?_; clear HB BK493; intro gb498 w60 BK498 GE498 HB NB493_498 NB498_493 BK493; have hnb61 := NB498_493.out; have hnc61 := NB493_498.out; have hz62 := cs9_ BK498) | ((with_reducible refine gf 62 rfl ?_); refine gL 54 Tryz.func62 #[.int .i64 ((rd_T134 l0_4 x46_2).f0), .int .i64 0, .int .i64 (wrap64 ((l0_2.length : Int) - 1))] ?_; (with_reducible refine (impl_from.calls ((rd_T134 l0_4 x46_2).f0) 0 (wrap64 ((l0_2.length : Int) - 1)) true _ A32.out).mono ?_); rintro e w' ⟨rfl, ⟨nd, rfl⟩⟩; refine ⟨_, rfl, ?_⟩) | (go_at_call 95; (with_reducible refine (impl_OpOk.calls k2 ((rd_T134 l0_4 x46_2).f1.f0) ((rd_T134 l0_4 x46_2).f1.f1) ((rd_T134 l0_4 x46_2).f1.f2) true _ A34.out).mono ?_); rintro e w63 ⟨rfl, hb⟩; replace BK493 := bbf BK493 hb; replace BK498 := bbp9 BK498 hb; replace HB := bs HB hb; (try clear hb); have hz64 := cs9_ BK498; have hz65 := cs8_ BK493) | (go_at_call 62; (with_reducible refine (impl_from.calls ((rd_T134 l0_4 x46_2).f2) 0 a0_3 true _ A36.out).mono ?_); rintro e w' ⟨rfl, ⟨nd, rfl⟩⟩) | (go_at_call 94; (with_reducible refine (impl_MachineOk_1.calls ((rd_T134 l0_4 x46_2).f0) ((rd_T134 l0_4 x46_2).f1.f0) ((rd_T134 l0_4 x46_2).f1.f1) ((rd_T134 l0_4 x46_2).f1.f2) ((rd_T134 l0_4 x46_2).f2) ((rd_T134 l0_4 x46_2).f3) ((rd_T134 l0_4 x46_2).f4) ((rd_T134 l0_4 x46_2).f5.f0) _ _ ((rd_T134 l0_4 x46_2).f5.f1) ((rd_T134 l0_4 x46_2).f3) gb493 a0_3 false _ ?side1 HC497_8.out ?side3 A38.out).mono ?_); (case side1 => repeat (first | exact (Kd.C_below HR497_8.out (tb HB)) | (with_reducible refine Kd.C_alloc ?_ _) | (with_reducible refine Kd.C_drewN ?_ _) | (with_reducible refine Kd.C_drew ?_))); (case side3 => exact TimeAt.of (bk BK493)); rintro e w66 ⟨rfl, hb⟩; replace BK493 := bb BK493 hb; replace BK498 := bb BK498 hb; replace HB := bs HB hb; (try clear hb)))
       go_ret
       exact ⟨er, tb HB⟩
      replace H := ipt H
      obtain ⟨t503, A40, H⟩ := bn H
      try dsimp only at H
      cases t503
      case false =>
       replace H := ipf H
       obtain rfl := oin H
       have p497 : 0 ≤ (x46_2 : Int) := od
       have q497 : x46_2 < (l0_4.length : Int) := od
       obtain ⟨ad497, A497_8, c497_8, e497, hx497_0, hx497_1, hx497_2, hx497_3, hx497_4, hx497_5, hx497_6, hx497_7, hx497_8, hl497_8, hi497_8⟩ := at_T134 HR0_4.out x46_2 p497 q497
       cases e497
       replace hx497_0 := ox HB hx497_0
       replace hx497_1 := ox HB hx497_1
       replace hx497_2 := ox HB hx497_2
       replace hx497_3 := ox HB hx497_3
       replace hx497_4 := ox HB hx497_4
       replace hx497_5 := ox HB hx497_5
       replace hx497_6 := ox HB hx497_6
       replace hx497_7 := ox HB hx497_7
       replace hx497_8 := ox HB hx497_8
       have HR497_8 := Aside0.mk hi497_8
       have HC497_8 := Aside0.mk hl497_8
       clear hi497_8 hl497_8
       replace p497 := eq_true p497
       replace q497 := eq_true q497
       go_wp2_with (first | ((with_reducible refine gq 6 rfl ?_); (try (refine gate_guard (by rfl) ?_; dsimp only)); refine bx1 HB BK493 (N := 6) (cs := #[.int .i64 0, .int .i64 0, .int .i64 0, .int .i64 0, .int .i64 0, .int .i64 0, .int .i64 0, .int .i64 0, .slice none 0 0]) (t := 134) ?_; clear HB BK493; intro gb498 w51 BK498 GE498 HB NB493_498 NB498_493 BK493; have hnb52 := NB498_493.out; have hnc52 := NB493_498.out; have hz53 := cs9_ BK498) | ((with_reducible refine gf 62 rfl ?_); refine gL 54 Tryz.func62 #[.int .i64 ((rd_T134 l0_4 x46_2).f0), .int .i64 0, .int .i64 (wrap64 ((l0_2.length : Int) - 1))] ?_; (with_reducible refine (impl_from.calls ((rd_T134 l0_4 x46_2).f0) 0 (wrap64 ((l0_2.length : Int) - 1)) true _ A32.out).mono ?_); rintro e w' ⟨rfl, ⟨nd, rfl⟩⟩; refine ⟨_, rfl, ?_⟩) | (go_at_call 95; (with_reducible refine (impl_OpOk.calls k2 ((rd_T134 l0_4 x46_2).f1.f0) ((rd_T134 l0_4 x46_2).f1.f1) ((rd_T134 l0_4 x46_2).f1.f2) true _ A34.out).mono ?_); rintro e w54 ⟨rfl, hb⟩; replace BK493 := bbf BK493 hb; replace BK498 := bbp9 BK498 hb; replace HB := bs HB hb; (try clear hb); have hz55 := cs9_ BK498; have hz56 := cs8_ BK493) | (go_at_call 62; (with_reducible refine (impl_from.calls ((rd_T134 l0_4 x46_2).f2) 0 a0_3 true _ A36.out).mono ?_); rintro e w' ⟨rfl, ⟨nd, rfl⟩⟩) | (go_at_call 94; (with_reducible refine (impl_MachineOk_1.calls ((rd_T134 l0_4 x46_2).f0) ((rd_T134 l0_4 x46_2).f1.f0) ((rd_T134 l0_4 x46_2).f1.f1) ((rd_T134 l0_4 x46_2).f1.f2) ((rd_T134 l0_4 x46_2).f2) ((rd_T134 l0_4 x46_2).f3) ((rd_T134 l0_4 x46_2).f4) ((rd_T134 l0_4 x46_2).f5.f0) _ _ ((rd_T134 l0_4 x46_2).f5.f1) ((rd_T134 l0_4 x46_2).f3) gb493 a0_3 true _ ?side1 HC497_8.out ?side3 A38.out).mono ?_); (case side1 => repeat (first | exact (Kd.C_below HR497_8.out (tb HB)) | (with_reducible refine Kd.C_alloc ?_ _) | (with_reducible refine Kd.C_drewN ?_ _) | (with_reducible refine Kd.C_drew ?_))); (case side3 => exact TimeAt.of (bk BK493)); rintro e w57 ⟨rfl, hb⟩; replace BK493 := bb BK493 hb; replace BK498 := bb BK498 hb; replace HB := bs HB hb; (try clear hb); have hz58 := cs9_ BK498) | (go_at_call 94; (with_reducible refine (impl_MachineOk_1.calls ((rd_T134 l0_4 x46_2).f0) ((rd_T134 l0_4 x46_2).f1.f0) ((rd_T134 l0_4 x46_2).f1.f1) ((rd_T134 l0_4 x46_2).f1.f2) ((rd_T134 l0_4 x46_2).f2) ((rd_T134 l0_4 x46_2).f3) ((rd_T134 l0_4 x46_2).f4) ((rd_T134 l0_4 x46_2).f5.f0) _ _ ((rd_T134 l0_4 x46_2).f5.f1) ((rd_T134 l0_4 x46_2).f4) gb493 a0_3 false _ (kc HR497_8 HB) HC497_8.out ?side3 A40.out).mono ?_); (case side3 => exact TimeAt.of (bk BK493)); rintro e w59 ⟨rfl, hb⟩; replace BK493 := bb BK493 hb; replace BK498 := bb BK498 hb; replace HB := bs HB hb; (try clear hb)))
       go_ret
       exact ⟨er, tb HB⟩
      replace H := ipt H
      have H' := Aside0.mk H
      clear H
      have p497 : 0 ≤ (x46_2 : Int) := od
      have q497 : x46_2 < (l0_4.length : Int) := od
      obtain ⟨ad497, A497_8, c497_8, e497, hx497_0, hx497_1, hx497_2, hx497_3, hx497_4, hx497_5, hx497_6, hx497_7, hx497_8, hl497_8, hi497_8⟩ := at_T134 HR0_4.out x46_2 p497 q497
      cases e497
      replace hx497_0 := ox HB hx497_0
      replace hx497_1 := ox HB hx497_1
      replace hx497_2 := ox HB hx497_2
      replace hx497_3 := ox HB hx497_3
      replace hx497_4 := ox HB hx497_4
      replace hx497_5 := ox HB hx497_5
      replace hx497_6 := ox HB hx497_6
      replace hx497_7 := ox HB hx497_7
      replace hx497_8 := ox HB hx497_8
      have HR497_8 := Aside0.mk hi497_8
      have HC497_8 := Aside0.mk hl497_8
      clear hi497_8 hl497_8
      replace p497 := eq_true p497
      replace q497 := eq_true q497
      go_wp2_with (first | ((with_reducible refine gq 6 rfl ?_); (try (refine gate_guard (by rfl) ?_; dsimp only)); refine bx1 HB BK493 (N := 6) (cs := #[.int .i64 0, .int .i64 0, .int .i64 0, .int .i64 0, .int .i64 0, .int .i64 0, .int .i64 0, .int .i64 0, .slice none 0 0]) (t := 134) ?_; clear HB BK493; intro gb498 w42 BK498 GE498 HB NB493_498 NB498_493 BK493; have hnb43 := NB498_493.out; have hnc43 := NB493_498.out; have hz44 := cs9_ BK498) | ((with_reducible refine gf 62 rfl ?_); refine gL 54 Tryz.func62 #[.int .i64 ((rd_T134 l0_4 x46_2).f0), .int .i64 0, .int .i64 (wrap64 ((l0_2.length : Int) - 1))] ?_; (with_reducible refine (impl_from.calls ((rd_T134 l0_4 x46_2).f0) 0 (wrap64 ((l0_2.length : Int) - 1)) true _ A32.out).mono ?_); rintro e w' ⟨rfl, ⟨nd, rfl⟩⟩; refine ⟨_, rfl, ?_⟩) | (go_at_call 95; (with_reducible refine (impl_OpOk.calls k2 ((rd_T134 l0_4 x46_2).f1.f0) ((rd_T134 l0_4 x46_2).f1.f1) ((rd_T134 l0_4 x46_2).f1.f2) true _ A34.out).mono ?_); rintro e w45 ⟨rfl, hb⟩; replace BK493 := bbf BK493 hb; replace BK498 := bbp9 BK498 hb; replace HB := bs HB hb; (try clear hb); have hz46 := cs9_ BK498; have hz47 := cs8_ BK493) | (go_at_call 62; (with_reducible refine (impl_from.calls ((rd_T134 l0_4 x46_2).f2) 0 a0_3 true _ A36.out).mono ?_); rintro e w' ⟨rfl, ⟨nd, rfl⟩⟩) | (go_at_call 94; (with_reducible refine (impl_MachineOk_1.calls ((rd_T134 l0_4 x46_2).f0) ((rd_T134 l0_4 x46_2).f1.f0) ((rd_T134 l0_4 x46_2).f1.f1) ((rd_T134 l0_4 x46_2).f1.f2) ((rd_T134 l0_4 x46_2).f2) ((rd_T134 l0_4 x46_2).f3) ((rd_T134 l0_4 x46_2).f4) ((rd_T134 l0_4 x46_2).f5.f0) _ _ ((rd_T134 l0_4 x46_2).f5.f1) ((rd_T134 l0_4 x46_2).f3) gb493 a0_3 true _ ?side1 HC497_8.out ?side3 A38.out).mono ?_); (case side1 => repeat (first | exact (Kd.C_below HR497_8.out (tb HB)) | (with_reducible refine Kd.C_alloc ?_ _) | (with_reducible refine Kd.C_drewN ?_ _) | (with_reducible refine Kd.C_drew ?_))); (case side3 => exact TimeAt.of (bk BK493)); rintro e w48 ⟨rfl, hb⟩; replace BK493 := bb BK493 hb; replace BK498 := bb BK498 hb; replace HB := bs HB hb; (try clear hb); have hz49 := cs9_ BK498) | (go_at_call 94; (with_reducible refine (impl_MachineOk_1.calls ((rd_T134 l0_4 x46_2).f0) ((rd_T134 l0_4 x46_2).f1.f0) ((rd_T134 l0_4 x46_2).f1.f1) ((rd_T134 l0_4 x46_2).f1.f2) ((rd_T134 l0_4 x46_2).f2) ((rd_T134 l0_4 x46_2).f3) ((rd_T134 l0_4 x46_2).f4) ((rd_T134 l0_4 x46_2).f5.f0) _ _ ((rd_T134 l0_4 x46_2).f5.f1) ((rd_T134 l0_4 x46_2).f4) gb493 a0_3 true _ (kc HR497_8 HB) HC497_8.out ?side3 A40.out).mono ?_); (case side3 => exact TimeAt.of (bk BK493)); rintro e w50 ⟨rfl, hb⟩; replace BK493 := bb BK493 hb; replace BK498 := bb BK498 hb; replace HB := bs HB hb; (try clear hb)))
      go_roundg k2
      case measure => have := HJ1.out; have := HK2.out; omega
      case rel => exact ⟨(wrap64 (x46_2 + 1)), rsd, H', ⟨by have := HJ1.out; have := HK2.out; omega⟩, ⟨by (with_reducible repeat (first | refine blk_drewN ?_ _ | refine blk_drew ?_ | refine blk_alloc ?_ _)); exact BK493.out⟩, ⟨tb HB⟩⟩
     have H' := Aside0.mk H
     clear H
     have hz80 := cs8_ BK493
     go_wp2
     go_loopg [90] k2 (fun kq v90 w' => ∃ (x90_3 : Int), v90 = .int .i64 x90_3 ∧ Aside0 (impl_MachineOk.l1 kq (l0_2.length : Int) l0_2 (l0_2.length : Int) x90_3 l0_0 l0_1 l0_2 a0_3 l0_4 l0_5 l0_6 a0_7 = some r) ∧ Aside0 (kq ≤ k2) ∧ Aside0 (w'.heap[gb493]? = some (.cells #[(.slice A0_0 l0_0.length c0_0), (.slice A0_1 l0_1.length c0_1), (.slice A0_2 l0_2.length c0_2), .int .i64 a0_3, (.slice A0_4 l0_4.length c0_4), (.slice A0_5 l0_5.length c0_5), (.slice A0_6 l0_6.length c0_6), .int .i64 a0_7] 75 (0, 0))) ∧ Aside0 (Below w.heap.size w w'))
     case atStart => exact ⟨(0), rsd, H', ⟨Nat.le_refl _⟩, ⟨by (with_reducible repeat (first | refine blk_drewN ?_ _ | refine blk_drew ?_ | refine blk_alloc ?_ _)); exact BK493.out⟩, ⟨tb HB⟩⟩
     case round =>
      clear H'
      try clear c1
      try clear c2
      try clear p2
      try clear c3
      try clear c4
      try clear p4
      try clear q4
      try clear hx4
      try clear c5
      try clear c6
      try clear p6
      try clear c7
      try clear c7b0
      try clear c7b1
      try clear c7b2
      try clear c9
      try clear c10
      try clear c10b0
      try clear c10b1
      try clear c22
      try clear c27
      try clear c29
      try clear c29b0
      try clear c30
      try clear c30b0
      try clear c31
      try clear c31b0
      try clear c33
      try clear c35
      try clear c37
      try clear c39
      try clear c41
      try clear c43
      try clear c49
      try clear p49
      try clear q49
      try clear hx49
      try clear c52
      try clear c61
      try clear c62
      try clear p64
      try clear c68
      try clear c74
      try clear c78
      try clear hz11
      try clear hz13
      try clear hz15
      try clear hz17
      try clear hz19
      try clear hz21
      try clear hz22
      try clear hz24
      try clear hz25
      try clear hz28
      try clear hz44
      try clear hz46
      try clear hz47
      try clear hz49
      try clear hz4
      try clear hz53
      try clear hz55
      try clear hz56
      try clear hz58
      try clear hz62
      try clear hz64
      try clear hz65
      try clear hz69
      try clear hz71
      try clear hz72
      try clear hz75
      try clear hz79
      try clear hz80
      try clear hz11
      try clear hz13
      try clear hz15
      try clear hz17
      try clear hz19
      try clear hz21
      try clear hz22
      try clear hz24
      try clear hz25
      try clear hz28
      try clear hz44
      try clear hz46
      try clear hz47
      try clear hz49
      try clear hz4
      try clear hz53
      try clear hz55
      try clear hz56
      try clear hz58
      try clear hz62
      try clear hz64
      try clear hz65
      try clear hz69
      try clear hz71
      try clear hz72
      try clear hz75
      try clear hz79
      try clear hz80
      try clear hx497_0
      try clear hx497_1
      try clear hx497_2
      try clear hx497_3
      try clear hx497_4
      try clear hx497_5
      try clear hx497_6
      try clear hx497_7
      try clear hx497_8
      try clear p2
      try clear p497
      try clear q497
      obtain ⟨x90_3, rfl, HA, HK3, BK493, HB⟩ := hrel
      cases gk with
      | zero => exact absurd HA.out (by simp [impl_MachineOk.l1])
      | succ k3 =>
       have H := HA.out
       clear HA
       simp only [impl_MachineOk.l1] at H
       revert H; refine icd (fun c81b0 H => ?_) fun c81b0 H => ?neg
       case neg =>
        obtain ⟨t504, A104, H⟩ := bn H
        try dsimp only at H
        obtain rfl := oin H
        have hz105 := cs8_ BK493
        go_wp2_with (first | ((with_reducible refine gf 97 rfl ?_); refine gL 107 Tryz.func97 #[.agg #[.slice A0_0 l0_0.length c0_0, .slice A0_1 l0_1.length c0_1, .slice A0_2 l0_2.length c0_2, .int .i64 a0_3, .slice A0_4 l0_4.length c0_4, .slice A0_5 l0_5.length c0_5, .slice A0_6 l0_6.length c0_6, .int .i64 a0_7]] ?_; (with_reducible refine (impl_orderOk.calls k3 _ _ l0_0 _ _ l0_1 _ _ l0_2 a0_3 _ _ l0_4 _ _ l0_5 _ _ l0_6 a0_7 t504 _ (kc HR0_0 HB) HC0_0.out (kc HR0_1 HB) HC0_1.out (kc HR0_2 HB) HC0_2.out (kc HR0_4 HB) HC0_4.out (kc HR0_5 HB) HC0_5.out (kc HR0_6 HB) HC0_6.out A104.out).mono ?_); rintro e w106 ⟨rfl, hb⟩; refine ⟨_, rfl, ?_⟩; replace BK493 := bb BK493 hb; replace HB := bs HB hb; (try clear hb)))
        go_ret
        exact ⟨er, tb HB⟩
       obtain ⟨c82b0, H⟩ := itd H
       obtain ⟨c83b0, H⟩ := itd H
       obtain ⟨t507, A84, H⟩ := bn H
       try dsimp only at H
       cases t507
       case false =>
        replace H := ipf H
        obtain rfl := oin H
        have p505 : 0 ≤ (x90_3 : Int) := od
        have q505 : x90_3 < (l0_2.length : Int) := od
        obtain ⟨ad505, A505_0, c505_0, A505_3, c505_3, A505_4, c505_4, e505, hx505, hl505_0, hi505_0, hl505_3, hi505_3, hl505_4, hi505_4⟩ := att82 HR0_2.out x90_3 p505 q505
        cases e505
        replace hx505 := ox5 HB hx505
        have HR505_0 := Aside0.mk hi505_0
        have HC505_0 := Aside0.mk hl505_0
        clear hi505_0 hl505_0
        have HR505_3 := Aside0.mk hi505_3
        have HC505_3 := Aside0.mk hl505_3
        clear hi505_3 hl505_3
        have HR505_4 := Aside0.mk hi505_4
        have HC505_4 := Aside0.mk hl505_4
        clear hi505_4 hl505_4
        replace p505 := eq_true p505
        replace q505 := eq_true q505
        go_wp2_with (first | ((with_reducible refine gq 8 rfl ?_); (try (refine gate_guard (by rfl) ?_; dsimp only)); refine bx1 HB BK493 (N := 8) (cs := #[.slice none 0 0, .int .i64 0, .bool false, .slice none 0 0, .slice none 0 0]) (t := 82) ?_; clear HB BK493; intro gb506 w100 BK506 GE506 HB NB493_506 NB506_493 BK493; have hnb101 := NB506_493.out; have hnc101 := NB493_506.out; have hz102 := cs5_ BK506) | ((with_reducible refine gf 47 rfl ?_); refine gL 97 Tryz.func47 #[.agg #[.slice A505_0 ((rd_T82 l0_2 x90_3).f0).length c505_0, .int .i64 ((rd_T82 l0_2 x90_3).f1), .bool ((rd_T82 l0_2 x90_3).f2), .slice A505_3 ((rd_T82 l0_2 x90_3).f3).length c505_3, .slice A505_4 ((rd_T82 l0_2 x90_3).f4).length c505_4], .int .i64 (l0_2.length : Int)] ?_; (with_reducible refine (impl_ThreadOk.calls k3 _ _ ((rd_T82 l0_2 x90_3).f0) ((rd_T82 l0_2 x90_3).f1) ((rd_T82 l0_2 x90_3).f2) _ _ ((rd_T82 l0_2 x90_3).f3) _ _ ((rd_T82 l0_2 x90_3).f4) (l0_2.length : Int) false _ ?side1 HC505_0.out ?side3 HC505_3.out ?side5 HC505_4.out A84.out).mono ?_); (case side1 => exact Kd.C_below HR505_0.out (tb HB)); (case side3 => exact Kd.C_below HR505_3.out (tb HB)); (case side5 => exact Kd.C_below HR505_4.out (tb HB)); rintro e w103 ⟨rfl, hb⟩; refine ⟨_, rfl, ?_⟩; replace BK493 := bbf BK493 hb; replace BK506 := bbp5 BK506 hb; replace HB := bs HB hb; (try clear hb)))
        go_ret
        exact ⟨er, tb HB⟩
       replace H := ipt H
       obtain ⟨t508, A86, H⟩ := bn H
       try dsimp only at H
       cases t508
       case false =>
        replace H := ipf H
        obtain rfl := oin H
        have p505 : 0 ≤ (x90_3 : Int) := od
        have q505 : x90_3 < (l0_2.length : Int) := od
        obtain ⟨ad505, A505_0, c505_0, A505_3, c505_3, A505_4, c505_4, e505, hx505_0, hx505_1, hx505_2, hx505_3, hx505_4, hl505_0, hi505_0, hl505_3, hi505_3, hl505_4, hi505_4⟩ := at_T82 HR0_2.out x90_3 p505 q505
        cases e505
        replace hx505_0 := ox HB hx505_0
        replace hx505_1 := ox HB hx505_1
        replace hx505_2 := ox HB hx505_2
        replace hx505_3 := ox HB hx505_3
        replace hx505_4 := ox HB hx505_4
        have HR505_0 := Aside0.mk hi505_0
        have HC505_0 := Aside0.mk hl505_0
        clear hi505_0 hl505_0
        have HR505_3 := Aside0.mk hi505_3
        have HC505_3 := Aside0.mk hl505_3
        clear hi505_3 hl505_3
        have HR505_4 := Aside0.mk hi505_4
        have HC505_4 := Aside0.mk hl505_4
        clear hi505_4 hl505_4
        replace p505 := eq_true p505
        replace q505 := eq_true q505
        go_wp2_with (first | ((with_reducible refine gq 8 rfl ?_); (try (refine gate_guard (by rfl) ?_; dsimp only)); refine bx1 HB BK493 (N := 8) (cs := #[.slice none 0 0, .int .i64 0, .bool false, .slice none 0 0, .slice none 0 0]) (t := 82) ?_; clear HB BK493; intro gb506 w94 BK506 GE506 HB NB493_506 NB506_493 BK493; have hnb95 := NB506_493.out; have hnc95 := NB493_506.out; have hz96 := cs5_ BK506) | ((with_reducible refine gf 47 rfl ?_); refine gL 97 Tryz.func47 #[.agg #[.slice A505_0 ((rd_T82 l0_2 x90_3).f0).length c505_0, .int .i64 ((rd_T82 l0_2 x90_3).f1), .bool ((rd_T82 l0_2 x90_3).f2), .slice A505_3 ((rd_T82 l0_2 x90_3).f3).length c505_3, .slice A505_4 ((rd_T82 l0_2 x90_3).f4).length c505_4], .int .i64 (l0_2.length : Int)] ?_; (with_reducible refine (impl_ThreadOk.calls k3 _ _ ((rd_T82 l0_2 x90_3).f0) ((rd_T82 l0_2 x90_3).f1) ((rd_T82 l0_2 x90_3).f2) _ _ ((rd_T82 l0_2 x90_3).f3) _ _ ((rd_T82 l0_2 x90_3).f4) (l0_2.length : Int) true _ ?side1 HC505_0.out ?side3 HC505_3.out ?side5 HC505_4.out A84.out).mono ?_); (case side1 => exact Kd.C_below HR505_0.out (tb HB)); (case side3 => exact Kd.C_below HR505_3.out (tb HB)); (case side5 => exact Kd.C_below HR505_4.out (tb HB)); rintro e w97 ⟨rfl, hb⟩; refine ⟨_, rfl, ?_⟩; replace BK493 := bbf BK493 hb; replace BK506 := bbp5 BK506 hb; replace HB := bs HB hb; (try clear hb); have hz98 := cs8_ BK493) | (go_at_call 96; (with_reducible refine (impl_callsOk.calls k3 _ _ l0_0 _ _ l0_1 _ _ l0_2 a0_3 _ _ l0_4 _ _ l0_5 _ _ l0_6 a0_7 x90_3 false _ (kc HR0_0 HB) HC0_0.out (kc HR0_1 HB) HC0_1.out (kc HR0_2 HB) HC0_2.out (kc HR0_4 HB) HC0_4.out (kc HR0_5 HB) HC0_5.out (kc HR0_6 HB) HC0_6.out A86.out).mono ?_); rintro e w99 ⟨rfl, hb⟩; replace BK493 := bb BK493 hb; replace BK506 := bb BK506 hb; replace HB := bs HB hb; (try clear hb)))
        go_ret
        exact ⟨er, tb HB⟩
       replace H := ipt H
       have H' := Aside0.mk H
       clear H
       have p505 : 0 ≤ (x90_3 : Int) := od
       have q505 : x90_3 < (l0_2.length : Int) := od
       obtain ⟨ad505, A505_0, c505_0, A505_3, c505_3, A505_4, c505_4, e505, hx505_0, hx505_1, hx505_2, hx505_3, hx505_4, hl505_0, hi505_0, hl505_3, hi505_3, hl505_4, hi505_4⟩ := at_T82 HR0_2.out x90_3 p505 q505
       cases e505
       replace hx505_0 := ox HB hx505_0
       replace hx505_1 := ox HB hx505_1
       replace hx505_2 := ox HB hx505_2
       replace hx505_3 := ox HB hx505_3
       replace hx505_4 := ox HB hx505_4
       have HR505_0 := Aside0.mk hi505_0
       have HC505_0 := Aside0.mk hl505_0
       clear hi505_0 hl505_0
       have HR505_3 := Aside0.mk hi505_3
       have HC505_3 := Aside0.mk hl505_3
       clear hi505_3 hl505_3
       have HR505_4 := Aside0.mk hi505_4
       have HC505_4 := Aside0.mk hl505_4
       clear hi505_4 hl505_4
       replace p505 := eq_true p505
       replace q505 := eq_true q505
       go_wp2_with (first | ((with_reducible refine gq 8 rfl ?_); (try (refine gate_guard (by rfl) ?_; dsimp only)); refine bx1 HB BK493 (N := 8) (cs := #[.slice none 0 0, .int .i64 0, .bool false, .slice none 0 0, .slice none 0 0]) (t := 82) ?_; clear HB BK493; intro gb506 w88 BK506 GE506 HB NB493_506 NB506_493 BK493; have hnb89 := NB506_493.out; have hnc89 := NB493_506.out; have hz90 := cs5_ BK506) | ((with_reducible refine gf 47 rfl ?_); refine gL 97 Tryz.func47 #[.agg #[.slice A505_0 ((rd_T82 l0_2 x90_3).f0).length c505_0, .int .i64 ((rd_T82 l0_2 x90_3).f1), .bool ((rd_T82 l0_2 x90_3).f2), .slice A505_3 ((rd_T82 l0_2 x90_3).f3).length c505_3, .slice A505_4 ((rd_T82 l0_2 x90_3).f4).length c505_4], .int .i64 (l0_2.length : Int)] ?_; (with_reducible refine (impl_ThreadOk.calls k3 _ _ ((rd_T82 l0_2 x90_3).f0) ((rd_T82 l0_2 x90_3).f1) ((rd_T82 l0_2 x90_3).f2) _ _ ((rd_T82 l0_2 x90_3).f3) _ _ ((rd_T82 l0_2 x90_3).f4) (l0_2.length : Int) true _ ?side1 HC505_0.out ?side3 HC505_3.out ?side5 HC505_4.out A84.out).mono ?_); (case side1 => exact Kd.C_below HR505_0.out (tb HB)); (case side3 => exact Kd.C_below HR505_3.out (tb HB)); (case side5 => exact Kd.C_below HR505_4.out (tb HB)); rintro e w91 ⟨rfl, hb⟩; refine ⟨_, rfl, ?_⟩; replace BK493 := bbf BK493 hb; replace BK506 := bbp5 BK506 hb; replace HB := bs HB hb; (try clear hb); have hz92 := cs8_ BK493) | (go_at_call 96; (with_reducible refine (impl_callsOk.calls k3 _ _ l0_0 _ _ l0_1 _ _ l0_2 a0_3 _ _ l0_4 _ _ l0_5 _ _ l0_6 a0_7 x90_3 true _ (kc HR0_0 HB) HC0_0.out (kc HR0_1 HB) HC0_1.out (kc HR0_2 HB) HC0_2.out (kc HR0_4 HB) HC0_4.out (kc HR0_5 HB) HC0_5.out (kc HR0_6 HB) HC0_6.out A86.out).mono ?_); rintro e w93 ⟨rfl, hb⟩; replace BK493 := bb BK493 hb; replace BK506 := bb BK506 hb; replace HB := bs HB hb; (try clear hb)))
       go_roundg k3
       case measure => have := HJ1.out; have := HK2.out; have := HK3.out; omega
       case rel => exact ⟨(wrap64 (x90_3 + 1)), rsd, H', ⟨by have := HJ1.out; have := HK2.out; have := HK3.out; omega⟩, ⟨by (with_reducible repeat (first | refine blk_drewN ?_ _ | refine blk_drew ?_ | refine blk_alloc ?_ _)); exact BK493.out⟩, ⟨tb HB⟩⟩
def laws_eqIntS.l0 : Nat → List Int → List Int → Int → Option (Bool)
 | 0, _, _, _ => none
 | k + 1, x0, x1, x5 => if x5 < (x0.length : Int) then (if 0 ≤ x5 then (if x5 < (x1.length : Int) then (if (rd x0 x5) = (rd x1 x5) then (laws_eqIntS.l0 k x0 x1 (wrap64 (x5 + 1))) else (some false)) else (none)) else (none)) else (some true)
def laws_eqIntS.f (k : Nat) (l0 : List Int) (l1 : List Int) : Option (Bool) := if (l0.length : Int) = (l1.length : Int) then (laws_eqIntS.l0 k l0 l1 0) else (some false)
set_option maxHeartbeats 8000000 in
set_option maxRecDepth 100000 in
theorem laws_eqIntS.calls (k : Nat) (A0 : Option Addr) (c0 : Nat) (l0 : List Int) (A1 : Option Addr) (c1 : Nat) (l1 : List Int) (r : Bool) (w : World) (hr0 : Kd.C (Kd.int .i64) w A0 l0.length l0) (hc0 : l0.length ≤ c0) (hr1 : Kd.C (Kd.int .i64) w A1 l1.length l1) (hc1 : l1.length ≤ c1) (h : laws_eqIntS.f k l0 l1 = some r) :
  Calls Tryz.prog 101 #[.slice A0 l0.length c0, .slice A1 l1.length c1] w fun e w' => e = .returned (.bool r) ∧ Drawn0 w w' := by
 have HR0 := Aside0.mk hr0
 have HC0 := Aside0.mk hc0
 clear hr0 hc0
 have HR1 := Aside0.mk hr1
 have HC1 := Aside0.mk hc1
 clear hr1 hc1
 have H := h
 clear h
 unfold laws_eqIntS.f at H
 by_cases c3 : (l0.length : Int) = (l1.length : Int)
 case neg =>
  rw [if_neg c3] at H
  have c3b0 : ((l0.length : Int) == (l1.length : Int)) = false := beq_eq_false_iff_ne.mpr c3
  have c3b1 : ((l0.length : Int) != (l1.length : Int)) = true := bne_iff_ne.mpr c3
  have c3b2 : (l0.length == l1.length) = false := by first | simpa using c3 | (simp at c3 ⊢; omega)
  obtain rfl := oin H
  go_enter Tryz.func101, Tryz.ntmps101
  go_wp2
  repeat (go_quiet (fail); try go_wp2)
  go_ret
  exact ⟨rsd, by repeat (first | exact Drawn0.refl _ | apply Drawn0.step)⟩
 
 
 rw [if_pos c3] at H
 have c3b0 : ((l0.length : Int) == (l1.length : Int)) = true := beq_iff_eq.mpr c3
 have c3b1 : ((l0.length : Int) != (l1.length : Int)) = false := bne_eq_false_iff_eq.mpr c3
 have c3b2 : (l0.length == l1.length) = true := by first | simpa using c3 | (simp at c3 ⊢; omega)
 clear c3
 have H' := Aside0.mk H
 clear H
 go_enter Tryz.func101, Tryz.ntmps101
 go_wp2
 repeat (go_quiet (fail); try go_wp2)
 go_loopg [5] k (fun kq v5 w' => ∃ (x5_1 : Int), v5 = .int .i64 x5_1 ∧ Aside0 (laws_eqIntS.l0 kq l0 l1 x5_1 = some r) ∧ Aside0 (kq ≤ k) ∧ Drawn0 w w')
 case atStart => exact ⟨(0), rsd, H', ⟨Nat.le_refl _⟩, by repeat (first | exact Drawn0.refl _ | apply Drawn0.step)⟩
 case round =>
  clear H'
  try clear c1
  try clear p2
  try clear c3
  try clear c3b0
  try clear c3b1
  try clear c3b2
  obtain ⟨x5_1, rfl, HA, HK1, ⟨m1, rfl⟩⟩ := hrel
  cases gk with
  | zero => exact absurd HA.out (by simp [laws_eqIntS.l0])
  | succ k1 =>
   have H := HA.out
   clear HA
   simp only [laws_eqIntS.l0] at H
   revert H; refine icd (fun c4b0 H => ?_) fun c4b0 H => ?neg
   case neg =>
    obtain rfl := oin H
    go_wp2
    repeat (go_quiet (fail); try go_wp2)
    go_ret
    exact ⟨rsd, by repeat (first | exact Drawn0.refl _ | apply Drawn0.step)⟩
   obtain ⟨c5b0, H⟩ := itd H
   obtain ⟨c6b0, H⟩ := itd H
   by_cases c7 : (rd l0 x5_1) = (rd l1 x5_1)
   case neg =>
    rw [if_neg c7] at H
    have c7b0 : ((rd l0 x5_1) == (rd l1 x5_1)) = false := beq_eq_false_iff_ne.mpr c7
    have c7b1 : ((rd l0 x5_1) != (rd l1 x5_1)) = true := bne_iff_ne.mpr c7
    obtain rfl := oin H
    have p514 : 0 ≤ (x5_1 : Int) := od
    have q514 : x5_1 < (l0.length : Int) := od
    obtain ⟨ad514, e514, hx514_0⟩ := Kd.at_int HR0.out x5_1 p514 q514
    cases e514
    replace p514 := eq_true p514
    replace q514 := eq_true q514
    have p515 : 0 ≤ (x5_1 : Int) := od
    have q515 : x5_1 < (l1.length : Int) := od
    obtain ⟨ad515, e515, hx515_0⟩ := Kd.at_int HR1.out x5_1 p515 q515
    cases e515
    replace p515 := eq_true p515
    replace q515 := eq_true q515
    go_wp2
    repeat (go_quiet (fail); try go_wp2)
    go_ret
    exact ⟨rsd, by repeat (first | exact Drawn0.refl _ | apply Drawn0.step)⟩
   rw [if_pos c7] at H
   have c7b0 : ((rd l0 x5_1) == (rd l1 x5_1)) = true := beq_iff_eq.mpr c7
   have c7b1 : ((rd l0 x5_1) != (rd l1 x5_1)) = false := bne_eq_false_iff_eq.mpr c7
   clear c7
   have H' := Aside0.mk H
   clear H
   have p514 : 0 ≤ (x5_1 : Int) := od
   have q514 : x5_1 < (l0.length : Int) := od
   obtain ⟨ad514, e514, hx514_0⟩ := Kd.at_int HR0.out x5_1 p514 q514
   cases e514
   replace p514 := eq_true p514
   replace q514 := eq_true q514
   have p515 : 0 ≤ (x5_1 : Int) := od
   have q515 : x5_1 < (l1.length : Int) := od
   obtain ⟨ad515, e515, hx515_0⟩ := Kd.at_int HR1.out x5_1 p515 q515
   cases e515
   replace p515 := eq_true p515
   replace q515 := eq_true q515
   go_wp2
   repeat (go_quiet (fail); try go_wp2)
   go_roundg k1
   case measure => have := HK1.out; omega
   case rel => exact ⟨(wrap64 (x5_1 + 1)), rsd, H', ⟨by have := HK1.out; omega⟩, by repeat (first | exact Drawn0.refl _ | apply Drawn0.step)⟩
def laws_eqWord.f (a0_0 : Int) (a0_1 : Int) (a0_2 : Int) (a1_0 : Int) (a1_1 : Int) (a1_2 : Int) : Option (Bool) := if a0_0 = a1_0 then (if a0_1 = a1_1 then (if a0_2 = a1_2 then (some true) else (some false)) else (some false)) else (some false)
set_option maxHeartbeats 8000000 in
set_option maxRecDepth 100000 in
theorem laws_eqWord.calls (a0_0 : Int) (a0_1 : Int) (a0_2 : Int) (a1_0 : Int) (a1_1 : Int) (a1_2 : Int) (r : Bool) (w : World) (h : laws_eqWord.f a0_0 a0_1 a0_2 a1_0 a1_1 a1_2 = some r) :
  Calls Tryz.prog 182 #[.agg #[.int .i64 a0_0, .int .i64 a0_1, .int .i64 a0_2], .agg #[.int .i64 a1_0, .int .i64 a1_1, .int .i64 a1_2]] w fun e w' => e = .returned (.bool r) ∧ Below w.heap.size w w' := by
 have hu39 := Tryz.underlying39
 have HB := Aside0.mk (Below.refl w.heap.size w)
 have H := h
 clear h
 unfold laws_eqWord.f at H
 by_cases c3 : a0_0 = a1_0
 case neg =>
  rw [if_neg c3] at H
  have c3b0 : (a0_0 == a1_0) = false := beq_eq_false_iff_ne.mpr c3
  have c3b1 : (a0_0 != a1_0) = true := bne_iff_ne.mpr c3
  obtain rfl := oin H
  go_enter Tryz.func182, Tryz.ntmps182
  go_wp2_with (first | ((with_reducible refine gq 2 rfl ?_); refine bx0 HB (N := 2) (t := 39) ?_; clear HB; intro gb509 w21 BK509 GE509 HB) | ((with_reducible refine gq 3 rfl ?_); refine bx1 HB BK509 (N := 3) (t := 39) ?_; clear HB BK509; intro gb510 w22 BK510 GE510 HB NB509_510 NB510_509 BK509; have hnb23 := NB509_510.out; have hnc23 := NB510_509.out; have hz24 := cs3_ BK509; have hz25 := cs3_ BK510))
  go_ret
  exact ⟨er, tb HB⟩
 
 
 rw [if_pos c3] at H
 have c3b0 : (a0_0 == a1_0) = true := beq_iff_eq.mpr c3
 have c3b1 : (a0_0 != a1_0) = false := bne_eq_false_iff_eq.mpr c3
 clear c3
 by_cases c4 : a0_1 = a1_1
 case neg =>
  rw [if_neg c4] at H
  have c4b0 : (a0_1 == a1_1) = false := beq_eq_false_iff_ne.mpr c4
  have c4b1 : (a0_1 != a1_1) = true := bne_iff_ne.mpr c4
  obtain rfl := oin H
  go_enter Tryz.func182, Tryz.ntmps182
  go_wp2_with (first | ((with_reducible refine gq 2 rfl ?_); refine bx0 HB (N := 2) (t := 39) ?_; clear HB; intro gb509 w16 BK509 GE509 HB) | ((with_reducible refine gq 3 rfl ?_); refine bx1 HB BK509 (N := 3) (t := 39) ?_; clear HB BK509; intro gb510 w17 BK510 GE510 HB NB509_510 NB510_509 BK509; have hnb18 := NB509_510.out; have hnc18 := NB510_509.out; have hz19 := cs3_ BK509; have hz20 := cs3_ BK510))
  go_ret
  exact ⟨er, tb HB⟩
 rw [if_pos c4] at H
 have c4b0 : (a0_1 == a1_1) = true := beq_iff_eq.mpr c4
 have c4b1 : (a0_1 != a1_1) = false := bne_eq_false_iff_eq.mpr c4
 clear c4
 by_cases c5 : a0_2 = a1_2
 case neg =>
  rw [if_neg c5] at H
  have c5b0 : (a0_2 == a1_2) = false := beq_eq_false_iff_ne.mpr c5
  have c5b1 : (a0_2 != a1_2) = true := bne_iff_ne.mpr c5
  obtain rfl := oin H
  go_enter Tryz.func182, Tryz.ntmps182
  go_wp2_with (first | ((with_reducible refine gq 2 rfl ?_); refine bx0 HB (N := 2) (t := 39) ?_; clear HB; intro gb509 w11 BK509 GE509 HB) | ((with_reducible refine gq 3 rfl ?_); refine bx1 HB BK509 (N := 3) (t := 39) ?_; clear HB BK509; intro gb510 w12 BK510 GE510 HB NB509_510 NB510_509 BK509; have hnb13 := NB509_510.out; have hnc13 := NB510_509.out; have hz14 := cs3_ BK509; have hz15 := cs3_ BK510))
  go_ret
  exact ⟨er, tb HB⟩
 rw [if_pos c5] at H
 have c5b0 : (a0_2 == a1_2) = true := beq_iff_eq.mpr c5
 have c5b1 : (a0_2 != a1_2) = false := bne_eq_false_iff_eq.mpr c5
 clear c5
 obtain rfl := oin H
 go_enter Tryz.func182, Tryz.ntmps182
 go_wp2_with (first | ((with_reducible refine gq 2 rfl ?_); refine bx0 HB (N := 2) (t := 39) ?_; clear HB; intro gb509 w6 BK509 GE509 HB) | ((with_reducible refine gq 3 rfl ?_); refine bx1 HB BK509 (N := 3) (t := 39) ?_; clear HB BK509; intro gb510 w7 BK510 GE510 HB NB509_510 NB510_509 BK509; have hnb8 := NB509_510.out; have hnc8 := NB510_509.out; have hz9 := cs3_ BK509; have hz10 := cs3_ BK510))
 go_ret
 exact ⟨er, tb HB⟩
def laws_eqWordS.l0 : Nat → List (S39) → List (S39) → Int → Option (Bool)
 | 0, _, _, _ => none
 | k + 1, x0, x1, x5 => if x5 < (x0.length : Int) then (if 0 ≤ x5 then (if x5 < (x1.length : Int) then ((laws_eqWord.f ((rd_T39 x0 x5).f0) ((rd_T39 x0 x5).f1) ((rd_T39 x0 x5).f2) ((rd_T39 x1 x5).f0) ((rd_T39 x1 x5).f1) ((rd_T39 x1 x5).f2)).bind fun t513 => (if t513 = true then (laws_eqWordS.l0 k x0 x1 (wrap64 (x5 + 1))) else (some false))) else (none)) else (none)) else (some true)
def laws_eqWordS.f (k : Nat) (l0 : List (S39)) (l1 : List (S39)) : Option (Bool) := if (l0.length : Int) = (l1.length : Int) then (laws_eqWordS.l0 k l0 l1 0) else (some false)
def laws_eqWordS.T6 : Bool × List (List Nat × List Nat) := (true, [([], []), ([], []), ([0, 1], [0, 1]), ([2], [2]), ([], []), ([], []), ([4, 5], [4, 5]), ([6], [6]), ([3, 7], [3, 7]), ([8], [8])])
def laws_eqWordS.B6 : List Nat := [0, 0, 3, 7, 0, 0, 48, 112, 255, 511]
theorem laws_eqWordS.tab6 : rtab .any (opsOf Tryz.f152 6) = laws_eqWordS.T6 := by kernel_rfl
theorem laws_eqWordS.bits6 : waitsOk laws_eqWordS.T6.2 laws_eqWordS.B6 = true := by kernel_rfl
set_option maxHeartbeats 8000000 in
set_option maxRecDepth 100000 in
theorem laws_eqWordS.calls (k : Nat) (A0 : Option Addr) (c0 : Nat) (l0 : List (S39)) (A1 : Option Addr) (c1 : Nat) (l1 : List (S39)) (r : Bool) (w : World) (hr0 : Kd.C k39 w A0 l0.length l0) (hc0 : l0.length ≤ c0) (hr1 : Kd.C k39 w A1 l1.length l1) (hc1 : l1.length ≤ c1) (h : laws_eqWordS.f k l0 l1 = some r) :
  Calls Tryz.prog 152 #[.slice A0 l0.length c0, .slice A1 l1.length c1] w fun e w' => e = .returned (.bool r) ∧ Below w.heap.size w w' := by
 have hu39 := Tryz.underlying39
 have HR0 := Aside0.mk hr0
 have HC0 := Aside0.mk hc0
 clear hr0 hc0
 have HR1 := Aside0.mk hr1
 have HC1 := Aside0.mk hc1
 clear hr1 hc1
 have HB := Aside0.mk (Below.refl w.heap.size w)
 have H := h
 clear h
 unfold laws_eqWordS.f at H
 by_cases c3 : (l0.length : Int) = (l1.length : Int)
 case neg =>
  rw [if_neg c3] at H
  have c3b0 : ((l0.length : Int) == (l1.length : Int)) = false := beq_eq_false_iff_ne.mpr c3
  have c3b1 : ((l0.length : Int) != (l1.length : Int)) = true := bne_iff_ne.mpr c3
  have c3b2 : (l0.length == l1.length) = false := by first | simpa using c3 | (simp at c3 ⊢; omega)
  obtain rfl := oin H
  go_enter Tryz.func152, Tryz.ntmps152
  go_wp2
  go_ret
  exact ⟨er, tb HB⟩
 
 
 rw [if_pos c3] at H
 have c3b0 : ((l0.length : Int) == (l1.length : Int)) = true := beq_iff_eq.mpr c3
 have c3b1 : ((l0.length : Int) != (l1.length : Int)) = false := bne_eq_false_iff_eq.mpr c3
 have c3b2 : (l0.length == l1.length) = true := by first | simpa using c3 | (simp at c3 ⊢; omega)
 clear c3
 have H' := Aside0.mk H
 clear H
 go_enter Tryz.func152, Tryz.ntmps152
 go_wp2
 go_loopg [5] k (fun kq v5 w' => ∃ (x5_1 : Int), v5 = .int .i64 x5_1 ∧ Aside0 (laws_eqWordS.l0 kq l0 l1 x5_1 = some r) ∧ Aside0 (kq ≤ k) ∧ Aside0 (Below w.heap.size w w'))
 case atStart => exact ⟨(0), rsd, H', ⟨Nat.le_refl _⟩, ⟨tb HB⟩⟩
 case round =>
  clear H'
  try clear c1
  try clear p2
  try clear c3
  try clear c3b0
  try clear c3b1
  try clear c3b2
  obtain ⟨x5_1, rfl, HA, HK1, HB⟩ := hrel
  cases gk with
  | zero => exact absurd HA.out (by simp [laws_eqWordS.l0])
  | succ k1 =>
   have H := HA.out
   clear HA
   simp only [laws_eqWordS.l0] at H
   revert H; refine icd (fun c4b0 H => ?_) fun c4b0 H => ?neg
   case neg =>
    obtain rfl := oin H
    go_wp2
    go_ret
    exact ⟨er, tb HB⟩
   obtain ⟨c5b0, H⟩ := itd H
   obtain ⟨c6b0, H⟩ := itd H
   obtain ⟨t513, A7, H⟩ := bn H
   try dsimp only at H
   cases t513
   case false =>
    replace H := ipf H
    obtain rfl := oin H
    try go_wp2
    replace HB := Aside0.mk (below_drew1 HB.out)
    have p511 : 0 ≤ (x5_1 : Int) := od
    have q511 : x5_1 < (l0.length : Int) := od
    obtain ⟨ad511, e511, hx511⟩ := att39 HR0.out x5_1 p511 q511
    have hw511 := hx511
    cases e511
    replace hx511 := ox3 HB hx511
    replace p511 := eq_true p511
    replace q511 := eq_true q511
    have p512 : 0 ≤ (x5_1 : Int) := od
    have q512 : x5_1 < (l1.length : Int) := od
    obtain ⟨ad512, e512, hx512⟩ := att39 HR1.out x5_1 p512 q512
    have hw512 := hx512
    cases e512
    replace hx512 := ox3 HB hx512
    replace p512 := eq_true p512
    replace q512 := eq_true q512
    refine start_ (n := 10) (S := fun w' => eT39 (ad511.add ((x5_1).toNat * 3)) (rd_T39 l0 x5_1) w' ∧ eT39 (ad512.add ((x5_1).toNat * 3)) (rd_T39 l1 x5_1) w') (ds := []) #[false, false, false, false, false, false, false, false, false, false] (by kernel_rfl) rfl rfl ⟨(ox3 HB hw511 :), (ox3 HB hw512 :)⟩ (fun hHeld => ?_); refine with_tabW laws_eqWordS.tab6 laws_eqWordS.bits6 (fun HT_ HW_ => ?_)
    generalize wr.drew = w11 at HB hx511 hx512 hHeld ⊢
    refine pu 0 17 ?_; refine pu 1 18 ?_; refine pu 2 19 ?_; refine pu 4 21 ?_; refine pu 5 22 ?_; refine pu 6 23 ?_; refine ta 3 20 ?_; refine ta 7 24 ?_
    refine on1 8 (some 25) (fun K hK => ?_)
    refine gS Tryz.func182 #[.agg #[.int .i64 ((rd_T39 l0 x5_1).f0), .int .i64 ((rd_T39 l0 x5_1).f1), .int .i64 ((rd_T39 l0 x5_1).f2)], .agg #[.int .i64 ((rd_T39 l1 x5_1).f0), .int .i64 ((rd_T39 l1 x5_1).f1), .int .i64 ((rd_T39 l1 x5_1).f2)]] ?_
    with_reducible refine (laws_eqWord.calls ((rd_T39 l0 x5_1).f0) ((rd_T39 l0 x5_1).f1) ((rd_T39 l0 x5_1).f2) ((rd_T39 l1 x5_1).f0) ((rd_T39 l1 x5_1).f1) ((rd_T39 l1 x5_1).f2) false _ A7.out).mono ?_
    rintro e w12 ⟨rfl, hb⟩
    refine ⟨_, rfl, ?_⟩
    replace HB := bs HB hb
    (try clear hb)
    (try clear hb2)
    (try clear hk)
    (try clear hi)
    refine hK.out _ _ ⟨(ox3 HB hw511 :), (ox3 HB hw512 :)⟩ (fun hHeld => ?_)
    clear hK K
    refine nm 25 ?_
    refine pu 9 26 ?_
    refine done_ (done_of HT_.out (by kernel_rfl)) ?_
    try go_wp2
    go_ret
    exact ⟨er, tb HB⟩
   replace H := ipt H
   have H' := Aside0.mk H
   clear H
   try go_wp2
   replace HB := Aside0.mk (below_drew1 HB.out)
   have p511 : 0 ≤ (x5_1 : Int) := od
   have q511 : x5_1 < (l0.length : Int) := od
   obtain ⟨ad511, e511, hx511⟩ := att39 HR0.out x5_1 p511 q511
   have hw511 := hx511
   cases e511
   replace hx511 := ox3 HB hx511
   replace p511 := eq_true p511
   replace q511 := eq_true q511
   have p512 : 0 ≤ (x5_1 : Int) := od
   have q512 : x5_1 < (l1.length : Int) := od
   obtain ⟨ad512, e512, hx512⟩ := att39 HR1.out x5_1 p512 q512
   have hw512 := hx512
   cases e512
   replace hx512 := ox3 HB hx512
   replace p512 := eq_true p512
   replace q512 := eq_true q512
   refine start_ (n := 10) (S := fun w' => eT39 (ad511.add ((x5_1).toNat * 3)) (rd_T39 l0 x5_1) w' ∧ eT39 (ad512.add ((x5_1).toNat * 3)) (rd_T39 l1 x5_1) w') (ds := []) #[false, false, false, false, false, false, false, false, false, false] (by kernel_rfl) rfl rfl ⟨(ox3 HB hw511 :), (ox3 HB hw512 :)⟩ (fun hHeld => ?_); refine with_tabW laws_eqWordS.tab6 laws_eqWordS.bits6 (fun HT_ HW_ => ?_)
   generalize wr.drew = w9 at HB hx511 hx512 hHeld ⊢
   refine pu 0 17 ?_; refine pu 1 18 ?_; refine pu 2 19 ?_; refine pu 4 21 ?_; refine pu 5 22 ?_; refine pu 6 23 ?_; refine ta 3 20 ?_; refine ta 7 24 ?_
   refine on1 8 (some 25) (fun K hK => ?_)
   refine gS Tryz.func182 #[.agg #[.int .i64 ((rd_T39 l0 x5_1).f0), .int .i64 ((rd_T39 l0 x5_1).f1), .int .i64 ((rd_T39 l0 x5_1).f2)], .agg #[.int .i64 ((rd_T39 l1 x5_1).f0), .int .i64 ((rd_T39 l1 x5_1).f1), .int .i64 ((rd_T39 l1 x5_1).f2)]] ?_
   with_reducible refine (laws_eqWord.calls ((rd_T39 l0 x5_1).f0) ((rd_T39 l0 x5_1).f1) ((rd_T39 l0 x5_1).f2) ((rd_T39 l1 x5_1).f0) ((rd_T39 l1 x5_1).f1) ((rd_T39 l1 x5_1).f2) true _ A7.out).mono ?_
   rintro e w10 ⟨rfl, hb⟩
   refine ⟨_, rfl, ?_⟩
   replace HB := bs HB hb
   (try clear hb)
   (try clear hb2)
   (try clear hk)
   (try clear hi)
   refine hK.out _ _ ⟨(ox3 HB hw511 :), (ox3 HB hw512 :)⟩ (fun hHeld => ?_)
   clear hK K
   refine nm 25 ?_
   refine pu 9 26 ?_
   refine done_ (done_of HT_.out (by kernel_rfl)) ?_
   try go_wp2
   go_roundg k1
   case measure => have := HK1.out; omega
   case rel => exact ⟨(wrap64 (x5_1 + 1)), rsd, H', ⟨by have := HK1.out; omega⟩, ⟨tb HB⟩⟩
def laws_eqRes.f (k : Nat) (a0_0 : Int) (l0_1 : List Int) (a1_0 : Int) (l1_1 : List Int) : Option (Bool) := if a0_0 = a1_0 then ((laws_eqIntS.f k l0_1 l1_1).bind fun t518 => (if t518 = true then (some true) else (some false))) else (some false)
set_option maxHeartbeats 8000000 in
set_option maxRecDepth 100000 in
theorem laws_eqRes.calls (k : Nat) (a0_0 : Int) (A0_1 : Option Addr) (c0_1 : Nat) (l0_1 : List Int) (a1_0 : Int) (A1_1 : Option Addr) (c1_1 : Nat) (l1_1 : List Int) (r : Bool) (w : World) (hr0_1 : Kd.C (Kd.int .i64) w A0_1 l0_1.length l0_1) (hc0_1 : l0_1.length ≤ c0_1) (hr1_1 : Kd.C (Kd.int .i64) w A1_1 l1_1.length l1_1) (hc1_1 : l1_1.length ≤ c1_1) (h : laws_eqRes.f k a0_0 l0_1 a1_0 l1_1 = some r) :
  Calls Tryz.prog 188 #[.agg #[.int .i64 a0_0, .slice A0_1 l0_1.length c0_1], .agg #[.int .i64 a1_0, .slice A1_1 l1_1.length c1_1]] w fun e w' => e = .returned (.bool r) ∧ Below w.heap.size w w' := by
 have hu31 := Tryz.underlying31
 have HR0_1 := Aside0.mk hr0_1
 have HC0_1 := Aside0.mk hc0_1
 clear hr0_1 hc0_1
 have HR1_1 := Aside0.mk hr1_1
 have HC1_1 := Aside0.mk hc1_1
 clear hr1_1 hc1_1
 have HB := Aside0.mk (Below.refl w.heap.size w)
 have H := h
 clear h
 unfold laws_eqRes.f at H
 by_cases c3 : a0_0 = a1_0
 case neg =>
  rw [if_neg c3] at H
  have c3b0 : (a0_0 == a1_0) = false := beq_eq_false_iff_ne.mpr c3
  have c3b1 : (a0_0 != a1_0) = true := bne_iff_ne.mpr c3
  obtain rfl := oin H
  go_enter Tryz.func188, Tryz.ntmps188
  go_wp2_with (first | ((with_reducible refine gq 2 rfl ?_); refine bx0 HB (N := 2) (t := 31) ?_; clear HB; intro gb516 w16 BK516 GE516 HB) | ((with_reducible refine gq 3 rfl ?_); refine bx1 HB BK516 (N := 3) (t := 31) ?_; clear HB BK516; intro gb517 w17 BK517 GE517 HB NB516_517 NB517_516 BK516; have hnb18 := NB516_517.out; have hnc18 := NB517_516.out; have hz19 := cs2_ BK516; have hz20 := cs2_ BK517))
  go_ret
  exact ⟨er, tb HB⟩
 
 
 rw [if_pos c3] at H
 have c3b0 : (a0_0 == a1_0) = true := beq_iff_eq.mpr c3
 have c3b1 : (a0_0 != a1_0) = false := bne_eq_false_iff_eq.mpr c3
 clear c3
 obtain ⟨t518, A4, H⟩ := bn H
 try dsimp only at H
 cases t518
 case true =>
  replace H := ipt H
  obtain rfl := oin H
  go_enter Tryz.func188, Tryz.ntmps188
  go_wp2_with (first | ((with_reducible refine gq 2 rfl ?_); refine bx0 HB (N := 2) (t := 31) ?_; clear HB; intro gb516 w6 BK516 GE516 HB) | ((with_reducible refine gq 3 rfl ?_); refine bx1 HB BK516 (N := 3) (t := 31) ?_; clear HB BK516; intro gb517 w7 BK517 GE517 HB NB516_517 NB517_516 BK516; have hnb8 := NB516_517.out; have hnc8 := NB517_516.out; have hz9 := cs2_ BK516; have hz10 := cs2_ BK517) | ((with_reducible refine gf 101 rfl ?_); refine gL 14 Tryz.func101 #[.slice A0_1 l0_1.length c0_1, .slice A1_1 l1_1.length c1_1] ?_; (with_reducible refine (laws_eqIntS.calls k _ _ l0_1 _ _ l1_1 true _ (kc HR0_1 HB) HC0_1.out (kc HR1_1 HB) HC1_1.out A4.out).mono ?_); rintro e w' ⟨rfl, ⟨nd, rfl⟩⟩; refine ⟨_, rfl, ?_⟩))
  go_ret
  exact ⟨er, tb HB⟩
 replace H := ipf H
 obtain rfl := oin H
 go_enter Tryz.func188, Tryz.ntmps188
 go_wp2_with (first | ((with_reducible refine gq 2 rfl ?_); refine bx0 HB (N := 2) (t := 31) ?_; clear HB; intro gb516 w11 BK516 GE516 HB) | ((with_reducible refine gq 3 rfl ?_); refine bx1 HB BK516 (N := 3) (t := 31) ?_; clear HB BK516; intro gb517 w12 BK517 GE517 HB NB516_517 NB517_516 BK516; have hnb13 := NB516_517.out; have hnc13 := NB517_516.out; have hz14 := cs2_ BK516; have hz15 := cs2_ BK517) | ((with_reducible refine gf 101 rfl ?_); refine gL 14 Tryz.func101 #[.slice A0_1 l0_1.length c0_1, .slice A1_1 l1_1.length c1_1] ?_; (with_reducible refine (laws_eqIntS.calls k _ _ l0_1 _ _ l1_1 false _ (kc HR0_1 HB) HC0_1.out (kc HR1_1 HB) HC1_1.out A4.out).mono ?_); rintro e w' ⟨rfl, ⟨nd, rfl⟩⟩; refine ⟨_, rfl, ?_⟩))
 go_ret
 exact ⟨er, tb HB⟩
def laws_eqEntry.f (a0_0 : Int) (a0_1 : Int) (a0_2 : Int) (a1_0 : Int) (a1_1 : Int) (a1_2 : Int) : Option (Bool) := if a0_0 = a1_0 then (if a0_1 = a1_1 then (if a0_2 = a1_2 then (some true) else (some false)) else (some false)) else (some false)
set_option maxHeartbeats 8000000 in
set_option maxRecDepth 100000 in
theorem laws_eqEntry.calls (a0_0 : Int) (a0_1 : Int) (a0_2 : Int) (a1_0 : Int) (a1_1 : Int) (a1_2 : Int) (r : Bool) (w : World) (h : laws_eqEntry.f a0_0 a0_1 a0_2 a1_0 a1_1 a1_2 = some r) :
  Calls Tryz.prog 202 #[.agg #[.int .i64 a0_0, .int .i64 a0_1, .int .i64 a0_2], .agg #[.int .i64 a1_0, .int .i64 a1_1, .int .i64 a1_2]] w fun e w' => e = .returned (.bool r) ∧ Below w.heap.size w w' := by
 have hu37 := Tryz.underlying37
 have HB := Aside0.mk (Below.refl w.heap.size w)
 have H := h
 clear h
 unfold laws_eqEntry.f at H
 by_cases c3 : a0_0 = a1_0
 case neg =>
  rw [if_neg c3] at H
  have c3b0 : (a0_0 == a1_0) = false := beq_eq_false_iff_ne.mpr c3
  have c3b1 : (a0_0 != a1_0) = true := bne_iff_ne.mpr c3
  obtain rfl := oin H
  go_enter Tryz.func202, Tryz.ntmps202
  go_wp2_with (first | ((with_reducible refine gq 2 rfl ?_); refine bx0 HB (N := 2) (t := 37) ?_; clear HB; intro gb519 w21 BK519 GE519 HB) | ((with_reducible refine gq 3 rfl ?_); refine bx1 HB BK519 (N := 3) (t := 37) ?_; clear HB BK519; intro gb520 w22 BK520 GE520 HB NB519_520 NB520_519 BK519; have hnb23 := NB519_520.out; have hnc23 := NB520_519.out; have hz24 := cs3_ BK519; have hz25 := cs3_ BK520))
  go_ret
  exact ⟨er, tb HB⟩
 
 
 rw [if_pos c3] at H
 have c3b0 : (a0_0 == a1_0) = true := beq_iff_eq.mpr c3
 have c3b1 : (a0_0 != a1_0) = false := bne_eq_false_iff_eq.mpr c3
 clear c3
 by_cases c4 : a0_1 = a1_1
 case neg =>
  rw [if_neg c4] at H
  have c4b0 : (a0_1 == a1_1) = false := beq_eq_false_iff_ne.mpr c4
  have c4b1 : (a0_1 != a1_1) = true := bne_iff_ne.mpr c4
  obtain rfl := oin H
  go_enter Tryz.func202, Tryz.ntmps202
  go_wp2_with (first | ((with_reducible refine gq 2 rfl ?_); refine bx0 HB (N := 2) (t := 37) ?_; clear HB; intro gb519 w16 BK519 GE519 HB) | ((with_reducible refine gq 3 rfl ?_); refine bx1 HB BK519 (N := 3) (t := 37) ?_; clear HB BK519; intro gb520 w17 BK520 GE520 HB NB519_520 NB520_519 BK519; have hnb18 := NB519_520.out; have hnc18 := NB520_519.out; have hz19 := cs3_ BK519; have hz20 := cs3_ BK520))
  go_ret
  exact ⟨er, tb HB⟩
 rw [if_pos c4] at H
 have c4b0 : (a0_1 == a1_1) = true := beq_iff_eq.mpr c4
 have c4b1 : (a0_1 != a1_1) = false := bne_eq_false_iff_eq.mpr c4
 clear c4
 by_cases c5 : a0_2 = a1_2
 case neg =>
  rw [if_neg c5] at H
  have c5b0 : (a0_2 == a1_2) = false := beq_eq_false_iff_ne.mpr c5
  have c5b1 : (a0_2 != a1_2) = true := bne_iff_ne.mpr c5
  obtain rfl := oin H
  go_enter Tryz.func202, Tryz.ntmps202
  go_wp2_with (first | ((with_reducible refine gq 2 rfl ?_); refine bx0 HB (N := 2) (t := 37) ?_; clear HB; intro gb519 w11 BK519 GE519 HB) | ((with_reducible refine gq 3 rfl ?_); refine bx1 HB BK519 (N := 3) (t := 37) ?_; clear HB BK519; intro gb520 w12 BK520 GE520 HB NB519_520 NB520_519 BK519; have hnb13 := NB519_520.out; have hnc13 := NB520_519.out; have hz14 := cs3_ BK519; have hz15 := cs3_ BK520))
  go_ret
  exact ⟨er, tb HB⟩
 rw [if_pos c5] at H
 have c5b0 : (a0_2 == a1_2) = true := beq_iff_eq.mpr c5
 have c5b1 : (a0_2 != a1_2) = false := bne_eq_false_iff_eq.mpr c5
 clear c5
 obtain rfl := oin H
 go_enter Tryz.func202, Tryz.ntmps202
 go_wp2_with (first | ((with_reducible refine gq 2 rfl ?_); refine bx0 HB (N := 2) (t := 37) ?_; clear HB; intro gb519 w6 BK519 GE519 HB) | ((with_reducible refine gq 3 rfl ?_); refine bx1 HB BK519 (N := 3) (t := 37) ?_; clear HB BK519; intro gb520 w7 BK520 GE520 HB NB519_520 NB520_519 BK519; have hnb8 := NB519_520.out; have hnc8 := NB520_519.out; have hz9 := cs3_ BK519; have hz10 := cs3_ BK520))
 go_ret
 exact ⟨er, tb HB⟩
def laws_eqEntryS.l0 : Nat → List (S37) → List (S37) → Int → Option (Bool)
 | 0, _, _, _ => none
 | k + 1, x0, x1, x5 => if x5 < (x0.length : Int) then (if 0 ≤ x5 then (if x5 < (x1.length : Int) then ((laws_eqEntry.f ((rd_T37 x0 x5).f0) ((rd_T37 x0 x5).f1) ((rd_T37 x0 x5).f2) ((rd_T37 x1 x5).f0) ((rd_T37 x1 x5).f1) ((rd_T37 x1 x5).f2)).bind fun t523 => (if t523 = true then (laws_eqEntryS.l0 k x0 x1 (wrap64 (x5 + 1))) else (some false))) else (none)) else (none)) else (some true)
def laws_eqEntryS.f (k : Nat) (l0 : List (S37)) (l1 : List (S37)) : Option (Bool) := if (l0.length : Int) = (l1.length : Int) then (laws_eqEntryS.l0 k l0 l1 0) else (some false)
def laws_eqEntryS.T6 : Bool × List (List Nat × List Nat) := (true, [([], []), ([], []), ([0, 1], [0, 1]), ([2], [2]), ([], []), ([], []), ([4, 5], [4, 5]), ([6], [6]), ([3, 7], [3, 7]), ([8], [8])])
def laws_eqEntryS.B6 : List Nat := [0, 0, 3, 7, 0, 0, 48, 112, 255, 511]
theorem laws_eqEntryS.tab6 : rtab .any (opsOf Tryz.f194 6) = laws_eqEntryS.T6 := by kernel_rfl
theorem laws_eqEntryS.bits6 : waitsOk laws_eqEntryS.T6.2 laws_eqEntryS.B6 = true := by kernel_rfl
set_option maxHeartbeats 8000000 in
set_option maxRecDepth 100000 in
theorem laws_eqEntryS.calls (k : Nat) (A0 : Option Addr) (c0 : Nat) (l0 : List (S37)) (A1 : Option Addr) (c1 : Nat) (l1 : List (S37)) (r : Bool) (w : World) (hr0 : Kd.C k37 w A0 l0.length l0) (hc0 : l0.length ≤ c0) (hr1 : Kd.C k37 w A1 l1.length l1) (hc1 : l1.length ≤ c1) (h : laws_eqEntryS.f k l0 l1 = some r) :
  Calls Tryz.prog 194 #[.slice A0 l0.length c0, .slice A1 l1.length c1] w fun e w' => e = .returned (.bool r) ∧ Below w.heap.size w w' := by
 have hu37 := Tryz.underlying37
 have HR0 := Aside0.mk hr0
 have HC0 := Aside0.mk hc0
 clear hr0 hc0
 have HR1 := Aside0.mk hr1
 have HC1 := Aside0.mk hc1
 clear hr1 hc1
 have HB := Aside0.mk (Below.refl w.heap.size w)
 have H := h
 clear h
 unfold laws_eqEntryS.f at H
 by_cases c3 : (l0.length : Int) = (l1.length : Int)
 case neg =>
  rw [if_neg c3] at H
  have c3b0 : ((l0.length : Int) == (l1.length : Int)) = false := beq_eq_false_iff_ne.mpr c3
  have c3b1 : ((l0.length : Int) != (l1.length : Int)) = true := bne_iff_ne.mpr c3
  have c3b2 : (l0.length == l1.length) = false := by first | simpa using c3 | (simp at c3 ⊢; omega)
  obtain rfl := oin H
  go_enter Tryz.func194, Tryz.ntmps194
  go_wp2
  go_ret
  exact ⟨er, tb HB⟩
 
 
 rw [if_pos c3] at H
 have c3b0 : ((l0.length : Int) == (l1.length : Int)) = true := beq_iff_eq.mpr c3
 have c3b1 : ((l0.length : Int) != (l1.length : Int)) = false := bne_eq_false_iff_eq.mpr c3
 have c3b2 : (l0.length == l1.length) = true := by first | simpa using c3 | (simp at c3 ⊢; omega)
 clear c3
 have H' := Aside0.mk H
 clear H
 go_enter Tryz.func194, Tryz.ntmps194
 go_wp2
 go_loopg [5] k (fun kq v5 w' => ∃ (x5_1 : Int), v5 = .int .i64 x5_1 ∧ Aside0 (laws_eqEntryS.l0 kq l0 l1 x5_1 = some r) ∧ Aside0 (kq ≤ k) ∧ Aside0 (Below w.heap.size w w'))
 case atStart => exact ⟨(0), rsd, H', ⟨Nat.le_refl _⟩, ⟨tb HB⟩⟩
 case round =>
  clear H'
  try clear c1
  try clear p2
  try clear c3
  try clear c3b0
  try clear c3b1
  try clear c3b2
  obtain ⟨x5_1, rfl, HA, HK1, HB⟩ := hrel
  cases gk with
  | zero => exact absurd HA.out (by simp [laws_eqEntryS.l0])
  | succ k1 =>
   have H := HA.out
   clear HA
   simp only [laws_eqEntryS.l0] at H
   revert H; refine icd (fun c4b0 H => ?_) fun c4b0 H => ?neg
   case neg =>
    obtain rfl := oin H
    go_wp2
    go_ret
    exact ⟨er, tb HB⟩
   obtain ⟨c5b0, H⟩ := itd H
   obtain ⟨c6b0, H⟩ := itd H
   obtain ⟨t523, A7, H⟩ := bn H
   try dsimp only at H
   cases t523
   case false =>
    replace H := ipf H
    obtain rfl := oin H
    try go_wp2
    replace HB := Aside0.mk (below_drew1 HB.out)
    have p521 : 0 ≤ (x5_1 : Int) := od
    have q521 : x5_1 < (l0.length : Int) := od
    obtain ⟨ad521, e521, hx521⟩ := att37 HR0.out x5_1 p521 q521
    have hw521 := hx521
    cases e521
    replace hx521 := ox3 HB hx521
    replace p521 := eq_true p521
    replace q521 := eq_true q521
    have p522 : 0 ≤ (x5_1 : Int) := od
    have q522 : x5_1 < (l1.length : Int) := od
    obtain ⟨ad522, e522, hx522⟩ := att37 HR1.out x5_1 p522 q522
    have hw522 := hx522
    cases e522
    replace hx522 := ox3 HB hx522
    replace p522 := eq_true p522
    replace q522 := eq_true q522
    refine start_ (n := 10) (S := fun w' => eT37 (ad521.add ((x5_1).toNat * 3)) (rd_T37 l0 x5_1) w' ∧ eT37 (ad522.add ((x5_1).toNat * 3)) (rd_T37 l1 x5_1) w') (ds := []) #[false, false, false, false, false, false, false, false, false, false] (by kernel_rfl) rfl rfl ⟨(ox3 HB hw521 :), (ox3 HB hw522 :)⟩ (fun hHeld => ?_); refine with_tabW laws_eqEntryS.tab6 laws_eqEntryS.bits6 (fun HT_ HW_ => ?_)
    generalize wr.drew = w11 at HB hx521 hx522 hHeld ⊢
    refine pu 0 17 ?_; refine pu 1 18 ?_; refine pu 2 19 ?_; refine pu 4 21 ?_; refine pu 5 22 ?_; refine pu 6 23 ?_; refine ta 3 20 ?_; refine ta 7 24 ?_
    refine on1 8 (some 25) (fun K hK => ?_)
    refine gS Tryz.func202 #[.agg #[.int .i64 ((rd_T37 l0 x5_1).f0), .int .i64 ((rd_T37 l0 x5_1).f1), .int .i64 ((rd_T37 l0 x5_1).f2)], .agg #[.int .i64 ((rd_T37 l1 x5_1).f0), .int .i64 ((rd_T37 l1 x5_1).f1), .int .i64 ((rd_T37 l1 x5_1).f2)]] ?_
    with_reducible refine (laws_eqEntry.calls ((rd_T37 l0 x5_1).f0) ((rd_T37 l0 x5_1).f1) ((rd_T37 l0 x5_1).f2) ((rd_T37 l1 x5_1).f0) ((rd_T37 l1 x5_1).f1) ((rd_T37 l1 x5_1).f2) false _ A7.out).mono ?_
    rintro e w12 ⟨rfl, hb⟩
    refine ⟨_, rfl, ?_⟩
    replace HB := bs HB hb
    (try clear hb)
    (try clear hb2)
    (try clear hk)
    (try clear hi)
    refine hK.out _ _ ⟨(ox3 HB hw521 :), (ox3 HB hw522 :)⟩ (fun hHeld => ?_)
    clear hK K
    refine nm 25 ?_
    refine pu 9 26 ?_
    refine done_ (done_of HT_.out (by kernel_rfl)) ?_
    try go_wp2
    go_ret
    exact ⟨er, tb HB⟩
   replace H := ipt H
   have H' := Aside0.mk H
   clear H
   try go_wp2
   replace HB := Aside0.mk (below_drew1 HB.out)
   have p521 : 0 ≤ (x5_1 : Int) := od
   have q521 : x5_1 < (l0.length : Int) := od
   obtain ⟨ad521, e521, hx521⟩ := att37 HR0.out x5_1 p521 q521
   have hw521 := hx521
   cases e521
   replace hx521 := ox3 HB hx521
   replace p521 := eq_true p521
   replace q521 := eq_true q521
   have p522 : 0 ≤ (x5_1 : Int) := od
   have q522 : x5_1 < (l1.length : Int) := od
   obtain ⟨ad522, e522, hx522⟩ := att37 HR1.out x5_1 p522 q522
   have hw522 := hx522
   cases e522
   replace hx522 := ox3 HB hx522
   replace p522 := eq_true p522
   replace q522 := eq_true q522
   refine start_ (n := 10) (S := fun w' => eT37 (ad521.add ((x5_1).toNat * 3)) (rd_T37 l0 x5_1) w' ∧ eT37 (ad522.add ((x5_1).toNat * 3)) (rd_T37 l1 x5_1) w') (ds := []) #[false, false, false, false, false, false, false, false, false, false] (by kernel_rfl) rfl rfl ⟨(ox3 HB hw521 :), (ox3 HB hw522 :)⟩ (fun hHeld => ?_); refine with_tabW laws_eqEntryS.tab6 laws_eqEntryS.bits6 (fun HT_ HW_ => ?_)
   generalize wr.drew = w9 at HB hx521 hx522 hHeld ⊢
   refine pu 0 17 ?_; refine pu 1 18 ?_; refine pu 2 19 ?_; refine pu 4 21 ?_; refine pu 5 22 ?_; refine pu 6 23 ?_; refine ta 3 20 ?_; refine ta 7 24 ?_
   refine on1 8 (some 25) (fun K hK => ?_)
   refine gS Tryz.func202 #[.agg #[.int .i64 ((rd_T37 l0 x5_1).f0), .int .i64 ((rd_T37 l0 x5_1).f1), .int .i64 ((rd_T37 l0 x5_1).f2)], .agg #[.int .i64 ((rd_T37 l1 x5_1).f0), .int .i64 ((rd_T37 l1 x5_1).f1), .int .i64 ((rd_T37 l1 x5_1).f2)]] ?_
   with_reducible refine (laws_eqEntry.calls ((rd_T37 l0 x5_1).f0) ((rd_T37 l0 x5_1).f1) ((rd_T37 l0 x5_1).f2) ((rd_T37 l1 x5_1).f0) ((rd_T37 l1 x5_1).f1) ((rd_T37 l1 x5_1).f2) true _ A7.out).mono ?_
   rintro e w10 ⟨rfl, hb⟩
   refine ⟨_, rfl, ?_⟩
   replace HB := bs HB hb
   (try clear hb)
   (try clear hb2)
   (try clear hk)
   (try clear hi)
   refine hK.out _ _ ⟨(ox3 HB hw521 :), (ox3 HB hw522 :)⟩ (fun hHeld => ?_)
   clear hK K
   refine nm 25 ?_
   refine pu 9 26 ?_
   refine done_ (done_of HT_.out (by kernel_rfl)) ?_
   try go_wp2
   go_roundg k1
   case measure => have := HK1.out; omega
   case rel => exact ⟨(wrap64 (x5_1 + 1)), rsd, H', ⟨by have := HK1.out; omega⟩, ⟨tb HB⟩⟩
def laws_eqDesc.f (k : Nat) (a0_0 : Int) (a0_1 : Int) (l0_2 : List (S37)) (a0_3 : Int) (l0_4 : List Int) (a1_0 : Int) (a1_1 : Int) (l1_2 : List (S37)) (a1_3 : Int) (l1_4 : List Int) : Option (Bool) := if a0_0 = a1_0 then (if a0_1 = a1_1 then ((laws_eqEntryS.f k l0_2 l1_2).bind fun t526 => (if t526 = true then ((laws_eqRes.f k a0_3 l0_4 a1_3 l1_4).bind fun t527 => (if t527 = true then (some true) else (some false))) else (some false))) else (some false)) else (some false)
set_option maxHeartbeats 8000000 in
set_option maxRecDepth 100000 in
theorem laws_eqDesc.calls (k : Nat) (a0_0 : Int) (a0_1 : Int) (A0_2 : Option Addr) (c0_2 : Nat) (l0_2 : List (S37)) (a0_3 : Int) (A0_4 : Option Addr) (c0_4 : Nat) (l0_4 : List Int) (a1_0 : Int) (a1_1 : Int) (A1_2 : Option Addr) (c1_2 : Nat) (l1_2 : List (S37)) (a1_3 : Int) (A1_4 : Option Addr) (c1_4 : Nat) (l1_4 : List Int) (r : Bool) (w : World) (hr0_2 : Kd.C k37 w A0_2 l0_2.length l0_2) (hc0_2 : l0_2.length ≤ c0_2) (hr0_4 : Kd.C (Kd.int .i64) w A0_4 l0_4.length l0_4) (hc0_4 : l0_4.length ≤ c0_4) (hr1_2 : Kd.C k37 w A1_2 l1_2.length l1_2) (hc1_2 : l1_2.length ≤ c1_2) (hr1_4 : Kd.C (Kd.int .i64) w A1_4 l1_4.length l1_4) (hc1_4 : l1_4.length ≤ c1_4) (h : laws_eqDesc.f k a0_0 a0_1 l0_2 a0_3 l0_4 a1_0 a1_1 l1_2 a1_3 l1_4 = some r) :
  Calls Tryz.prog 183 #[.agg #[.int .i64 a0_0, .int .i64 a0_1, .slice A0_2 l0_2.length c0_2, .int .i64 a0_3, .slice A0_4 l0_4.length c0_4], .agg #[.int .i64 a1_0, .int .i64 a1_1, .slice A1_2 l1_2.length c1_2, .int .i64 a1_3, .slice A1_4 l1_4.length c1_4]] w fun e w' => e = .returned (.bool r) ∧ Below w.heap.size w w' := by
 have hu52 := Tryz.underlying52
 have hu31 := Tryz.underlying31
 have HR0_2 := Aside0.mk hr0_2
 have HC0_2 := Aside0.mk hc0_2
 clear hr0_2 hc0_2
 have HR0_4 := Aside0.mk hr0_4
 have HC0_4 := Aside0.mk hc0_4
 clear hr0_4 hc0_4
 have HR1_2 := Aside0.mk hr1_2
 have HC1_2 := Aside0.mk hc1_2
 clear hr1_2 hc1_2
 have HR1_4 := Aside0.mk hr1_4
 have HC1_4 := Aside0.mk hc1_4
 clear hr1_4 hc1_4
 have HB := Aside0.mk (Below.refl w.heap.size w)
 have H := h
 clear h
 unfold laws_eqDesc.f at H
 by_cases c3 : a0_0 = a1_0
 case neg =>
  rw [if_neg c3] at H
  have c3b0 : (a0_0 == a1_0) = false := beq_eq_false_iff_ne.mpr c3
  have c3b1 : (a0_0 != a1_0) = true := bne_iff_ne.mpr c3
  obtain rfl := oin H
  go_enter Tryz.func183, Tryz.ntmps183
  go_wp2_with (first | ((with_reducible refine gq 2 rfl ?_); refine bx0 HB (N := 2) (t := 52) ?_; clear HB; intro gb524 w38 BK524 GE524 HB) | ((with_reducible refine gq 3 rfl ?_); refine bx1 HB BK524 (N := 3) (t := 52) ?_; clear HB BK524; intro gb525 w39 BK525 GE525 HB NB524_525 NB525_524 BK524; have hnb40 := NB524_525.out; have hnc40 := NB525_524.out; have hz41 := cs5_ BK524; have hz42 := cs5_ BK525))
  go_ret
  exact ⟨er, tb HB⟩
 
 
 rw [if_pos c3] at H
 have c3b0 : (a0_0 == a1_0) = true := beq_iff_eq.mpr c3
 have c3b1 : (a0_0 != a1_0) = false := bne_eq_false_iff_eq.mpr c3
 clear c3
 by_cases c4 : a0_1 = a1_1
 case neg =>
  rw [if_neg c4] at H
  have c4b0 : (a0_1 == a1_1) = false := beq_eq_false_iff_ne.mpr c4
  have c4b1 : (a0_1 != a1_1) = true := bne_iff_ne.mpr c4
  obtain rfl := oin H
  go_enter Tryz.func183, Tryz.ntmps183
  go_wp2_with (first | ((with_reducible refine gq 2 rfl ?_); refine bx0 HB (N := 2) (t := 52) ?_; clear HB; intro gb524 w33 BK524 GE524 HB) | ((with_reducible refine gq 3 rfl ?_); refine bx1 HB BK524 (N := 3) (t := 52) ?_; clear HB BK524; intro gb525 w34 BK525 GE525 HB NB524_525 NB525_524 BK524; have hnb35 := NB524_525.out; have hnc35 := NB525_524.out; have hz36 := cs5_ BK524; have hz37 := cs5_ BK525))
  go_ret
  exact ⟨er, tb HB⟩
 rw [if_pos c4] at H
 have c4b0 : (a0_1 == a1_1) = true := beq_iff_eq.mpr c4
 have c4b1 : (a0_1 != a1_1) = false := bne_eq_false_iff_eq.mpr c4
 clear c4
 obtain ⟨t526, A5, H⟩ := bn H
 try dsimp only at H
 cases t526
 case false =>
  replace H := ipf H
  obtain rfl := oin H
  go_enter Tryz.func183, Tryz.ntmps183
  go_wp2_with (first | ((with_reducible refine gq 2 rfl ?_); refine bx0 HB (N := 2) (t := 52) ?_; clear HB; intro gb524 w27 BK524 GE524 HB) | ((with_reducible refine gq 3 rfl ?_); refine bx1 HB BK524 (N := 3) (t := 52) ?_; clear HB BK524; intro gb525 w28 BK525 GE525 HB NB524_525 NB525_524 BK524; have hnb29 := NB524_525.out; have hnc29 := NB525_524.out; have hz30 := cs5_ BK524; have hz31 := cs5_ BK525) | ((with_reducible refine gf 194 rfl ?_); refine gL 19 Tryz.func194 #[.slice A0_2 l0_2.length c0_2, .slice A1_2 l1_2.length c1_2] ?_; (with_reducible refine (laws_eqEntryS.calls k _ _ l0_2 _ _ l1_2 false _ (kc HR0_2 HB) HC0_2.out (kc HR1_2 HB) HC1_2.out A5.out).mono ?_); rintro e w32 ⟨rfl, hb⟩; refine ⟨_, rfl, ?_⟩; replace BK524 := bb BK524 hb; replace BK525 := bb BK525 hb; replace HB := bs HB hb; (try clear hb)))
  go_ret
  exact ⟨er, tb HB⟩
 replace H := ipt H
 obtain ⟨t527, A7, H⟩ := bn H
 try dsimp only at H
 cases t527
 case true =>
  replace H := ipt H
  obtain rfl := oin H
  go_enter Tryz.func183, Tryz.ntmps183
  go_wp2_with (first | ((with_reducible refine gq 2 rfl ?_); refine bx0 HB (N := 2) (t := 52) ?_; clear HB; intro gb524 w9 BK524 GE524 HB) | ((with_reducible refine gq 3 rfl ?_); refine bx1 HB BK524 (N := 3) (t := 52) ?_; clear HB BK524; intro gb525 w10 BK525 GE525 HB NB524_525 NB525_524 BK524; have hnb11 := NB524_525.out; have hnc11 := NB525_524.out; have hz12 := cs5_ BK524; have hz13 := cs5_ BK525) | ((with_reducible refine gf 194 rfl ?_); refine gL 19 Tryz.func194 #[.slice A0_2 l0_2.length c0_2, .slice A1_2 l1_2.length c1_2] ?_; (with_reducible refine (laws_eqEntryS.calls k _ _ l0_2 _ _ l1_2 true _ (kc HR0_2 HB) HC0_2.out (kc HR1_2 HB) HC1_2.out A5.out).mono ?_); rintro e w14 ⟨rfl, hb⟩; refine ⟨_, rfl, ?_⟩; replace BK524 := bb BK524 hb; replace BK525 := bb BK525 hb; replace HB := bs HB hb; (try clear hb); have hz15 := cs5_ BK524; have hz16 := cs5_ BK525) | ((with_reducible refine gf 188 rfl ?_); refine gL 25 Tryz.func188 #[.agg #[.int .i64 a0_3, .slice A0_4 l0_4.length c0_4], .agg #[.int .i64 a1_3, .slice A1_4 l1_4.length c1_4]] ?_; (with_reducible refine (laws_eqRes.calls k a0_3 _ _ l0_4 a1_3 _ _ l1_4 true _ (kc HR0_4 HB) HC0_4.out (kc HR1_4 HB) HC1_4.out A7.out).mono ?_); rintro e w17 ⟨rfl, hb⟩; refine ⟨_, rfl, ?_⟩; replace BK524 := bb BK524 hb; replace BK525 := bb BK525 hb; replace HB := bs HB hb; (try clear hb)))
  go_ret
  exact ⟨er, tb HB⟩
 replace H := ipf H
 obtain rfl := oin H
 go_enter Tryz.func183, Tryz.ntmps183
 go_wp2_with (first | ((with_reducible refine gq 2 rfl ?_); refine bx0 HB (N := 2) (t := 52) ?_; clear HB; intro gb524 w18 BK524 GE524 HB) | ((with_reducible refine gq 3 rfl ?_); refine bx1 HB BK524 (N := 3) (t := 52) ?_; clear HB BK524; intro gb525 w19 BK525 GE525 HB NB524_525 NB525_524 BK524; have hnb20 := NB524_525.out; have hnc20 := NB525_524.out; have hz21 := cs5_ BK524; have hz22 := cs5_ BK525) | ((with_reducible refine gf 194 rfl ?_); refine gL 19 Tryz.func194 #[.slice A0_2 l0_2.length c0_2, .slice A1_2 l1_2.length c1_2] ?_; (with_reducible refine (laws_eqEntryS.calls k _ _ l0_2 _ _ l1_2 true _ (kc HR0_2 HB) HC0_2.out (kc HR1_2 HB) HC1_2.out A5.out).mono ?_); rintro e w23 ⟨rfl, hb⟩; refine ⟨_, rfl, ?_⟩; replace BK524 := bb BK524 hb; replace BK525 := bb BK525 hb; replace HB := bs HB hb; (try clear hb); have hz24 := cs5_ BK524; have hz25 := cs5_ BK525) | ((with_reducible refine gf 188 rfl ?_); refine gL 25 Tryz.func188 #[.agg #[.int .i64 a0_3, .slice A0_4 l0_4.length c0_4], .agg #[.int .i64 a1_3, .slice A1_4 l1_4.length c1_4]] ?_; (with_reducible refine (laws_eqRes.calls k a0_3 _ _ l0_4 a1_3 _ _ l1_4 false _ (kc HR0_4 HB) HC0_4.out (kc HR1_4 HB) HC1_4.out A7.out).mono ?_); rintro e w26 ⟨rfl, hb⟩; refine ⟨_, rfl, ?_⟩; replace BK524 := bb BK524 hb; replace BK525 := bb BK525 hb; replace HB := bs HB hb; (try clear hb)))
 go_ret
 exact ⟨er, tb HB⟩
def laws_eqDescS.l0 : Nat → List (S52) → List (S52) → Int → Option (Bool)
 | 0, _, _, _ => none
 | k + 1, x0, x1, x5 => if x5 < (x0.length : Int) then (if 0 ≤ x5 then (if x5 < (x1.length : Int) then ((laws_eqDesc.f k ((rd_T52 x0 x5).f0) ((rd_T52 x0 x5).f1) ((rd_T52 x0 x5).f2) ((rd_T52 x0 x5).f3.f0) ((rd_T52 x0 x5).f3.f1) ((rd_T52 x1 x5).f0) ((rd_T52 x1 x5).f1) ((rd_T52 x1 x5).f2) ((rd_T52 x1 x5).f3.f0) ((rd_T52 x1 x5).f3.f1)).bind fun t530 => (if t530 = true then (laws_eqDescS.l0 k x0 x1 (wrap64 (x5 + 1))) else (some false))) else (none)) else (none)) else (some true)
def laws_eqDescS.f (k : Nat) (l0 : List (S52)) (l1 : List (S52)) : Option (Bool) := if (l0.length : Int) = (l1.length : Int) then (laws_eqDescS.l0 k l0 l1 0) else (some false)
def laws_eqDescS.T6 : Bool × List (List Nat × List Nat) := (true, [([], []), ([], []), ([0, 1], [0, 1]), ([2], [2]), ([], []), ([], []), ([4, 5], [4, 5]), ([6], [6]), ([3, 7], [3, 7]), ([8], [8])])
def laws_eqDescS.B6 : List Nat := [0, 0, 3, 7, 0, 0, 48, 112, 255, 511]
theorem laws_eqDescS.tab6 : rtab .any (opsOf Tryz.f153 6) = laws_eqDescS.T6 := by kernel_rfl
theorem laws_eqDescS.bits6 : waitsOk laws_eqDescS.T6.2 laws_eqDescS.B6 = true := by kernel_rfl
set_option maxHeartbeats 8000000 in
set_option maxRecDepth 100000 in
theorem laws_eqDescS.calls (k : Nat) (A0 : Option Addr) (c0 : Nat) (l0 : List (S52)) (A1 : Option Addr) (c1 : Nat) (l1 : List (S52)) (r : Bool) (w : World) (hr0 : Kd.C k52 w A0 l0.length l0) (hc0 : l0.length ≤ c0) (hr1 : Kd.C k52 w A1 l1.length l1) (hc1 : l1.length ≤ c1) (h : laws_eqDescS.f k l0 l1 = some r) :
  Calls Tryz.prog 153 #[.slice A0 l0.length c0, .slice A1 l1.length c1] w fun e w' => e = .returned (.bool r) ∧ Below w.heap.size w w' := by
 have hu52 := Tryz.underlying52
 have HR0 := Aside0.mk hr0
 have HC0 := Aside0.mk hc0
 clear hr0 hc0
 have HR1 := Aside0.mk hr1
 have HC1 := Aside0.mk hc1
 clear hr1 hc1
 have HB := Aside0.mk (Below.refl w.heap.size w)
 have H := h
 clear h
 unfold laws_eqDescS.f at H
 by_cases c3 : (l0.length : Int) = (l1.length : Int)
 case neg =>
  rw [if_neg c3] at H
  have c3b0 : ((l0.length : Int) == (l1.length : Int)) = false := beq_eq_false_iff_ne.mpr c3
  have c3b1 : ((l0.length : Int) != (l1.length : Int)) = true := bne_iff_ne.mpr c3
  have c3b2 : (l0.length == l1.length) = false := by first | simpa using c3 | (simp at c3 ⊢; omega)
  obtain rfl := oin H
  go_enter Tryz.func153, Tryz.ntmps153
  go_wp2
  go_ret
  exact ⟨er, tb HB⟩
 
 
 rw [if_pos c3] at H
 have c3b0 : ((l0.length : Int) == (l1.length : Int)) = true := beq_iff_eq.mpr c3
 have c3b1 : ((l0.length : Int) != (l1.length : Int)) = false := bne_eq_false_iff_eq.mpr c3
 have c3b2 : (l0.length == l1.length) = true := by first | simpa using c3 | (simp at c3 ⊢; omega)
 clear c3
 have H' := Aside0.mk H
 clear H
 go_enter Tryz.func153, Tryz.ntmps153
 go_wp2
 go_loopg [5] k (fun kq v5 w' => ∃ (x5_1 : Int), v5 = .int .i64 x5_1 ∧ Aside0 (laws_eqDescS.l0 kq l0 l1 x5_1 = some r) ∧ Aside0 (kq ≤ k) ∧ Aside0 (Below w.heap.size w w'))
 case atStart => exact ⟨(0), rsd, H', ⟨Nat.le_refl _⟩, ⟨tb HB⟩⟩
 case round =>
  clear H'
  try clear c1
  try clear p2
  try clear c3
  try clear c3b0
  try clear c3b1
  try clear c3b2
  obtain ⟨x5_1, rfl, HA, HK1, HB⟩ := hrel
  cases gk with
  | zero => exact absurd HA.out (by simp [laws_eqDescS.l0])
  | succ k1 =>
   have H := HA.out
   clear HA
   simp only [laws_eqDescS.l0] at H
   revert H; refine icd (fun c4b0 H => ?_) fun c4b0 H => ?neg
   case neg =>
    obtain rfl := oin H
    go_wp2
    go_ret
    exact ⟨er, tb HB⟩
   obtain ⟨c5b0, H⟩ := itd H
   obtain ⟨c6b0, H⟩ := itd H
   obtain ⟨t530, A7, H⟩ := bn H
   try dsimp only at H
   cases t530
   case false =>
    replace H := ipf H
    obtain rfl := oin H
    try go_wp2
    replace HB := Aside0.mk (below_drew1 HB.out)
    have p528 : 0 ≤ (x5_1 : Int) := od
    have q528 : x5_1 < (l0.length : Int) := od
    obtain ⟨ad528, A528_2, c528_2, A528_4, c528_4, e528, hx528, hl528_2, hi528_2, hl528_4, hi528_4⟩ := att52 HR0.out x5_1 p528 q528
    have hw528 := hx528
    cases e528
    replace hx528 := ox5 HB hx528
    have HR528_2 := Aside0.mk hi528_2
    have HC528_2 := Aside0.mk hl528_2
    clear hi528_2 hl528_2
    have HR528_4 := Aside0.mk hi528_4
    have HC528_4 := Aside0.mk hl528_4
    clear hi528_4 hl528_4
    replace p528 := eq_true p528
    replace q528 := eq_true q528
    have p529 : 0 ≤ (x5_1 : Int) := od
    have q529 : x5_1 < (l1.length : Int) := od
    obtain ⟨ad529, A529_2, c529_2, A529_4, c529_4, e529, hx529, hl529_2, hi529_2, hl529_4, hi529_4⟩ := att52 HR1.out x5_1 p529 q529
    have hw529 := hx529
    cases e529
    replace hx529 := ox5 HB hx529
    have HR529_2 := Aside0.mk hi529_2
    have HC529_2 := Aside0.mk hl529_2
    clear hi529_2 hl529_2
    have HR529_4 := Aside0.mk hi529_4
    have HC529_4 := Aside0.mk hl529_4
    clear hi529_4 hl529_4
    replace p529 := eq_true p529
    replace q529 := eq_true q529
    refine start_ (n := 10) (S := fun w' => eT52 (ad528.add ((x5_1).toNat * 5)) (rd_T52 l0 x5_1) A528_2 c528_2 A528_4 c528_4 w' ∧ eT52 (ad529.add ((x5_1).toNat * 5)) (rd_T52 l1 x5_1) A529_2 c529_2 A529_4 c529_4 w') (ds := []) #[false, false, false, false, false, false, false, false, false, false] (by kernel_rfl) rfl rfl ⟨(ox5 HB hw528 :), (ox5 HB hw529 :)⟩ (fun hHeld => ?_); refine with_tabW laws_eqDescS.tab6 laws_eqDescS.bits6 (fun HT_ HW_ => ?_)
    generalize wr.drew = w11 at HB HR528_2 HR528_4 HR529_2 HR529_4 hx528 hx529 hHeld ⊢
    refine pu 0 17 ?_; refine pu 1 18 ?_; refine pu 2 19 ?_; refine pu 4 21 ?_; refine pu 5 22 ?_; refine pu 6 23 ?_; refine ta 3 20 ?_; refine ta 7 24 ?_
    refine on1 8 (some 25) (fun K hK => ?_)
    refine gS Tryz.func183 #[.agg #[.int .i64 ((rd_T52 l0 x5_1).f0), .int .i64 ((rd_T52 l0 x5_1).f1), .slice A528_2 ((rd_T52 l0 x5_1).f2).length c528_2, .int .i64 ((rd_T52 l0 x5_1).f3.f0), .slice A528_4 ((rd_T52 l0 x5_1).f3.f1).length c528_4], .agg #[.int .i64 ((rd_T52 l1 x5_1).f0), .int .i64 ((rd_T52 l1 x5_1).f1), .slice A529_2 ((rd_T52 l1 x5_1).f2).length c529_2, .int .i64 ((rd_T52 l1 x5_1).f3.f0), .slice A529_4 ((rd_T52 l1 x5_1).f3.f1).length c529_4]] ?_
    with_reducible refine (laws_eqDesc.calls k1 ((rd_T52 l0 x5_1).f0) ((rd_T52 l0 x5_1).f1) _ _ ((rd_T52 l0 x5_1).f2) ((rd_T52 l0 x5_1).f3.f0) _ _ ((rd_T52 l0 x5_1).f3.f1) ((rd_T52 l1 x5_1).f0) ((rd_T52 l1 x5_1).f1) _ _ ((rd_T52 l1 x5_1).f2) ((rd_T52 l1 x5_1).f3.f0) _ _ ((rd_T52 l1 x5_1).f3.f1) false _ ?side1 ?side2 ?side3 ?side4 ?side5 ?side6 ?side7 ?side8 A7.out).mono ?_
    (case side1 => exact kc HR528_2 HB)
    (case side2 => exact HC528_2.out)
    (case side3 => exact kc HR528_4 HB)
    (case side4 => exact HC528_4.out)
    (case side5 => exact kc HR529_2 HB)
    (case side6 => exact HC529_2.out)
    (case side7 => exact kc HR529_4 HB)
    (case side8 => exact HC529_4.out)
    rintro e w12 ⟨rfl, hb⟩
    refine ⟨_, rfl, ?_⟩
    replace HB := bs HB hb
    (try clear hb)
    (try clear hb2)
    (try clear hk)
    (try clear hi)
    refine hK.out _ _ ⟨(ox5 HB hw528 :), (ox5 HB hw529 :)⟩ (fun hHeld => ?_)
    clear hK K
    refine nm 25 ?_
    refine pu 9 26 ?_
    refine done_ (done_of HT_.out (by kernel_rfl)) ?_
    try go_wp2
    go_ret
    exact ⟨er, tb HB⟩
   replace H := ipt H
   have H' := Aside0.mk H
   clear H
   try go_wp2
   replace HB := Aside0.mk (below_drew1 HB.out)
   have p528 : 0 ≤ (x5_1 : Int) := od
   have q528 : x5_1 < (l0.length : Int) := od
   obtain ⟨ad528, A528_2, c528_2, A528_4, c528_4, e528, hx528, hl528_2, hi528_2, hl528_4, hi528_4⟩ := att52 HR0.out x5_1 p528 q528
   have hw528 := hx528
   cases e528
   replace hx528 := ox5 HB hx528
   have HR528_2 := Aside0.mk hi528_2
   have HC528_2 := Aside0.mk hl528_2
   clear hi528_2 hl528_2
   have HR528_4 := Aside0.mk hi528_4
   have HC528_4 := Aside0.mk hl528_4
   clear hi528_4 hl528_4
   replace p528 := eq_true p528
   replace q528 := eq_true q528
   have p529 : 0 ≤ (x5_1 : Int) := od
   have q529 : x5_1 < (l1.length : Int) := od
   obtain ⟨ad529, A529_2, c529_2, A529_4, c529_4, e529, hx529, hl529_2, hi529_2, hl529_4, hi529_4⟩ := att52 HR1.out x5_1 p529 q529
   have hw529 := hx529
   cases e529
   replace hx529 := ox5 HB hx529
   have HR529_2 := Aside0.mk hi529_2
   have HC529_2 := Aside0.mk hl529_2
   clear hi529_2 hl529_2
   have HR529_4 := Aside0.mk hi529_4
   have HC529_4 := Aside0.mk hl529_4
   clear hi529_4 hl529_4
   replace p529 := eq_true p529
   replace q529 := eq_true q529
   refine start_ (n := 10) (S := fun w' => eT52 (ad528.add ((x5_1).toNat * 5)) (rd_T52 l0 x5_1) A528_2 c528_2 A528_4 c528_4 w' ∧ eT52 (ad529.add ((x5_1).toNat * 5)) (rd_T52 l1 x5_1) A529_2 c529_2 A529_4 c529_4 w') (ds := []) #[false, false, false, false, false, false, false, false, false, false] (by kernel_rfl) rfl rfl ⟨(ox5 HB hw528 :), (ox5 HB hw529 :)⟩ (fun hHeld => ?_); refine with_tabW laws_eqDescS.tab6 laws_eqDescS.bits6 (fun HT_ HW_ => ?_)
   generalize wr.drew = w9 at HB HR528_2 HR528_4 HR529_2 HR529_4 hx528 hx529 hHeld ⊢
   refine pu 0 17 ?_; refine pu 1 18 ?_; refine pu 2 19 ?_; refine pu 4 21 ?_; refine pu 5 22 ?_; refine pu 6 23 ?_; refine ta 3 20 ?_; refine ta 7 24 ?_
   refine on1 8 (some 25) (fun K hK => ?_)
   refine gS Tryz.func183 #[.agg #[.int .i64 ((rd_T52 l0 x5_1).f0), .int .i64 ((rd_T52 l0 x5_1).f1), .slice A528_2 ((rd_T52 l0 x5_1).f2).length c528_2, .int .i64 ((rd_T52 l0 x5_1).f3.f0), .slice A528_4 ((rd_T52 l0 x5_1).f3.f1).length c528_4], .agg #[.int .i64 ((rd_T52 l1 x5_1).f0), .int .i64 ((rd_T52 l1 x5_1).f1), .slice A529_2 ((rd_T52 l1 x5_1).f2).length c529_2, .int .i64 ((rd_T52 l1 x5_1).f3.f0), .slice A529_4 ((rd_T52 l1 x5_1).f3.f1).length c529_4]] ?_
   with_reducible refine (laws_eqDesc.calls k1 ((rd_T52 l0 x5_1).f0) ((rd_T52 l0 x5_1).f1) _ _ ((rd_T52 l0 x5_1).f2) ((rd_T52 l0 x5_1).f3.f0) _ _ ((rd_T52 l0 x5_1).f3.f1) ((rd_T52 l1 x5_1).f0) ((rd_T52 l1 x5_1).f1) _ _ ((rd_T52 l1 x5_1).f2) ((rd_T52 l1 x5_1).f3.f0) _ _ ((rd_T52 l1 x5_1).f3.f1) true _ ?side1 ?side2 ?side3 ?side4 ?side5 ?side6 ?side7 ?side8 A7.out).mono ?_
   (case side1 => exact kc HR528_2 HB)
   (case side2 => exact HC528_2.out)
   (case side3 => exact kc HR528_4 HB)
   (case side4 => exact HC528_4.out)
   (case side5 => exact kc HR529_2 HB)
   (case side6 => exact HC529_2.out)
   (case side7 => exact kc HR529_4 HB)
   (case side8 => exact HC529_4.out)
   rintro e w10 ⟨rfl, hb⟩
   refine ⟨_, rfl, ?_⟩
   replace HB := bs HB hb
   (try clear hb)
   (try clear hb2)
   (try clear hk)
   (try clear hi)
   refine hK.out _ _ ⟨(ox5 HB hw528 :), (ox5 HB hw529 :)⟩ (fun hHeld => ?_)
   clear hK K
   refine nm 25 ?_
   refine pu 9 26 ?_
   refine done_ (done_of HT_.out (by kernel_rfl)) ?_
   try go_wp2
   go_roundg k1
   case measure => have := HK1.out; omega
   case rel => exact ⟨(wrap64 (x5_1 + 1)), rsd, H', ⟨by have := HK1.out; omega⟩, ⟨tb HB⟩⟩
def laws_eqMem.f (k : Nat) (l0_0 : List (S39)) (l0_1 : List (S52)) (l1_0 : List (S39)) (l1_1 : List (S52)) : Option (Bool) := (laws_eqWordS.f k l0_0 l1_0).bind fun t533 => (if t533 = true then ((laws_eqDescS.f k l0_1 l1_1).bind fun t534 => (if t534 = true then (some true) else (some false))) else (some false))
set_option maxHeartbeats 8000000 in
set_option maxRecDepth 100000 in
theorem laws_eqMem.calls (k : Nat) (A0_0 : Option Addr) (c0_0 : Nat) (l0_0 : List (S39)) (A0_1 : Option Addr) (c0_1 : Nat) (l0_1 : List (S52)) (A1_0 : Option Addr) (c1_0 : Nat) (l1_0 : List (S39)) (A1_1 : Option Addr) (c1_1 : Nat) (l1_1 : List (S52)) (r : Bool) (w : World) (hr0_0 : Kd.C k39 w A0_0 l0_0.length l0_0) (hc0_0 : l0_0.length ≤ c0_0) (hr0_1 : Kd.C k52 w A0_1 l0_1.length l0_1) (hc0_1 : l0_1.length ≤ c0_1) (hr1_0 : Kd.C k39 w A1_0 l1_0.length l1_0) (hc1_0 : l1_0.length ≤ c1_0) (hr1_1 : Kd.C k52 w A1_1 l1_1.length l1_1) (hc1_1 : l1_1.length ≤ c1_1) (h : laws_eqMem.f k l0_0 l0_1 l1_0 l1_1 = some r) :
  Calls Tryz.prog 98 #[.agg #[.slice A0_0 l0_0.length c0_0, .slice A0_1 l0_1.length c0_1], .agg #[.slice A1_0 l1_0.length c1_0, .slice A1_1 l1_1.length c1_1]] w fun e w' => e = .returned (.bool r) ∧ Below w.heap.size w w' := by
 have hu27 := Tryz.underlying27
 have HR0_0 := Aside0.mk hr0_0
 have HC0_0 := Aside0.mk hc0_0
 clear hr0_0 hc0_0
 have HR0_1 := Aside0.mk hr0_1
 have HC0_1 := Aside0.mk hc0_1
 clear hr0_1 hc0_1
 have HR1_0 := Aside0.mk hr1_0
 have HC1_0 := Aside0.mk hc1_0
 clear hr1_0 hc1_0
 have HR1_1 := Aside0.mk hr1_1
 have HC1_1 := Aside0.mk hc1_1
 clear hr1_1 hc1_1
 have HB := Aside0.mk (Below.refl w.heap.size w)
 have H := h
 clear h
 unfold laws_eqMem.f at H
 obtain ⟨t533, A3, H⟩ := bn H
 try dsimp only at H
 cases t533
 case false =>
  replace H := ipf H
  obtain rfl := oin H
  go_enter Tryz.func98, Tryz.ntmps98
  go_wp2_with (first | ((with_reducible refine gq 2 rfl ?_); refine bx0 HB (N := 2) (t := 27) ?_; clear HB; intro gb531 w25 BK531 GE531 HB) | ((with_reducible refine gq 3 rfl ?_); refine bx1 HB BK531 (N := 3) (t := 27) ?_; clear HB BK531; intro gb532 w26 BK532 GE532 HB NB531_532 NB532_531 BK531; have hnb27 := NB531_532.out; have hnc27 := NB532_531.out; have hz28 := cs2_ BK531; have hz29 := cs2_ BK532) | ((with_reducible refine gf 152 rfl ?_); refine gL 9 Tryz.func152 #[.slice A0_0 l0_0.length c0_0, .slice A1_0 l1_0.length c1_0] ?_; (with_reducible refine (laws_eqWordS.calls k _ _ l0_0 _ _ l1_0 false _ (kc HR0_0 HB) HC0_0.out (kc HR1_0 HB) HC1_0.out A3.out).mono ?_); rintro e w30 ⟨rfl, hb⟩; refine ⟨_, rfl, ?_⟩; replace BK531 := bb BK531 hb; replace BK532 := bb BK532 hb; replace HB := bs HB hb; (try clear hb)))
  go_ret
  exact ⟨er, tb HB⟩
 replace H := ipt H
 obtain ⟨t534, A5, H⟩ := bn H
 try dsimp only at H
 cases t534
 case true =>
  replace H := ipt H
  obtain rfl := oin H
  go_enter Tryz.func98, Tryz.ntmps98
  go_wp2_with (first | ((with_reducible refine gq 2 rfl ?_); refine bx0 HB (N := 2) (t := 27) ?_; clear HB; intro gb531 w7 BK531 GE531 HB) | ((with_reducible refine gq 3 rfl ?_); refine bx1 HB BK531 (N := 3) (t := 27) ?_; clear HB BK531; intro gb532 w8 BK532 GE532 HB NB531_532 NB532_531 BK531; have hnb9 := NB531_532.out; have hnc9 := NB532_531.out; have hz10 := cs2_ BK531; have hz11 := cs2_ BK532) | ((with_reducible refine gf 152 rfl ?_); refine gL 9 Tryz.func152 #[.slice A0_0 l0_0.length c0_0, .slice A1_0 l1_0.length c1_0] ?_; (with_reducible refine (laws_eqWordS.calls k _ _ l0_0 _ _ l1_0 true _ (kc HR0_0 HB) HC0_0.out (kc HR1_0 HB) HC1_0.out A3.out).mono ?_); rintro e w12 ⟨rfl, hb⟩; refine ⟨_, rfl, ?_⟩; replace BK531 := bb BK531 hb; replace BK532 := bb BK532 hb; replace HB := bs HB hb; (try clear hb); have hz13 := cs2_ BK531; have hz14 := cs2_ BK532) | ((with_reducible refine gf 153 rfl ?_); refine gL 15 Tryz.func153 #[.slice A0_1 l0_1.length c0_1, .slice A1_1 l1_1.length c1_1] ?_; (with_reducible refine (laws_eqDescS.calls k _ _ l0_1 _ _ l1_1 true _ (kc HR0_1 HB) HC0_1.out (kc HR1_1 HB) HC1_1.out A5.out).mono ?_); rintro e w15 ⟨rfl, hb⟩; refine ⟨_, rfl, ?_⟩; replace BK531 := bb BK531 hb; replace BK532 := bb BK532 hb; replace HB := bs HB hb; (try clear hb)))
  go_ret
  exact ⟨er, tb HB⟩
 replace H := ipf H
 obtain rfl := oin H
 go_enter Tryz.func98, Tryz.ntmps98
 go_wp2_with (first | ((with_reducible refine gq 2 rfl ?_); refine bx0 HB (N := 2) (t := 27) ?_; clear HB; intro gb531 w16 BK531 GE531 HB) | ((with_reducible refine gq 3 rfl ?_); refine bx1 HB BK531 (N := 3) (t := 27) ?_; clear HB BK531; intro gb532 w17 BK532 GE532 HB NB531_532 NB532_531 BK531; have hnb18 := NB531_532.out; have hnc18 := NB532_531.out; have hz19 := cs2_ BK531; have hz20 := cs2_ BK532) | ((with_reducible refine gf 152 rfl ?_); refine gL 9 Tryz.func152 #[.slice A0_0 l0_0.length c0_0, .slice A1_0 l1_0.length c1_0] ?_; (with_reducible refine (laws_eqWordS.calls k _ _ l0_0 _ _ l1_0 true _ (kc HR0_0 HB) HC0_0.out (kc HR1_0 HB) HC1_0.out A3.out).mono ?_); rintro e w21 ⟨rfl, hb⟩; refine ⟨_, rfl, ?_⟩; replace BK531 := bb BK531 hb; replace BK532 := bb BK532 hb; replace HB := bs HB hb; (try clear hb); have hz22 := cs2_ BK531; have hz23 := cs2_ BK532) | ((with_reducible refine gf 153 rfl ?_); refine gL 15 Tryz.func153 #[.slice A0_1 l0_1.length c0_1, .slice A1_1 l1_1.length c1_1] ?_; (with_reducible refine (laws_eqDescS.calls k _ _ l0_1 _ _ l1_1 false _ (kc HR0_1 HB) HC0_1.out (kc HR1_1 HB) HC1_1.out A5.out).mono ?_); rintro e w24 ⟨rfl, hb⟩; refine ⟨_, rfl, ?_⟩; replace BK531 := bb BK531 hb; replace BK532 := bb BK532 hb; replace HB := bs HB hb; (try clear hb)))
 go_ret
 exact ⟨er, tb HB⟩
def laws_eqOp.f (a0_0 : Int) (a0_1 : Int) (a0_2 : Int) (a1_0 : Int) (a1_1 : Int) (a1_2 : Int) : Option (Bool) := if a0_0 = a1_0 then (if a0_1 = a1_1 then (if a0_2 = a1_2 then (some true) else (some false)) else (some false)) else (some false)
set_option maxHeartbeats 8000000 in
set_option maxRecDepth 100000 in
theorem laws_eqOp.calls (a0_0 : Int) (a0_1 : Int) (a0_2 : Int) (a1_0 : Int) (a1_1 : Int) (a1_2 : Int) (r : Bool) (w : World) (h : laws_eqOp.f a0_0 a0_1 a0_2 a1_0 a1_1 a1_2 = some r) :
  Calls Tryz.prog 187 #[.agg #[.int .i64 a0_0, .int .i64 a0_1, .int .i64 a0_2], .agg #[.int .i64 a1_0, .int .i64 a1_1, .int .i64 a1_2]] w fun e w' => e = .returned (.bool r) ∧ Below w.heap.size w w' := by
 have hu132 := Tryz.underlying132
 have HB := Aside0.mk (Below.refl w.heap.size w)
 have H := h
 clear h
 unfold laws_eqOp.f at H
 by_cases c3 : a0_0 = a1_0
 case neg =>
  rw [if_neg c3] at H
  have c3b0 : (a0_0 == a1_0) = false := beq_eq_false_iff_ne.mpr c3
  have c3b1 : (a0_0 != a1_0) = true := bne_iff_ne.mpr c3
  obtain rfl := oin H
  go_enter Tryz.func187, Tryz.ntmps187
  go_wp2_with (first | ((with_reducible refine gq 2 rfl ?_); refine bx0 HB (N := 2) (t := 132) ?_; clear HB; intro gb535 w21 BK535 GE535 HB) | ((with_reducible refine gq 3 rfl ?_); refine bx1 HB BK535 (N := 3) (t := 132) ?_; clear HB BK535; intro gb536 w22 BK536 GE536 HB NB535_536 NB536_535 BK535; have hnb23 := NB535_536.out; have hnc23 := NB536_535.out; have hz24 := cs3_ BK535; have hz25 := cs3_ BK536))
  go_ret
  exact ⟨er, tb HB⟩
 
 
 rw [if_pos c3] at H
 have c3b0 : (a0_0 == a1_0) = true := beq_iff_eq.mpr c3
 have c3b1 : (a0_0 != a1_0) = false := bne_eq_false_iff_eq.mpr c3
 clear c3
 by_cases c4 : a0_1 = a1_1
 case neg =>
  rw [if_neg c4] at H
  have c4b0 : (a0_1 == a1_1) = false := beq_eq_false_iff_ne.mpr c4
  have c4b1 : (a0_1 != a1_1) = true := bne_iff_ne.mpr c4
  obtain rfl := oin H
  go_enter Tryz.func187, Tryz.ntmps187
  go_wp2_with (first | ((with_reducible refine gq 2 rfl ?_); refine bx0 HB (N := 2) (t := 132) ?_; clear HB; intro gb535 w16 BK535 GE535 HB) | ((with_reducible refine gq 3 rfl ?_); refine bx1 HB BK535 (N := 3) (t := 132) ?_; clear HB BK535; intro gb536 w17 BK536 GE536 HB NB535_536 NB536_535 BK535; have hnb18 := NB535_536.out; have hnc18 := NB536_535.out; have hz19 := cs3_ BK535; have hz20 := cs3_ BK536))
  go_ret
  exact ⟨er, tb HB⟩
 rw [if_pos c4] at H
 have c4b0 : (a0_1 == a1_1) = true := beq_iff_eq.mpr c4
 have c4b1 : (a0_1 != a1_1) = false := bne_eq_false_iff_eq.mpr c4
 clear c4
 by_cases c5 : a0_2 = a1_2
 case neg =>
  rw [if_neg c5] at H
  have c5b0 : (a0_2 == a1_2) = false := beq_eq_false_iff_ne.mpr c5
  have c5b1 : (a0_2 != a1_2) = true := bne_iff_ne.mpr c5
  obtain rfl := oin H
  go_enter Tryz.func187, Tryz.ntmps187
  go_wp2_with (first | ((with_reducible refine gq 2 rfl ?_); refine bx0 HB (N := 2) (t := 132) ?_; clear HB; intro gb535 w11 BK535 GE535 HB) | ((with_reducible refine gq 3 rfl ?_); refine bx1 HB BK535 (N := 3) (t := 132) ?_; clear HB BK535; intro gb536 w12 BK536 GE536 HB NB535_536 NB536_535 BK535; have hnb13 := NB535_536.out; have hnc13 := NB536_535.out; have hz14 := cs3_ BK535; have hz15 := cs3_ BK536))
  go_ret
  exact ⟨er, tb HB⟩
 rw [if_pos c5] at H
 have c5b0 : (a0_2 == a1_2) = true := beq_iff_eq.mpr c5
 have c5b1 : (a0_2 != a1_2) = false := bne_eq_false_iff_eq.mpr c5
 clear c5
 obtain rfl := oin H
 go_enter Tryz.func187, Tryz.ntmps187
 go_wp2_with (first | ((with_reducible refine gq 2 rfl ?_); refine bx0 HB (N := 2) (t := 132) ?_; clear HB; intro gb535 w6 BK535 GE535 HB) | ((with_reducible refine gq 3 rfl ?_); refine bx1 HB BK535 (N := 3) (t := 132) ?_; clear HB BK535; intro gb536 w7 BK536 GE536 HB NB535_536 NB536_535 BK535; have hnb8 := NB535_536.out; have hnc8 := NB536_535.out; have hz9 := cs3_ BK535; have hz10 := cs3_ BK536))
 go_ret
 exact ⟨er, tb HB⟩
def laws_eqOpS.l0 : Nat → List (S132) → List (S132) → Int → Option (Bool)
 | 0, _, _, _ => none
 | k + 1, x0, x1, x5 => if x5 < (x0.length : Int) then (if 0 ≤ x5 then (if x5 < (x1.length : Int) then ((laws_eqOp.f ((rd_T132 x0 x5).f0) ((rd_T132 x0 x5).f1) ((rd_T132 x0 x5).f2) ((rd_T132 x1 x5).f0) ((rd_T132 x1 x5).f1) ((rd_T132 x1 x5).f2)).bind fun t539 => (if t539 = true then (laws_eqOpS.l0 k x0 x1 (wrap64 (x5 + 1))) else (some false))) else (none)) else (none)) else (some true)
def laws_eqOpS.f (k : Nat) (l0 : List (S132)) (l1 : List (S132)) : Option (Bool) := if (l0.length : Int) = (l1.length : Int) then (laws_eqOpS.l0 k l0 l1 0) else (some false)
def laws_eqOpS.T6 : Bool × List (List Nat × List Nat) := (true, [([], []), ([], []), ([0, 1], [0, 1]), ([2], [2]), ([], []), ([], []), ([4, 5], [4, 5]), ([6], [6]), ([3, 7], [3, 7]), ([8], [8])])
def laws_eqOpS.B6 : List Nat := [0, 0, 3, 7, 0, 0, 48, 112, 255, 511]
theorem laws_eqOpS.tab6 : rtab .any (opsOf Tryz.f184 6) = laws_eqOpS.T6 := by kernel_rfl
theorem laws_eqOpS.bits6 : waitsOk laws_eqOpS.T6.2 laws_eqOpS.B6 = true := by kernel_rfl
set_option maxHeartbeats 8000000 in
set_option maxRecDepth 100000 in
theorem laws_eqOpS.calls (k : Nat) (A0 : Option Addr) (c0 : Nat) (l0 : List (S132)) (A1 : Option Addr) (c1 : Nat) (l1 : List (S132)) (r : Bool) (w : World) (hr0 : Kd.C k132 w A0 l0.length l0) (hc0 : l0.length ≤ c0) (hr1 : Kd.C k132 w A1 l1.length l1) (hc1 : l1.length ≤ c1) (h : laws_eqOpS.f k l0 l1 = some r) :
  Calls Tryz.prog 184 #[.slice A0 l0.length c0, .slice A1 l1.length c1] w fun e w' => e = .returned (.bool r) ∧ Below w.heap.size w w' := by
 have hu132 := Tryz.underlying132
 have HR0 := Aside0.mk hr0
 have HC0 := Aside0.mk hc0
 clear hr0 hc0
 have HR1 := Aside0.mk hr1
 have HC1 := Aside0.mk hc1
 clear hr1 hc1
 have HB := Aside0.mk (Below.refl w.heap.size w)
 have H := h
 clear h
 unfold laws_eqOpS.f at H
 by_cases c3 : (l0.length : Int) = (l1.length : Int)
 case neg =>
  rw [if_neg c3] at H
  have c3b0 : ((l0.length : Int) == (l1.length : Int)) = false := beq_eq_false_iff_ne.mpr c3
  have c3b1 : ((l0.length : Int) != (l1.length : Int)) = true := bne_iff_ne.mpr c3
  have c3b2 : (l0.length == l1.length) = false := by first | simpa using c3 | (simp at c3 ⊢; omega)
  obtain rfl := oin H
  go_enter Tryz.func184, Tryz.ntmps184
  go_wp2
  go_ret
  exact ⟨er, tb HB⟩
 
 
 rw [if_pos c3] at H
 have c3b0 : ((l0.length : Int) == (l1.length : Int)) = true := beq_iff_eq.mpr c3
 have c3b1 : ((l0.length : Int) != (l1.length : Int)) = false := bne_eq_false_iff_eq.mpr c3
 have c3b2 : (l0.length == l1.length) = true := by first | simpa using c3 | (simp at c3 ⊢; omega)
 clear c3
 have H' := Aside0.mk H
 clear H
 go_enter Tryz.func184, Tryz.ntmps184
 go_wp2
 go_loopg [5] k (fun kq v5 w' => ∃ (x5_1 : Int), v5 = .int .i64 x5_1 ∧ Aside0 (laws_eqOpS.l0 kq l0 l1 x5_1 = some r) ∧ Aside0 (kq ≤ k) ∧ Aside0 (Below w.heap.size w w'))
 case atStart => exact ⟨(0), rsd, H', ⟨Nat.le_refl _⟩, ⟨tb HB⟩⟩
 case round =>
  clear H'
  try clear c1
  try clear p2
  try clear c3
  try clear c3b0
  try clear c3b1
  try clear c3b2
  obtain ⟨x5_1, rfl, HA, HK1, HB⟩ := hrel
  cases gk with
  | zero => exact absurd HA.out (by simp [laws_eqOpS.l0])
  | succ k1 =>
   have H := HA.out
   clear HA
   simp only [laws_eqOpS.l0] at H
   revert H; refine icd (fun c4b0 H => ?_) fun c4b0 H => ?neg
   case neg =>
    obtain rfl := oin H
    go_wp2
    go_ret
    exact ⟨er, tb HB⟩
   obtain ⟨c5b0, H⟩ := itd H
   obtain ⟨c6b0, H⟩ := itd H
   obtain ⟨t539, A7, H⟩ := bn H
   try dsimp only at H
   cases t539
   case false =>
    replace H := ipf H
    obtain rfl := oin H
    try go_wp2
    replace HB := Aside0.mk (below_drew1 HB.out)
    have p537 : 0 ≤ (x5_1 : Int) := od
    have q537 : x5_1 < (l0.length : Int) := od
    obtain ⟨ad537, e537, hx537⟩ := att132 HR0.out x5_1 p537 q537
    have hw537 := hx537
    cases e537
    replace hx537 := ox3 HB hx537
    replace p537 := eq_true p537
    replace q537 := eq_true q537
    have p538 : 0 ≤ (x5_1 : Int) := od
    have q538 : x5_1 < (l1.length : Int) := od
    obtain ⟨ad538, e538, hx538⟩ := att132 HR1.out x5_1 p538 q538
    have hw538 := hx538
    cases e538
    replace hx538 := ox3 HB hx538
    replace p538 := eq_true p538
    replace q538 := eq_true q538
    refine start_ (n := 10) (S := fun w' => eT132 (ad537.add ((x5_1).toNat * 3)) (rd_T132 l0 x5_1) w' ∧ eT132 (ad538.add ((x5_1).toNat * 3)) (rd_T132 l1 x5_1) w') (ds := []) #[false, false, false, false, false, false, false, false, false, false] (by kernel_rfl) rfl rfl ⟨(ox3 HB hw537 :), (ox3 HB hw538 :)⟩ (fun hHeld => ?_); refine with_tabW laws_eqOpS.tab6 laws_eqOpS.bits6 (fun HT_ HW_ => ?_)
    generalize wr.drew = w11 at HB hx537 hx538 hHeld ⊢
    refine pu 0 17 ?_; refine pu 1 18 ?_; refine pu 2 19 ?_; refine pu 4 21 ?_; refine pu 5 22 ?_; refine pu 6 23 ?_; refine ta 3 20 ?_; refine ta 7 24 ?_
    refine on1 8 (some 25) (fun K hK => ?_)
    refine gS Tryz.func187 #[.agg #[.int .i64 ((rd_T132 l0 x5_1).f0), .int .i64 ((rd_T132 l0 x5_1).f1), .int .i64 ((rd_T132 l0 x5_1).f2)], .agg #[.int .i64 ((rd_T132 l1 x5_1).f0), .int .i64 ((rd_T132 l1 x5_1).f1), .int .i64 ((rd_T132 l1 x5_1).f2)]] ?_
    with_reducible refine (laws_eqOp.calls ((rd_T132 l0 x5_1).f0) ((rd_T132 l0 x5_1).f1) ((rd_T132 l0 x5_1).f2) ((rd_T132 l1 x5_1).f0) ((rd_T132 l1 x5_1).f1) ((rd_T132 l1 x5_1).f2) false _ A7.out).mono ?_
    rintro e w12 ⟨rfl, hb⟩
    refine ⟨_, rfl, ?_⟩
    replace HB := bs HB hb
    (try clear hb)
    (try clear hb2)
    (try clear hk)
    (try clear hi)
    refine hK.out _ _ ⟨(ox3 HB hw537 :), (ox3 HB hw538 :)⟩ (fun hHeld => ?_)
    clear hK K
    refine nm 25 ?_
    refine pu 9 26 ?_
    refine done_ (done_of HT_.out (by kernel_rfl)) ?_
    try go_wp2
    go_ret
    exact ⟨er, tb HB⟩
   replace H := ipt H
   have H' := Aside0.mk H
   clear H
   try go_wp2
   replace HB := Aside0.mk (below_drew1 HB.out)
   have p537 : 0 ≤ (x5_1 : Int) := od
   have q537 : x5_1 < (l0.length : Int) := od
   obtain ⟨ad537, e537, hx537⟩ := att132 HR0.out x5_1 p537 q537
   have hw537 := hx537
   cases e537
   replace hx537 := ox3 HB hx537
   replace p537 := eq_true p537
   replace q537 := eq_true q537
   have p538 : 0 ≤ (x5_1 : Int) := od
   have q538 : x5_1 < (l1.length : Int) := od
   obtain ⟨ad538, e538, hx538⟩ := att132 HR1.out x5_1 p538 q538
   have hw538 := hx538
   cases e538
   replace hx538 := ox3 HB hx538
   replace p538 := eq_true p538
   replace q538 := eq_true q538
   refine start_ (n := 10) (S := fun w' => eT132 (ad537.add ((x5_1).toNat * 3)) (rd_T132 l0 x5_1) w' ∧ eT132 (ad538.add ((x5_1).toNat * 3)) (rd_T132 l1 x5_1) w') (ds := []) #[false, false, false, false, false, false, false, false, false, false] (by kernel_rfl) rfl rfl ⟨(ox3 HB hw537 :), (ox3 HB hw538 :)⟩ (fun hHeld => ?_); refine with_tabW laws_eqOpS.tab6 laws_eqOpS.bits6 (fun HT_ HW_ => ?_)
   generalize wr.drew = w9 at HB hx537 hx538 hHeld ⊢
   refine pu 0 17 ?_; refine pu 1 18 ?_; refine pu 2 19 ?_; refine pu 4 21 ?_; refine pu 5 22 ?_; refine pu 6 23 ?_; refine ta 3 20 ?_; refine ta 7 24 ?_
   refine on1 8 (some 25) (fun K hK => ?_)
   refine gS Tryz.func187 #[.agg #[.int .i64 ((rd_T132 l0 x5_1).f0), .int .i64 ((rd_T132 l0 x5_1).f1), .int .i64 ((rd_T132 l0 x5_1).f2)], .agg #[.int .i64 ((rd_T132 l1 x5_1).f0), .int .i64 ((rd_T132 l1 x5_1).f1), .int .i64 ((rd_T132 l1 x5_1).f2)]] ?_
   with_reducible refine (laws_eqOp.calls ((rd_T132 l0 x5_1).f0) ((rd_T132 l0 x5_1).f1) ((rd_T132 l0 x5_1).f2) ((rd_T132 l1 x5_1).f0) ((rd_T132 l1 x5_1).f1) ((rd_T132 l1 x5_1).f2) true _ A7.out).mono ?_
   rintro e w10 ⟨rfl, hb⟩
   refine ⟨_, rfl, ?_⟩
   replace HB := bs HB hb
   (try clear hb)
   (try clear hb2)
   (try clear hk)
   (try clear hi)
   refine hK.out _ _ ⟨(ox3 HB hw537 :), (ox3 HB hw538 :)⟩ (fun hHeld => ?_)
   clear hK K
   refine nm 25 ?_
   refine pu 9 26 ?_
   refine done_ (done_of HT_.out (by kernel_rfl)) ?_
   try go_wp2
   go_roundg k1
   case measure => have := HK1.out; omega
   case rel => exact ⟨(wrap64 (x5_1 + 1)), rsd, H', ⟨by have := HK1.out; omega⟩, ⟨tb HB⟩⟩
def laws_eqPair.f (a0_0 : Int) (a0_1 : Int) (a1_0 : Int) (a1_1 : Int) : Option (Bool) := if a0_0 = a1_0 then (if a0_1 = a1_1 then (some true) else (some false)) else (some false)
set_option maxHeartbeats 8000000 in
set_option maxRecDepth 100000 in
theorem laws_eqPair.calls (a0_0 : Int) (a0_1 : Int) (a1_0 : Int) (a1_1 : Int) (r : Bool) (w : World) (h : laws_eqPair.f a0_0 a0_1 a1_0 a1_1 = some r) :
  Calls Tryz.prog 195 #[.agg #[.int .i64 a0_0, .int .i64 a0_1], .agg #[.int .i64 a1_0, .int .i64 a1_1]] w fun e w' => e = .returned (.bool r) ∧ Below w.heap.size w w' := by
 have hu145 := Tryz.underlying145
 have HB := Aside0.mk (Below.refl w.heap.size w)
 have H := h
 clear h
 unfold laws_eqPair.f at H
 by_cases c3 : a0_0 = a1_0
 case neg =>
  rw [if_neg c3] at H
  have c3b0 : (a0_0 == a1_0) = false := beq_eq_false_iff_ne.mpr c3
  have c3b1 : (a0_0 != a1_0) = true := bne_iff_ne.mpr c3
  obtain rfl := oin H
  go_enter Tryz.func195, Tryz.ntmps195
  go_wp2_with (first | ((with_reducible refine gq 2 rfl ?_); refine bx0 HB (N := 2) (t := 145) ?_; clear HB; intro gb540 w15 BK540 GE540 HB) | ((with_reducible refine gq 3 rfl ?_); refine bx1 HB BK540 (N := 3) (t := 145) ?_; clear HB BK540; intro gb541 w16 BK541 GE541 HB NB540_541 NB541_540 BK540; have hnb17 := NB540_541.out; have hnc17 := NB541_540.out; have hz18 := cs2_ BK540; have hz19 := cs2_ BK541))
  go_ret
  exact ⟨er, tb HB⟩
 
 
 rw [if_pos c3] at H
 have c3b0 : (a0_0 == a1_0) = true := beq_iff_eq.mpr c3
 have c3b1 : (a0_0 != a1_0) = false := bne_eq_false_iff_eq.mpr c3
 clear c3
 by_cases c4 : a0_1 = a1_1
 case neg =>
  rw [if_neg c4] at H
  have c4b0 : (a0_1 == a1_1) = false := beq_eq_false_iff_ne.mpr c4
  have c4b1 : (a0_1 != a1_1) = true := bne_iff_ne.mpr c4
  obtain rfl := oin H
  go_enter Tryz.func195, Tryz.ntmps195
  go_wp2_with (first | ((with_reducible refine gq 2 rfl ?_); refine bx0 HB (N := 2) (t := 145) ?_; clear HB; intro gb540 w10 BK540 GE540 HB) | ((with_reducible refine gq 3 rfl ?_); refine bx1 HB BK540 (N := 3) (t := 145) ?_; clear HB BK540; intro gb541 w11 BK541 GE541 HB NB540_541 NB541_540 BK540; have hnb12 := NB540_541.out; have hnc12 := NB541_540.out; have hz13 := cs2_ BK540; have hz14 := cs2_ BK541))
  go_ret
  exact ⟨er, tb HB⟩
 rw [if_pos c4] at H
 have c4b0 : (a0_1 == a1_1) = true := beq_iff_eq.mpr c4
 have c4b1 : (a0_1 != a1_1) = false := bne_eq_false_iff_eq.mpr c4
 clear c4
 obtain rfl := oin H
 go_enter Tryz.func195, Tryz.ntmps195
 go_wp2_with (first | ((with_reducible refine gq 2 rfl ?_); refine bx0 HB (N := 2) (t := 145) ?_; clear HB; intro gb540 w5 BK540 GE540 HB) | ((with_reducible refine gq 3 rfl ?_); refine bx1 HB BK540 (N := 3) (t := 145) ?_; clear HB BK540; intro gb541 w6 BK541 GE541 HB NB540_541 NB541_540 BK540; have hnb7 := NB540_541.out; have hnc7 := NB541_540.out; have hz8 := cs2_ BK540; have hz9 := cs2_ BK541))
 go_ret
 exact ⟨er, tb HB⟩
def laws_eqPairS.l0 : Nat → List (S145) → List (S145) → Int → Option (Bool)
 | 0, _, _, _ => none
 | k + 1, x0, x1, x5 => if x5 < (x0.length : Int) then (if 0 ≤ x5 then (if x5 < (x1.length : Int) then ((laws_eqPair.f ((rd_T145 x0 x5).f0) ((rd_T145 x0 x5).f1) ((rd_T145 x1 x5).f0) ((rd_T145 x1 x5).f1)).bind fun t544 => (if t544 = true then (laws_eqPairS.l0 k x0 x1 (wrap64 (x5 + 1))) else (some false))) else (none)) else (none)) else (some true)
def laws_eqPairS.f (k : Nat) (l0 : List (S145)) (l1 : List (S145)) : Option (Bool) := if (l0.length : Int) = (l1.length : Int) then (laws_eqPairS.l0 k l0 l1 0) else (some false)
def laws_eqPairS.T6 : Bool × List (List Nat × List Nat) := (true, [([], []), ([], []), ([0, 1], [0, 1]), ([2], [2]), ([], []), ([], []), ([4, 5], [4, 5]), ([6], [6]), ([3, 7], [3, 7]), ([8], [8])])
def laws_eqPairS.B6 : List Nat := [0, 0, 3, 7, 0, 0, 48, 112, 255, 511]
theorem laws_eqPairS.tab6 : rtab .any (opsOf Tryz.f185 6) = laws_eqPairS.T6 := by kernel_rfl
theorem laws_eqPairS.bits6 : waitsOk laws_eqPairS.T6.2 laws_eqPairS.B6 = true := by kernel_rfl
set_option maxHeartbeats 8000000 in
set_option maxRecDepth 100000 in
theorem laws_eqPairS.calls (k : Nat) (A0 : Option Addr) (c0 : Nat) (l0 : List (S145)) (A1 : Option Addr) (c1 : Nat) (l1 : List (S145)) (r : Bool) (w : World) (hr0 : Kd.C k145 w A0 l0.length l0) (hc0 : l0.length ≤ c0) (hr1 : Kd.C k145 w A1 l1.length l1) (hc1 : l1.length ≤ c1) (h : laws_eqPairS.f k l0 l1 = some r) :
  Calls Tryz.prog 185 #[.slice A0 l0.length c0, .slice A1 l1.length c1] w fun e w' => e = .returned (.bool r) ∧ Below w.heap.size w w' := by
 have hu145 := Tryz.underlying145
 have HR0 := Aside0.mk hr0
 have HC0 := Aside0.mk hc0
 clear hr0 hc0
 have HR1 := Aside0.mk hr1
 have HC1 := Aside0.mk hc1
 clear hr1 hc1
 have HB := Aside0.mk (Below.refl w.heap.size w)
 have H := h
 clear h
 unfold laws_eqPairS.f at H
 by_cases c3 : (l0.length : Int) = (l1.length : Int)
 case neg =>
  rw [if_neg c3] at H
  have c3b0 : ((l0.length : Int) == (l1.length : Int)) = false := beq_eq_false_iff_ne.mpr c3
  have c3b1 : ((l0.length : Int) != (l1.length : Int)) = true := bne_iff_ne.mpr c3
  have c3b2 : (l0.length == l1.length) = false := by first | simpa using c3 | (simp at c3 ⊢; omega)
  obtain rfl := oin H
  go_enter Tryz.func185, Tryz.ntmps185
  go_wp2
  go_ret
  exact ⟨er, tb HB⟩
 
 
 rw [if_pos c3] at H
 have c3b0 : ((l0.length : Int) == (l1.length : Int)) = true := beq_iff_eq.mpr c3
 have c3b1 : ((l0.length : Int) != (l1.length : Int)) = false := bne_eq_false_iff_eq.mpr c3
 have c3b2 : (l0.length == l1.length) = true := by first | simpa using c3 | (simp at c3 ⊢; omega)
 clear c3
 have H' := Aside0.mk H
 clear H
 go_enter Tryz.func185, Tryz.ntmps185
 go_wp2
 go_loopg [5] k (fun kq v5 w' => ∃ (x5_1 : Int), v5 = .int .i64 x5_1 ∧ Aside0 (laws_eqPairS.l0 kq l0 l1 x5_1 = some r) ∧ Aside0 (kq ≤ k) ∧ Aside0 (Below w.heap.size w w'))
 case atStart => exact ⟨(0), rsd, H', ⟨Nat.le_refl _⟩, ⟨tb HB⟩⟩
 case round =>
  clear H'
  try clear c1
  try clear p2
  try clear c3
  try clear c3b0
  try clear c3b1
  try clear c3b2
  obtain ⟨x5_1, rfl, HA, HK1, HB⟩ := hrel
  cases gk with
  | zero => exact absurd HA.out (by simp [laws_eqPairS.l0])
  | succ k1 =>
   have H := HA.out
   clear HA
   simp only [laws_eqPairS.l0] at H
   revert H; refine icd (fun c4b0 H => ?_) fun c4b0 H => ?neg
   case neg =>
    obtain rfl := oin H
    go_wp2
    go_ret
    exact ⟨er, tb HB⟩
   obtain ⟨c5b0, H⟩ := itd H
   obtain ⟨c6b0, H⟩ := itd H
   obtain ⟨t544, A7, H⟩ := bn H
   try dsimp only at H
   cases t544
   case false =>
    replace H := ipf H
    obtain rfl := oin H
    try go_wp2
    replace HB := Aside0.mk (below_drew1 HB.out)
    have p542 : 0 ≤ (x5_1 : Int) := od
    have q542 : x5_1 < (l0.length : Int) := od
    obtain ⟨ad542, e542, hx542⟩ := att145 HR0.out x5_1 p542 q542
    have hw542 := hx542
    cases e542
    replace hx542 := ox2 HB hx542
    replace p542 := eq_true p542
    replace q542 := eq_true q542
    have p543 : 0 ≤ (x5_1 : Int) := od
    have q543 : x5_1 < (l1.length : Int) := od
    obtain ⟨ad543, e543, hx543⟩ := att145 HR1.out x5_1 p543 q543
    have hw543 := hx543
    cases e543
    replace hx543 := ox2 HB hx543
    replace p543 := eq_true p543
    replace q543 := eq_true q543
    refine start_ (n := 10) (S := fun w' => eT145 (ad542.add ((x5_1).toNat * 2)) (rd_T145 l0 x5_1) w' ∧ eT145 (ad543.add ((x5_1).toNat * 2)) (rd_T145 l1 x5_1) w') (ds := []) #[false, false, false, false, false, false, false, false, false, false] (by kernel_rfl) rfl rfl ⟨(ox2 HB hw542 :), (ox2 HB hw543 :)⟩ (fun hHeld => ?_); refine with_tabW laws_eqPairS.tab6 laws_eqPairS.bits6 (fun HT_ HW_ => ?_)
    generalize wr.drew = w11 at HB hx542 hx543 hHeld ⊢
    refine pu 0 17 ?_; refine pu 1 18 ?_; refine pu 2 19 ?_; refine pu 4 21 ?_; refine pu 5 22 ?_; refine pu 6 23 ?_; refine ta 3 20 ?_; refine ta 7 24 ?_
    refine on1 8 (some 25) (fun K hK => ?_)
    refine gS Tryz.func195 #[.agg #[.int .i64 ((rd_T145 l0 x5_1).f0), .int .i64 ((rd_T145 l0 x5_1).f1)], .agg #[.int .i64 ((rd_T145 l1 x5_1).f0), .int .i64 ((rd_T145 l1 x5_1).f1)]] ?_
    with_reducible refine (laws_eqPair.calls ((rd_T145 l0 x5_1).f0) ((rd_T145 l0 x5_1).f1) ((rd_T145 l1 x5_1).f0) ((rd_T145 l1 x5_1).f1) false _ A7.out).mono ?_
    rintro e w12 ⟨rfl, hb⟩
    refine ⟨_, rfl, ?_⟩
    replace HB := bs HB hb
    (try clear hb)
    (try clear hb2)
    (try clear hk)
    (try clear hi)
    refine hK.out _ _ ⟨(ox2 HB hw542 :), (ox2 HB hw543 :)⟩ (fun hHeld => ?_)
    clear hK K
    refine nm 25 ?_
    refine pu 9 26 ?_
    refine done_ (done_of HT_.out (by kernel_rfl)) ?_
    try go_wp2
    go_ret
    exact ⟨er, tb HB⟩
   replace H := ipt H
   have H' := Aside0.mk H
   clear H
   try go_wp2
   replace HB := Aside0.mk (below_drew1 HB.out)
   have p542 : 0 ≤ (x5_1 : Int) := od
   have q542 : x5_1 < (l0.length : Int) := od
   obtain ⟨ad542, e542, hx542⟩ := att145 HR0.out x5_1 p542 q542
   have hw542 := hx542
   cases e542
   replace hx542 := ox2 HB hx542
   replace p542 := eq_true p542
   replace q542 := eq_true q542
   have p543 : 0 ≤ (x5_1 : Int) := od
   have q543 : x5_1 < (l1.length : Int) := od
   obtain ⟨ad543, e543, hx543⟩ := att145 HR1.out x5_1 p543 q543
   have hw543 := hx543
   cases e543
   replace hx543 := ox2 HB hx543
   replace p543 := eq_true p543
   replace q543 := eq_true q543
   refine start_ (n := 10) (S := fun w' => eT145 (ad542.add ((x5_1).toNat * 2)) (rd_T145 l0 x5_1) w' ∧ eT145 (ad543.add ((x5_1).toNat * 2)) (rd_T145 l1 x5_1) w') (ds := []) #[false, false, false, false, false, false, false, false, false, false] (by kernel_rfl) rfl rfl ⟨(ox2 HB hw542 :), (ox2 HB hw543 :)⟩ (fun hHeld => ?_); refine with_tabW laws_eqPairS.tab6 laws_eqPairS.bits6 (fun HT_ HW_ => ?_)
   generalize wr.drew = w9 at HB hx542 hx543 hHeld ⊢
   refine pu 0 17 ?_; refine pu 1 18 ?_; refine pu 2 19 ?_; refine pu 4 21 ?_; refine pu 5 22 ?_; refine pu 6 23 ?_; refine ta 3 20 ?_; refine ta 7 24 ?_
   refine on1 8 (some 25) (fun K hK => ?_)
   refine gS Tryz.func195 #[.agg #[.int .i64 ((rd_T145 l0 x5_1).f0), .int .i64 ((rd_T145 l0 x5_1).f1)], .agg #[.int .i64 ((rd_T145 l1 x5_1).f0), .int .i64 ((rd_T145 l1 x5_1).f1)]] ?_
   with_reducible refine (laws_eqPair.calls ((rd_T145 l0 x5_1).f0) ((rd_T145 l0 x5_1).f1) ((rd_T145 l1 x5_1).f0) ((rd_T145 l1 x5_1).f1) true _ A7.out).mono ?_
   rintro e w10 ⟨rfl, hb⟩
   refine ⟨_, rfl, ?_⟩
   replace HB := bs HB hb
   (try clear hb)
   (try clear hb2)
   (try clear hk)
   (try clear hi)
   refine hK.out _ _ ⟨(ox2 HB hw542 :), (ox2 HB hw543 :)⟩ (fun hHeld => ?_)
   clear hK K
   refine nm 25 ?_
   refine pu 9 26 ?_
   refine done_ (done_of HT_.out (by kernel_rfl)) ?_
   try go_wp2
   go_roundg k1
   case measure => have := HK1.out; omega
   case rel => exact ⟨(wrap64 (x5_1 + 1)), rsd, H', ⟨by have := HK1.out; omega⟩, ⟨tb HB⟩⟩
def laws_eqHelp.f (a0_0 : Int) (a0_1 : Int) (a0_2 : Int) (a0_3 : Int) (a1_0 : Int) (a1_1 : Int) (a1_2 : Int) (a1_3 : Int) : Option (Bool) := if a0_0 = a1_0 then (if a0_1 = a1_1 then (if a0_2 = a1_2 then (if a0_3 = a1_3 then (some true) else (some false)) else (some false)) else (some false)) else (some false)
set_option maxHeartbeats 8000000 in
set_option maxRecDepth 100000 in
theorem laws_eqHelp.calls (a0_0 : Int) (a0_1 : Int) (a0_2 : Int) (a0_3 : Int) (a1_0 : Int) (a1_1 : Int) (a1_2 : Int) (a1_3 : Int) (r : Bool) (w : World) (h : laws_eqHelp.f a0_0 a0_1 a0_2 a0_3 a1_0 a1_1 a1_2 a1_3 = some r) :
  Calls Tryz.prog 196 #[.agg #[.int .i64 a0_0, .int .i64 a0_1, .int .i64 a0_2, .int .i64 a0_3], .agg #[.int .i64 a1_0, .int .i64 a1_1, .int .i64 a1_2, .int .i64 a1_3]] w fun e w' => e = .returned (.bool r) ∧ Below w.heap.size w w' := by
 have hu42 := Tryz.underlying42
 have HB := Aside0.mk (Below.refl w.heap.size w)
 have H := h
 clear h
 unfold laws_eqHelp.f at H
 by_cases c3 : a0_0 = a1_0
 case neg =>
  rw [if_neg c3] at H
  have c3b0 : (a0_0 == a1_0) = false := beq_eq_false_iff_ne.mpr c3
  have c3b1 : (a0_0 != a1_0) = true := bne_iff_ne.mpr c3
  obtain rfl := oin H
  go_enter Tryz.func196, Tryz.ntmps196
  go_wp2_with (first | ((with_reducible refine gq 2 rfl ?_); refine bx0 HB (N := 2) (t := 42) ?_; clear HB; intro gb545 w27 BK545 GE545 HB) | ((with_reducible refine gq 3 rfl ?_); refine bx1 HB BK545 (N := 3) (t := 42) ?_; clear HB BK545; intro gb546 w28 BK546 GE546 HB NB545_546 NB546_545 BK545; have hnb29 := NB545_546.out; have hnc29 := NB546_545.out; have hz30 := cs4_ BK545; have hz31 := cs4_ BK546))
  go_ret
  exact ⟨er, tb HB⟩
 
 
 rw [if_pos c3] at H
 have c3b0 : (a0_0 == a1_0) = true := beq_iff_eq.mpr c3
 have c3b1 : (a0_0 != a1_0) = false := bne_eq_false_iff_eq.mpr c3
 clear c3
 by_cases c4 : a0_1 = a1_1
 case neg =>
  rw [if_neg c4] at H
  have c4b0 : (a0_1 == a1_1) = false := beq_eq_false_iff_ne.mpr c4
  have c4b1 : (a0_1 != a1_1) = true := bne_iff_ne.mpr c4
  obtain rfl := oin H
  go_enter Tryz.func196, Tryz.ntmps196
  go_wp2_with (first | ((with_reducible refine gq 2 rfl ?_); refine bx0 HB (N := 2) (t := 42) ?_; clear HB; intro gb545 w22 BK545 GE545 HB) | ((with_reducible refine gq 3 rfl ?_); refine bx1 HB BK545 (N := 3) (t := 42) ?_; clear HB BK545; intro gb546 w23 BK546 GE546 HB NB545_546 NB546_545 BK545; have hnb24 := NB545_546.out; have hnc24 := NB546_545.out; have hz25 := cs4_ BK545; have hz26 := cs4_ BK546))
  go_ret
  exact ⟨er, tb HB⟩
 rw [if_pos c4] at H
 have c4b0 : (a0_1 == a1_1) = true := beq_iff_eq.mpr c4
 have c4b1 : (a0_1 != a1_1) = false := bne_eq_false_iff_eq.mpr c4
 clear c4
 by_cases c5 : a0_2 = a1_2
 case neg =>
  rw [if_neg c5] at H
  have c5b0 : (a0_2 == a1_2) = false := beq_eq_false_iff_ne.mpr c5
  have c5b1 : (a0_2 != a1_2) = true := bne_iff_ne.mpr c5
  obtain rfl := oin H
  go_enter Tryz.func196, Tryz.ntmps196
  go_wp2_with (first | ((with_reducible refine gq 2 rfl ?_); refine bx0 HB (N := 2) (t := 42) ?_; clear HB; intro gb545 w17 BK545 GE545 HB) | ((with_reducible refine gq 3 rfl ?_); refine bx1 HB BK545 (N := 3) (t := 42) ?_; clear HB BK545; intro gb546 w18 BK546 GE546 HB NB545_546 NB546_545 BK545; have hnb19 := NB545_546.out; have hnc19 := NB546_545.out; have hz20 := cs4_ BK545; have hz21 := cs4_ BK546))
  go_ret
  exact ⟨er, tb HB⟩
 rw [if_pos c5] at H
 have c5b0 : (a0_2 == a1_2) = true := beq_iff_eq.mpr c5
 have c5b1 : (a0_2 != a1_2) = false := bne_eq_false_iff_eq.mpr c5
 clear c5
 by_cases c6 : a0_3 = a1_3
 case neg =>
  rw [if_neg c6] at H
  have c6b0 : (a0_3 == a1_3) = false := beq_eq_false_iff_ne.mpr c6
  have c6b1 : (a0_3 != a1_3) = true := bne_iff_ne.mpr c6
  obtain rfl := oin H
  go_enter Tryz.func196, Tryz.ntmps196
  go_wp2_with (first | ((with_reducible refine gq 2 rfl ?_); refine bx0 HB (N := 2) (t := 42) ?_; clear HB; intro gb545 w12 BK545 GE545 HB) | ((with_reducible refine gq 3 rfl ?_); refine bx1 HB BK545 (N := 3) (t := 42) ?_; clear HB BK545; intro gb546 w13 BK546 GE546 HB NB545_546 NB546_545 BK545; have hnb14 := NB545_546.out; have hnc14 := NB546_545.out; have hz15 := cs4_ BK545; have hz16 := cs4_ BK546))
  go_ret
  exact ⟨er, tb HB⟩
 rw [if_pos c6] at H
 have c6b0 : (a0_3 == a1_3) = true := beq_iff_eq.mpr c6
 have c6b1 : (a0_3 != a1_3) = false := bne_eq_false_iff_eq.mpr c6
 clear c6
 obtain rfl := oin H
 go_enter Tryz.func196, Tryz.ntmps196
 go_wp2_with (first | ((with_reducible refine gq 2 rfl ?_); refine bx0 HB (N := 2) (t := 42) ?_; clear HB; intro gb545 w7 BK545 GE545 HB) | ((with_reducible refine gq 3 rfl ?_); refine bx1 HB BK545 (N := 3) (t := 42) ?_; clear HB BK545; intro gb546 w8 BK546 GE546 HB NB545_546 NB546_545 BK545; have hnb9 := NB545_546.out; have hnc9 := NB546_545.out; have hz10 := cs4_ BK545; have hz11 := cs4_ BK546))
 go_ret
 exact ⟨er, tb HB⟩
def laws_eqHelpS.l0 : Nat → List (S42) → List (S42) → Int → Option (Bool)
 | 0, _, _, _ => none
 | k + 1, x0, x1, x5 => if x5 < (x0.length : Int) then (if 0 ≤ x5 then (if x5 < (x1.length : Int) then ((laws_eqHelp.f ((rd_T42 x0 x5).f0) ((rd_T42 x0 x5).f1) ((rd_T42 x0 x5).f2) ((rd_T42 x0 x5).f3) ((rd_T42 x1 x5).f0) ((rd_T42 x1 x5).f1) ((rd_T42 x1 x5).f2) ((rd_T42 x1 x5).f3)).bind fun t549 => (if t549 = true then (laws_eqHelpS.l0 k x0 x1 (wrap64 (x5 + 1))) else (some false))) else (none)) else (none)) else (some true)
def laws_eqHelpS.f (k : Nat) (l0 : List (S42)) (l1 : List (S42)) : Option (Bool) := if (l0.length : Int) = (l1.length : Int) then (laws_eqHelpS.l0 k l0 l1 0) else (some false)
def laws_eqHelpS.T6 : Bool × List (List Nat × List Nat) := (true, [([], []), ([], []), ([0, 1], [0, 1]), ([2], [2]), ([], []), ([], []), ([4, 5], [4, 5]), ([6], [6]), ([3, 7], [3, 7]), ([8], [8])])
def laws_eqHelpS.B6 : List Nat := [0, 0, 3, 7, 0, 0, 48, 112, 255, 511]
theorem laws_eqHelpS.tab6 : rtab .any (opsOf Tryz.f186 6) = laws_eqHelpS.T6 := by kernel_rfl
theorem laws_eqHelpS.bits6 : waitsOk laws_eqHelpS.T6.2 laws_eqHelpS.B6 = true := by kernel_rfl
set_option maxHeartbeats 8000000 in
set_option maxRecDepth 100000 in
theorem laws_eqHelpS.calls (k : Nat) (A0 : Option Addr) (c0 : Nat) (l0 : List (S42)) (A1 : Option Addr) (c1 : Nat) (l1 : List (S42)) (r : Bool) (w : World) (hr0 : Kd.C k42 w A0 l0.length l0) (hc0 : l0.length ≤ c0) (hr1 : Kd.C k42 w A1 l1.length l1) (hc1 : l1.length ≤ c1) (h : laws_eqHelpS.f k l0 l1 = some r) :
  Calls Tryz.prog 186 #[.slice A0 l0.length c0, .slice A1 l1.length c1] w fun e w' => e = .returned (.bool r) ∧ Below w.heap.size w w' := by
 have hu42 := Tryz.underlying42
 have HR0 := Aside0.mk hr0
 have HC0 := Aside0.mk hc0
 clear hr0 hc0
 have HR1 := Aside0.mk hr1
 have HC1 := Aside0.mk hc1
 clear hr1 hc1
 have HB := Aside0.mk (Below.refl w.heap.size w)
 have H := h
 clear h
 unfold laws_eqHelpS.f at H
 by_cases c3 : (l0.length : Int) = (l1.length : Int)
 case neg =>
  rw [if_neg c3] at H
  have c3b0 : ((l0.length : Int) == (l1.length : Int)) = false := beq_eq_false_iff_ne.mpr c3
  have c3b1 : ((l0.length : Int) != (l1.length : Int)) = true := bne_iff_ne.mpr c3
  have c3b2 : (l0.length == l1.length) = false := by first | simpa using c3 | (simp at c3 ⊢; omega)
  obtain rfl := oin H
  go_enter Tryz.func186, Tryz.ntmps186
  go_wp2
  go_ret
  exact ⟨er, tb HB⟩
 
 
 rw [if_pos c3] at H
 have c3b0 : ((l0.length : Int) == (l1.length : Int)) = true := beq_iff_eq.mpr c3
 have c3b1 : ((l0.length : Int) != (l1.length : Int)) = false := bne_eq_false_iff_eq.mpr c3
 have c3b2 : (l0.length == l1.length) = true := by first | simpa using c3 | (simp at c3 ⊢; omega)
 clear c3
 have H' := Aside0.mk H
 clear H
 go_enter Tryz.func186, Tryz.ntmps186
 go_wp2
 go_loopg [5] k (fun kq v5 w' => ∃ (x5_1 : Int), v5 = .int .i64 x5_1 ∧ Aside0 (laws_eqHelpS.l0 kq l0 l1 x5_1 = some r) ∧ Aside0 (kq ≤ k) ∧ Aside0 (Below w.heap.size w w'))
 case atStart => exact ⟨(0), rsd, H', ⟨Nat.le_refl _⟩, ⟨tb HB⟩⟩
 case round =>
  clear H'
  try clear c1
  try clear p2
  try clear c3
  try clear c3b0
  try clear c3b1
  try clear c3b2
  obtain ⟨x5_1, rfl, HA, HK1, HB⟩ := hrel
  cases gk with
  | zero => exact absurd HA.out (by simp [laws_eqHelpS.l0])
  | succ k1 =>
   have H := HA.out
   clear HA
   simp only [laws_eqHelpS.l0] at H
   revert H; refine icd (fun c4b0 H => ?_) fun c4b0 H => ?neg
   case neg =>
    obtain rfl := oin H
    go_wp2
    go_ret
    exact ⟨er, tb HB⟩
   obtain ⟨c5b0, H⟩ := itd H
   obtain ⟨c6b0, H⟩ := itd H
   obtain ⟨t549, A7, H⟩ := bn H
   try dsimp only at H
   cases t549
   case false =>
    replace H := ipf H
    obtain rfl := oin H
    try go_wp2
    replace HB := Aside0.mk (below_drew1 HB.out)
    have p547 : 0 ≤ (x5_1 : Int) := od
    have q547 : x5_1 < (l0.length : Int) := od
    obtain ⟨ad547, e547, hx547⟩ := att42 HR0.out x5_1 p547 q547
    have hw547 := hx547
    cases e547
    replace hx547 := ox4 HB hx547
    replace p547 := eq_true p547
    replace q547 := eq_true q547
    have p548 : 0 ≤ (x5_1 : Int) := od
    have q548 : x5_1 < (l1.length : Int) := od
    obtain ⟨ad548, e548, hx548⟩ := att42 HR1.out x5_1 p548 q548
    have hw548 := hx548
    cases e548
    replace hx548 := ox4 HB hx548
    replace p548 := eq_true p548
    replace q548 := eq_true q548
    refine start_ (n := 10) (S := fun w' => eT42 (ad547.add ((x5_1).toNat * 4)) (rd_T42 l0 x5_1) w' ∧ eT42 (ad548.add ((x5_1).toNat * 4)) (rd_T42 l1 x5_1) w') (ds := []) #[false, false, false, false, false, false, false, false, false, false] (by kernel_rfl) rfl rfl ⟨(ox4 HB hw547 :), (ox4 HB hw548 :)⟩ (fun hHeld => ?_); refine with_tabW laws_eqHelpS.tab6 laws_eqHelpS.bits6 (fun HT_ HW_ => ?_)
    generalize wr.drew = w11 at HB hx547 hx548 hHeld ⊢
    refine pu 0 17 ?_; refine pu 1 18 ?_; refine pu 2 19 ?_; refine pu 4 21 ?_; refine pu 5 22 ?_; refine pu 6 23 ?_; refine ta 3 20 ?_; refine ta 7 24 ?_
    refine on1 8 (some 25) (fun K hK => ?_)
    refine gS Tryz.func196 #[.agg #[.int .i64 ((rd_T42 l0 x5_1).f0), .int .i64 ((rd_T42 l0 x5_1).f1), .int .i64 ((rd_T42 l0 x5_1).f2), .int .i64 ((rd_T42 l0 x5_1).f3)], .agg #[.int .i64 ((rd_T42 l1 x5_1).f0), .int .i64 ((rd_T42 l1 x5_1).f1), .int .i64 ((rd_T42 l1 x5_1).f2), .int .i64 ((rd_T42 l1 x5_1).f3)]] ?_
    with_reducible refine (laws_eqHelp.calls ((rd_T42 l0 x5_1).f0) ((rd_T42 l0 x5_1).f1) ((rd_T42 l0 x5_1).f2) ((rd_T42 l0 x5_1).f3) ((rd_T42 l1 x5_1).f0) ((rd_T42 l1 x5_1).f1) ((rd_T42 l1 x5_1).f2) ((rd_T42 l1 x5_1).f3) false _ A7.out).mono ?_
    rintro e w12 ⟨rfl, hb⟩
    refine ⟨_, rfl, ?_⟩
    replace HB := bs HB hb
    (try clear hb)
    (try clear hb2)
    (try clear hk)
    (try clear hi)
    refine hK.out _ _ ⟨(ox4 HB hw547 :), (ox4 HB hw548 :)⟩ (fun hHeld => ?_)
    clear hK K
    refine nm 25 ?_
    refine pu 9 26 ?_
    refine done_ (done_of HT_.out (by kernel_rfl)) ?_
    try go_wp2
    go_ret
    exact ⟨er, tb HB⟩
   replace H := ipt H
   have H' := Aside0.mk H
   clear H
   try go_wp2
   replace HB := Aside0.mk (below_drew1 HB.out)
   have p547 : 0 ≤ (x5_1 : Int) := od
   have q547 : x5_1 < (l0.length : Int) := od
   obtain ⟨ad547, e547, hx547⟩ := att42 HR0.out x5_1 p547 q547
   have hw547 := hx547
   cases e547
   replace hx547 := ox4 HB hx547
   replace p547 := eq_true p547
   replace q547 := eq_true q547
   have p548 : 0 ≤ (x5_1 : Int) := od
   have q548 : x5_1 < (l1.length : Int) := od
   obtain ⟨ad548, e548, hx548⟩ := att42 HR1.out x5_1 p548 q548
   have hw548 := hx548
   cases e548
   replace hx548 := ox4 HB hx548
   replace p548 := eq_true p548
   replace q548 := eq_true q548
   refine start_ (n := 10) (S := fun w' => eT42 (ad547.add ((x5_1).toNat * 4)) (rd_T42 l0 x5_1) w' ∧ eT42 (ad548.add ((x5_1).toNat * 4)) (rd_T42 l1 x5_1) w') (ds := []) #[false, false, false, false, false, false, false, false, false, false] (by kernel_rfl) rfl rfl ⟨(ox4 HB hw547 :), (ox4 HB hw548 :)⟩ (fun hHeld => ?_); refine with_tabW laws_eqHelpS.tab6 laws_eqHelpS.bits6 (fun HT_ HW_ => ?_)
   generalize wr.drew = w9 at HB hx547 hx548 hHeld ⊢
   refine pu 0 17 ?_; refine pu 1 18 ?_; refine pu 2 19 ?_; refine pu 4 21 ?_; refine pu 5 22 ?_; refine pu 6 23 ?_; refine ta 3 20 ?_; refine ta 7 24 ?_
   refine on1 8 (some 25) (fun K hK => ?_)
   refine gS Tryz.func196 #[.agg #[.int .i64 ((rd_T42 l0 x5_1).f0), .int .i64 ((rd_T42 l0 x5_1).f1), .int .i64 ((rd_T42 l0 x5_1).f2), .int .i64 ((rd_T42 l0 x5_1).f3)], .agg #[.int .i64 ((rd_T42 l1 x5_1).f0), .int .i64 ((rd_T42 l1 x5_1).f1), .int .i64 ((rd_T42 l1 x5_1).f2), .int .i64 ((rd_T42 l1 x5_1).f3)]] ?_
   with_reducible refine (laws_eqHelp.calls ((rd_T42 l0 x5_1).f0) ((rd_T42 l0 x5_1).f1) ((rd_T42 l0 x5_1).f2) ((rd_T42 l0 x5_1).f3) ((rd_T42 l1 x5_1).f0) ((rd_T42 l1 x5_1).f1) ((rd_T42 l1 x5_1).f2) ((rd_T42 l1 x5_1).f3) true _ A7.out).mono ?_
   rintro e w10 ⟨rfl, hb⟩
   refine ⟨_, rfl, ?_⟩
   replace HB := bs HB hb
   (try clear hb)
   (try clear hb2)
   (try clear hk)
   (try clear hi)
   refine hK.out _ _ ⟨(ox4 HB hw547 :), (ox4 HB hw548 :)⟩ (fun hHeld => ?_)
   clear hK K
   refine nm 25 ?_
   refine pu 9 26 ?_
   refine done_ (done_of HT_.out (by kernel_rfl)) ?_
   try go_wp2
   go_roundg k1
   case measure => have := HK1.out; omega
   case rel => exact ⟨(wrap64 (x5_1 + 1)), rsd, H', ⟨by have := HK1.out; omega⟩, ⟨tb HB⟩⟩
def laws_eqThread.f (k : Nat) (l0_0 : List (S132)) (a0_1 : Int) (a0_2 : Bool) (l0_3 : List (S145)) (l0_4 : List (S42)) (l1_0 : List (S132)) (a1_1 : Int) (a1_2 : Bool) (l1_3 : List (S145)) (l1_4 : List (S42)) : Option (Bool) := (laws_eqOpS.f k l0_0 l1_0).bind fun t552 => (if t552 = true then (if a0_1 = a1_1 then (if (a0_2 != a1_2) = true then (some false) else ((laws_eqPairS.f k l0_3 l1_3).bind fun t553 => (if t553 = true then ((laws_eqHelpS.f k l0_4 l1_4).bind fun t554 => (if t554 = true then (some true) else (some false))) else (some false)))) else (some false)) else (some false))
set_option maxHeartbeats 8000000 in
set_option maxRecDepth 100000 in
theorem laws_eqThread.calls (k : Nat) (A0_0 : Option Addr) (c0_0 : Nat) (l0_0 : List (S132)) (a0_1 : Int) (a0_2 : Bool) (A0_3 : Option Addr) (c0_3 : Nat) (l0_3 : List (S145)) (A0_4 : Option Addr) (c0_4 : Nat) (l0_4 : List (S42)) (A1_0 : Option Addr) (c1_0 : Nat) (l1_0 : List (S132)) (a1_1 : Int) (a1_2 : Bool) (A1_3 : Option Addr) (c1_3 : Nat) (l1_3 : List (S145)) (A1_4 : Option Addr) (c1_4 : Nat) (l1_4 : List (S42)) (r : Bool) (w : World) (hr0_0 : Kd.C k132 w A0_0 l0_0.length l0_0) (hc0_0 : l0_0.length ≤ c0_0) (hr0_3 : Kd.C k145 w A0_3 l0_3.length l0_3) (hc0_3 : l0_3.length ≤ c0_3) (hr0_4 : Kd.C k42 w A0_4 l0_4.length l0_4) (hc0_4 : l0_4.length ≤ c0_4) (hr1_0 : Kd.C k132 w A1_0 l1_0.length l1_0) (hc1_0 : l1_0.length ≤ c1_0) (hr1_3 : Kd.C k145 w A1_3 l1_3.length l1_3) (hc1_3 : l1_3.length ≤ c1_3) (hr1_4 : Kd.C k42 w A1_4 l1_4.length l1_4) (hc1_4 : l1_4.length ≤ c1_4) (h : laws_eqThread.f k l0_0 a0_1 a0_2 l0_3 l0_4 l1_0 a1_1 a1_2 l1_3 l1_4 = some r) :
  Calls Tryz.prog 154 #[.agg #[.slice A0_0 l0_0.length c0_0, .int .i64 a0_1, .bool a0_2, .slice A0_3 l0_3.length c0_3, .slice A0_4 l0_4.length c0_4], .agg #[.slice A1_0 l1_0.length c1_0, .int .i64 a1_1, .bool a1_2, .slice A1_3 l1_3.length c1_3, .slice A1_4 l1_4.length c1_4]] w fun e w' => e = .returned (.bool r) ∧ Below w.heap.size w w' := by
 have hu82 := Tryz.underlying82
 have HR0_0 := Aside0.mk hr0_0
 have HC0_0 := Aside0.mk hc0_0
 clear hr0_0 hc0_0
 have HR0_3 := Aside0.mk hr0_3
 have HC0_3 := Aside0.mk hc0_3
 clear hr0_3 hc0_3
 have HR0_4 := Aside0.mk hr0_4
 have HC0_4 := Aside0.mk hc0_4
 clear hr0_4 hc0_4
 have HR1_0 := Aside0.mk hr1_0
 have HC1_0 := Aside0.mk hc1_0
 clear hr1_0 hc1_0
 have HR1_3 := Aside0.mk hr1_3
 have HC1_3 := Aside0.mk hc1_3
 clear hr1_3 hc1_3
 have HR1_4 := Aside0.mk hr1_4
 have HC1_4 := Aside0.mk hc1_4
 clear hr1_4 hc1_4
 have HB := Aside0.mk (Below.refl w.heap.size w)
 have H := h
 clear h
 unfold laws_eqThread.f at H
 obtain ⟨t552, A3, H⟩ := bn H
 try dsimp only at H
 cases t552
 case false =>
  replace H := ipf H
  obtain rfl := oin H
  go_enter Tryz.func154, Tryz.ntmps154
  go_wp2_with (first | ((with_reducible refine gq 2 rfl ?_); refine bx0 HB (N := 2) (t := 82) ?_; clear HB; intro gb550 w60 BK550 GE550 HB) | ((with_reducible refine gq 3 rfl ?_); refine bx1 HB BK550 (N := 3) (t := 82) ?_; clear HB BK550; intro gb551 w61 BK551 GE551 HB NB550_551 NB551_550 BK550; have hnb62 := NB550_551.out; have hnc62 := NB551_550.out; have hz63 := cs5_ BK550; have hz64 := cs5_ BK551) | ((with_reducible refine gf 184 rfl ?_); refine gL 9 Tryz.func184 #[.slice A0_0 l0_0.length c0_0, .slice A1_0 l1_0.length c1_0] ?_; (with_reducible refine (laws_eqOpS.calls k _ _ l0_0 _ _ l1_0 false _ (kc HR0_0 HB) HC0_0.out (kc HR1_0 HB) HC1_0.out A3.out).mono ?_); rintro e w65 ⟨rfl, hb⟩; refine ⟨_, rfl, ?_⟩; replace BK550 := bb BK550 hb; replace BK551 := bb BK551 hb; replace HB := bs HB hb; (try clear hb)))
  go_ret
  exact ⟨er, tb HB⟩
 replace H := ipt H
 by_cases c5 : a0_1 = a1_1
 case neg =>
  rw [if_neg c5] at H
  have c5b0 : (a0_1 == a1_1) = false := beq_eq_false_iff_ne.mpr c5
  have c5b1 : (a0_1 != a1_1) = true := bne_iff_ne.mpr c5
  obtain rfl := oin H
  go_enter Tryz.func154, Tryz.ntmps154
  go_wp2_with (first | ((with_reducible refine gq 2 rfl ?_); refine bx0 HB (N := 2) (t := 82) ?_; clear HB; intro gb550 w52 BK550 GE550 HB) | ((with_reducible refine gq 3 rfl ?_); refine bx1 HB BK550 (N := 3) (t := 82) ?_; clear HB BK550; intro gb551 w53 BK551 GE551 HB NB550_551 NB551_550 BK550; have hnb54 := NB550_551.out; have hnc54 := NB551_550.out; have hz55 := cs5_ BK550; have hz56 := cs5_ BK551) | ((with_reducible refine gf 184 rfl ?_); refine gL 9 Tryz.func184 #[.slice A0_0 l0_0.length c0_0, .slice A1_0 l1_0.length c1_0] ?_; (with_reducible refine (laws_eqOpS.calls k _ _ l0_0 _ _ l1_0 true _ (kc HR0_0 HB) HC0_0.out (kc HR1_0 HB) HC1_0.out A3.out).mono ?_); rintro e w57 ⟨rfl, hb⟩; refine ⟨_, rfl, ?_⟩; replace BK550 := bb BK550 hb; replace BK551 := bb BK551 hb; replace HB := bs HB hb; (try clear hb); have hz58 := cs5_ BK550; have hz59 := cs5_ BK551))
  go_ret
  exact ⟨er, tb HB⟩
 rw [if_pos c5] at H
 have c5b0 : (a0_1 == a1_1) = true := beq_iff_eq.mpr c5
 have c5b1 : (a0_1 != a1_1) = false := bne_eq_false_iff_eq.mpr c5
 clear c5
 by_cases c6 : (a0_2 != a1_2) = true
 case pos =>
  rw [if_pos c6] at H
  have c6b0 : (a0_2 != a1_2) = true := c6
  (try (have c6b1 : decide (a0_2 = a1_2) = false := by simpa using c6))
  (try (have c6b2 : (a0_2 == a1_2) = false := by simpa using c6))
  (try (have c6b3 : ¬ (a0_2 = a1_2) := by simpa using c6))
  clear c6
  obtain rfl := oin H
  go_enter Tryz.func154, Tryz.ntmps154
  go_wp2_with (first | ((with_reducible refine gq 2 rfl ?_); refine bx0 HB (N := 2) (t := 82) ?_; clear HB; intro gb550 w7 BK550 GE550 HB) | ((with_reducible refine gq 3 rfl ?_); refine bx1 HB BK550 (N := 3) (t := 82) ?_; clear HB BK550; intro gb551 w8 BK551 GE551 HB NB550_551 NB551_550 BK550; have hnb9 := NB550_551.out; have hnc9 := NB551_550.out; have hz10 := cs5_ BK550; have hz11 := cs5_ BK551) | ((with_reducible refine gf 184 rfl ?_); refine gL 9 Tryz.func184 #[.slice A0_0 l0_0.length c0_0, .slice A1_0 l1_0.length c1_0] ?_; (with_reducible refine (laws_eqOpS.calls k _ _ l0_0 _ _ l1_0 true _ (kc HR0_0 HB) HC0_0.out (kc HR1_0 HB) HC1_0.out A3.out).mono ?_); rintro e w12 ⟨rfl, hb⟩; refine ⟨_, rfl, ?_⟩; replace BK550 := bb BK550 hb; replace BK551 := bb BK551 hb; replace HB := bs HB hb; (try clear hb); have hz13 := cs5_ BK550; have hz14 := cs5_ BK551))
  go_ret
  exact ⟨er, tb HB⟩
 rw [if_neg c6] at H
 have c6b0 : (a0_2 != a1_2) = false := by simpa using c6
 (try (have c6b1 : decide (a0_2 = a1_2) = true := by simpa using c6))
 (try (have c6b2 : (a0_2 == a1_2) = true := by simpa using c6))
 clear c6
 obtain ⟨t553, A15, H⟩ := bn H
 try dsimp only at H
 cases t553
 case false =>
  replace H := ipf H
  obtain rfl := oin H
  go_enter Tryz.func154, Tryz.ntmps154
  go_wp2_with (first | ((with_reducible refine gq 2 rfl ?_); refine bx0 HB (N := 2) (t := 82) ?_; clear HB; intro gb550 w43 BK550 GE550 HB) | ((with_reducible refine gq 3 rfl ?_); refine bx1 HB BK550 (N := 3) (t := 82) ?_; clear HB BK550; intro gb551 w44 BK551 GE551 HB NB550_551 NB551_550 BK550; have hnb45 := NB550_551.out; have hnc45 := NB551_550.out; have hz46 := cs5_ BK550; have hz47 := cs5_ BK551) | ((with_reducible refine gf 184 rfl ?_); refine gL 9 Tryz.func184 #[.slice A0_0 l0_0.length c0_0, .slice A1_0 l1_0.length c1_0] ?_; (with_reducible refine (laws_eqOpS.calls k _ _ l0_0 _ _ l1_0 true _ (kc HR0_0 HB) HC0_0.out (kc HR1_0 HB) HC1_0.out A3.out).mono ?_); rintro e w48 ⟨rfl, hb⟩; refine ⟨_, rfl, ?_⟩; replace BK550 := bb BK550 hb; replace BK551 := bb BK551 hb; replace HB := bs HB hb; (try clear hb); have hz49 := cs5_ BK550; have hz50 := cs5_ BK551) | ((with_reducible refine gf 185 rfl ?_); refine gL 25 Tryz.func185 #[.slice A0_3 l0_3.length c0_3, .slice A1_3 l1_3.length c1_3] ?_; (with_reducible refine (laws_eqPairS.calls k _ _ l0_3 _ _ l1_3 false _ (kc HR0_3 HB) HC0_3.out (kc HR1_3 HB) HC1_3.out A15.out).mono ?_); rintro e w51 ⟨rfl, hb⟩; refine ⟨_, rfl, ?_⟩; replace BK550 := bb BK550 hb; replace BK551 := bb BK551 hb; replace HB := bs HB hb; (try clear hb)))
  go_ret
  exact ⟨er, tb HB⟩
 replace H := ipt H
 obtain ⟨t554, A17, H⟩ := bn H
 try dsimp only at H
 cases t554
 case true =>
  replace H := ipt H
  obtain rfl := oin H
  go_enter Tryz.func154, Tryz.ntmps154
  go_wp2_with (first | ((with_reducible refine gq 2 rfl ?_); refine bx0 HB (N := 2) (t := 82) ?_; clear HB; intro gb550 w19 BK550 GE550 HB) | ((with_reducible refine gq 3 rfl ?_); refine bx1 HB BK550 (N := 3) (t := 82) ?_; clear HB BK550; intro gb551 w20 BK551 GE551 HB NB550_551 NB551_550 BK550; have hnb21 := NB550_551.out; have hnc21 := NB551_550.out; have hz22 := cs5_ BK550; have hz23 := cs5_ BK551) | ((with_reducible refine gf 184 rfl ?_); refine gL 9 Tryz.func184 #[.slice A0_0 l0_0.length c0_0, .slice A1_0 l1_0.length c1_0] ?_; (with_reducible refine (laws_eqOpS.calls k _ _ l0_0 _ _ l1_0 true _ (kc HR0_0 HB) HC0_0.out (kc HR1_0 HB) HC1_0.out A3.out).mono ?_); rintro e w24 ⟨rfl, hb⟩; refine ⟨_, rfl, ?_⟩; replace BK550 := bb BK550 hb; replace BK551 := bb BK551 hb; replace HB := bs HB hb; (try clear hb); have hz25 := cs5_ BK550; have hz26 := cs5_ BK551) | ((with_reducible refine gf 185 rfl ?_); refine gL 25 Tryz.func185 #[.slice A0_3 l0_3.length c0_3, .slice A1_3 l1_3.length c1_3] ?_; (with_reducible refine (laws_eqPairS.calls k _ _ l0_3 _ _ l1_3 true _ (kc HR0_3 HB) HC0_3.out (kc HR1_3 HB) HC1_3.out A15.out).mono ?_); rintro e w27 ⟨rfl, hb⟩; refine ⟨_, rfl, ?_⟩; replace BK550 := bb BK550 hb; replace BK551 := bb BK551 hb; replace HB := bs HB hb; (try clear hb); have hz28 := cs5_ BK550; have hz29 := cs5_ BK551) | ((with_reducible refine gf 186 rfl ?_); refine gL 31 Tryz.func186 #[.slice A0_4 l0_4.length c0_4, .slice A1_4 l1_4.length c1_4] ?_; (with_reducible refine (laws_eqHelpS.calls k _ _ l0_4 _ _ l1_4 true _ (kc HR0_4 HB) HC0_4.out (kc HR1_4 HB) HC1_4.out A17.out).mono ?_); rintro e w30 ⟨rfl, hb⟩; refine ⟨_, rfl, ?_⟩; replace BK550 := bb BK550 hb; replace BK551 := bb BK551 hb; replace HB := bs HB hb; (try clear hb)))
  go_ret
  exact ⟨er, tb HB⟩
 replace H := ipf H
 obtain rfl := oin H
 go_enter Tryz.func154, Tryz.ntmps154
 go_wp2_with (first | ((with_reducible refine gq 2 rfl ?_); refine bx0 HB (N := 2) (t := 82) ?_; clear HB; intro gb550 w31 BK550 GE550 HB) | ((with_reducible refine gq 3 rfl ?_); refine bx1 HB BK550 (N := 3) (t := 82) ?_; clear HB BK550; intro gb551 w32 BK551 GE551 HB NB550_551 NB551_550 BK550; have hnb33 := NB550_551.out; have hnc33 := NB551_550.out; have hz34 := cs5_ BK550; have hz35 := cs5_ BK551) | ((with_reducible refine gf 184 rfl ?_); refine gL 9 Tryz.func184 #[.slice A0_0 l0_0.length c0_0, .slice A1_0 l1_0.length c1_0] ?_; (with_reducible refine (laws_eqOpS.calls k _ _ l0_0 _ _ l1_0 true _ (kc HR0_0 HB) HC0_0.out (kc HR1_0 HB) HC1_0.out A3.out).mono ?_); rintro e w36 ⟨rfl, hb⟩; refine ⟨_, rfl, ?_⟩; replace BK550 := bb BK550 hb; replace BK551 := bb BK551 hb; replace HB := bs HB hb; (try clear hb); have hz37 := cs5_ BK550; have hz38 := cs5_ BK551) | ((with_reducible refine gf 185 rfl ?_); refine gL 25 Tryz.func185 #[.slice A0_3 l0_3.length c0_3, .slice A1_3 l1_3.length c1_3] ?_; (with_reducible refine (laws_eqPairS.calls k _ _ l0_3 _ _ l1_3 true _ (kc HR0_3 HB) HC0_3.out (kc HR1_3 HB) HC1_3.out A15.out).mono ?_); rintro e w39 ⟨rfl, hb⟩; refine ⟨_, rfl, ?_⟩; replace BK550 := bb BK550 hb; replace BK551 := bb BK551 hb; replace HB := bs HB hb; (try clear hb); have hz40 := cs5_ BK550; have hz41 := cs5_ BK551) | ((with_reducible refine gf 186 rfl ?_); refine gL 31 Tryz.func186 #[.slice A0_4 l0_4.length c0_4, .slice A1_4 l1_4.length c1_4] ?_; (with_reducible refine (laws_eqHelpS.calls k _ _ l0_4 _ _ l1_4 false _ (kc HR0_4 HB) HC0_4.out (kc HR1_4 HB) HC1_4.out A17.out).mono ?_); rintro e w42 ⟨rfl, hb⟩; refine ⟨_, rfl, ?_⟩; replace BK550 := bb BK550 hb; replace BK551 := bb BK551 hb; replace HB := bs HB hb; (try clear hb)))
 go_ret
 exact ⟨er, tb HB⟩
def laws_eqThreadS.l0 : Nat → List (S82) → List (S82) → Int → Option (Bool)
 | 0, _, _, _ => none
 | k + 1, x0, x1, x5 => if x5 < (x0.length : Int) then (if 0 ≤ x5 then (if x5 < (x1.length : Int) then ((laws_eqThread.f k ((rd_T82 x0 x5).f0) ((rd_T82 x0 x5).f1) ((rd_T82 x0 x5).f2) ((rd_T82 x0 x5).f3) ((rd_T82 x0 x5).f4) ((rd_T82 x1 x5).f0) ((rd_T82 x1 x5).f1) ((rd_T82 x1 x5).f2) ((rd_T82 x1 x5).f3) ((rd_T82 x1 x5).f4)).bind fun t557 => (if t557 = true then (laws_eqThreadS.l0 k x0 x1 (wrap64 (x5 + 1))) else (some false))) else (none)) else (none)) else (some true)
def laws_eqThreadS.f (k : Nat) (l0 : List (S82)) (l1 : List (S82)) : Option (Bool) := if (l0.length : Int) = (l1.length : Int) then (laws_eqThreadS.l0 k l0 l1 0) else (some false)
def laws_eqThreadS.T6 : Bool × List (List Nat × List Nat) := (true, [([], []), ([], []), ([0, 1], [0, 1]), ([2], [2]), ([], []), ([], []), ([4, 5], [4, 5]), ([6], [6]), ([3, 7], [3, 7]), ([8], [8])])
def laws_eqThreadS.B6 : List Nat := [0, 0, 3, 7, 0, 0, 48, 112, 255, 511]
theorem laws_eqThreadS.tab6 : rtab .any (opsOf Tryz.f99 6) = laws_eqThreadS.T6 := by kernel_rfl
theorem laws_eqThreadS.bits6 : waitsOk laws_eqThreadS.T6.2 laws_eqThreadS.B6 = true := by kernel_rfl
set_option maxHeartbeats 8000000 in
set_option maxRecDepth 100000 in
theorem laws_eqThreadS.calls (k : Nat) (A0 : Option Addr) (c0 : Nat) (l0 : List (S82)) (A1 : Option Addr) (c1 : Nat) (l1 : List (S82)) (r : Bool) (w : World) (hr0 : Kd.C k82 w A0 l0.length l0) (hc0 : l0.length ≤ c0) (hr1 : Kd.C k82 w A1 l1.length l1) (hc1 : l1.length ≤ c1) (h : laws_eqThreadS.f k l0 l1 = some r) :
  Calls Tryz.prog 99 #[.slice A0 l0.length c0, .slice A1 l1.length c1] w fun e w' => e = .returned (.bool r) ∧ Below w.heap.size w w' := by
 have hu82 := Tryz.underlying82
 have HR0 := Aside0.mk hr0
 have HC0 := Aside0.mk hc0
 clear hr0 hc0
 have HR1 := Aside0.mk hr1
 have HC1 := Aside0.mk hc1
 clear hr1 hc1
 have HB := Aside0.mk (Below.refl w.heap.size w)
 have H := h
 clear h
 unfold laws_eqThreadS.f at H
 by_cases c3 : (l0.length : Int) = (l1.length : Int)
 case neg =>
  rw [if_neg c3] at H
  have c3b0 : ((l0.length : Int) == (l1.length : Int)) = false := beq_eq_false_iff_ne.mpr c3
  have c3b1 : ((l0.length : Int) != (l1.length : Int)) = true := bne_iff_ne.mpr c3
  have c3b2 : (l0.length == l1.length) = false := by first | simpa using c3 | (simp at c3 ⊢; omega)
  obtain rfl := oin H
  go_enter Tryz.func99, Tryz.ntmps99
  go_wp2
  go_ret
  exact ⟨er, tb HB⟩
 
 
 rw [if_pos c3] at H
 have c3b0 : ((l0.length : Int) == (l1.length : Int)) = true := beq_iff_eq.mpr c3
 have c3b1 : ((l0.length : Int) != (l1.length : Int)) = false := bne_eq_false_iff_eq.mpr c3
 have c3b2 : (l0.length == l1.length) = true := by first | simpa using c3 | (simp at c3 ⊢; omega)
 clear c3
 have H' := Aside0.mk H
 clear H
 go_enter Tryz.func99, Tryz.ntmps99
 go_wp2
 go_loopg [5] k (fun kq v5 w' => ∃ (x5_1 : Int), v5 = .int .i64 x5_1 ∧ Aside0 (laws_eqThreadS.l0 kq l0 l1 x5_1 = some r) ∧ Aside0 (kq ≤ k) ∧ Aside0 (Below w.heap.size w w'))
 case atStart => exact ⟨(0), rsd, H', ⟨Nat.le_refl _⟩, ⟨tb HB⟩⟩
 case round =>
  clear H'
  try clear c1
  try clear p2
  try clear c3
  try clear c3b0
  try clear c3b1
  try clear c3b2
  obtain ⟨x5_1, rfl, HA, HK1, HB⟩ := hrel
  cases gk with
  | zero => exact absurd HA.out (by simp [laws_eqThreadS.l0])
  | succ k1 =>
   have H := HA.out
   clear HA
   simp only [laws_eqThreadS.l0] at H
   revert H; refine icd (fun c4b0 H => ?_) fun c4b0 H => ?neg
   case neg =>
    obtain rfl := oin H
    go_wp2
    go_ret
    exact ⟨er, tb HB⟩
   obtain ⟨c5b0, H⟩ := itd H
   obtain ⟨c6b0, H⟩ := itd H
   obtain ⟨t557, A7, H⟩ := bn H
   try dsimp only at H
   cases t557
   case false =>
    replace H := ipf H
    obtain rfl := oin H
    try go_wp2
    replace HB := Aside0.mk (below_drew1 HB.out)
    have p555 : 0 ≤ (x5_1 : Int) := od
    have q555 : x5_1 < (l0.length : Int) := od
    obtain ⟨ad555, A555_0, c555_0, A555_3, c555_3, A555_4, c555_4, e555, hx555, hl555_0, hi555_0, hl555_3, hi555_3, hl555_4, hi555_4⟩ := att82 HR0.out x5_1 p555 q555
    have hw555 := hx555
    cases e555
    replace hx555 := ox5 HB hx555
    have HR555_0 := Aside0.mk hi555_0
    have HC555_0 := Aside0.mk hl555_0
    clear hi555_0 hl555_0
    have HR555_3 := Aside0.mk hi555_3
    have HC555_3 := Aside0.mk hl555_3
    clear hi555_3 hl555_3
    have HR555_4 := Aside0.mk hi555_4
    have HC555_4 := Aside0.mk hl555_4
    clear hi555_4 hl555_4
    replace p555 := eq_true p555
    replace q555 := eq_true q555
    have p556 : 0 ≤ (x5_1 : Int) := od
    have q556 : x5_1 < (l1.length : Int) := od
    obtain ⟨ad556, A556_0, c556_0, A556_3, c556_3, A556_4, c556_4, e556, hx556, hl556_0, hi556_0, hl556_3, hi556_3, hl556_4, hi556_4⟩ := att82 HR1.out x5_1 p556 q556
    have hw556 := hx556
    cases e556
    replace hx556 := ox5 HB hx556
    have HR556_0 := Aside0.mk hi556_0
    have HC556_0 := Aside0.mk hl556_0
    clear hi556_0 hl556_0
    have HR556_3 := Aside0.mk hi556_3
    have HC556_3 := Aside0.mk hl556_3
    clear hi556_3 hl556_3
    have HR556_4 := Aside0.mk hi556_4
    have HC556_4 := Aside0.mk hl556_4
    clear hi556_4 hl556_4
    replace p556 := eq_true p556
    replace q556 := eq_true q556
    refine start_ (n := 10) (S := fun w' => eT82 (ad555.add ((x5_1).toNat * 5)) (rd_T82 l0 x5_1) A555_0 c555_0 A555_3 c555_3 A555_4 c555_4 w' ∧ eT82 (ad556.add ((x5_1).toNat * 5)) (rd_T82 l1 x5_1) A556_0 c556_0 A556_3 c556_3 A556_4 c556_4 w') (ds := []) #[false, false, false, false, false, false, false, false, false, false] (by kernel_rfl) rfl rfl ⟨(ox5 HB hw555 :), (ox5 HB hw556 :)⟩ (fun hHeld => ?_); refine with_tabW laws_eqThreadS.tab6 laws_eqThreadS.bits6 (fun HT_ HW_ => ?_)
    generalize wr.drew = w11 at HB HR555_0 HR555_3 HR555_4 HR556_0 HR556_3 HR556_4 hx555 hx556 hHeld ⊢
    refine pu 0 17 ?_; refine pu 1 18 ?_; refine pu 2 19 ?_; refine pu 4 21 ?_; refine pu 5 22 ?_; refine pu 6 23 ?_; refine ta 3 20 ?_; refine ta 7 24 ?_
    refine on1 8 (some 25) (fun K hK => ?_)
    refine gS Tryz.func154 #[.agg #[.slice A555_0 ((rd_T82 l0 x5_1).f0).length c555_0, .int .i64 ((rd_T82 l0 x5_1).f1), .bool ((rd_T82 l0 x5_1).f2), .slice A555_3 ((rd_T82 l0 x5_1).f3).length c555_3, .slice A555_4 ((rd_T82 l0 x5_1).f4).length c555_4], .agg #[.slice A556_0 ((rd_T82 l1 x5_1).f0).length c556_0, .int .i64 ((rd_T82 l1 x5_1).f1), .bool ((rd_T82 l1 x5_1).f2), .slice A556_3 ((rd_T82 l1 x5_1).f3).length c556_3, .slice A556_4 ((rd_T82 l1 x5_1).f4).length c556_4]] ?_
    with_reducible refine (laws_eqThread.calls k1 _ _ ((rd_T82 l0 x5_1).f0) ((rd_T82 l0 x5_1).f1) ((rd_T82 l0 x5_1).f2) _ _ ((rd_T82 l0 x5_1).f3) _ _ ((rd_T82 l0 x5_1).f4) _ _ ((rd_T82 l1 x5_1).f0) ((rd_T82 l1 x5_1).f1) ((rd_T82 l1 x5_1).f2) _ _ ((rd_T82 l1 x5_1).f3) _ _ ((rd_T82 l1 x5_1).f4) false _ ?side1 ?side2 ?side3 ?side4 ?side5 ?side6 ?side7 ?side8 ?side9 ?side10 ?side11 ?side12 A7.out).mono ?_
    (case side1 => exact kc HR555_0 HB)
    (case side2 => exact HC555_0.out)
    (case side3 => exact kc HR555_3 HB)
    (case side4 => exact HC555_3.out)
    (case side5 => exact kc HR555_4 HB)
    (case side6 => exact HC555_4.out)
    (case side7 => exact kc HR556_0 HB)
    (case side8 => exact HC556_0.out)
    (case side9 => exact kc HR556_3 HB)
    (case side10 => exact HC556_3.out)
    (case side11 => exact kc HR556_4 HB)
    (case side12 => exact HC556_4.out)
    rintro e w12 ⟨rfl, hb⟩
    refine ⟨_, rfl, ?_⟩
    replace HB := bs HB hb
    (try clear hb)
    (try clear hb2)
    (try clear hk)
    (try clear hi)
    refine hK.out _ _ ⟨(ox5 HB hw555 :), (ox5 HB hw556 :)⟩ (fun hHeld => ?_)
    clear hK K
    refine nm 25 ?_
    refine pu 9 26 ?_
    refine done_ (done_of HT_.out (by kernel_rfl)) ?_
    try go_wp2
    go_ret
    exact ⟨er, tb HB⟩
   replace H := ipt H
   have H' := Aside0.mk H
   clear H
   try go_wp2
   replace HB := Aside0.mk (below_drew1 HB.out)
   have p555 : 0 ≤ (x5_1 : Int) := od
   have q555 : x5_1 < (l0.length : Int) := od
   obtain ⟨ad555, A555_0, c555_0, A555_3, c555_3, A555_4, c555_4, e555, hx555, hl555_0, hi555_0, hl555_3, hi555_3, hl555_4, hi555_4⟩ := att82 HR0.out x5_1 p555 q555
   have hw555 := hx555
   cases e555
   replace hx555 := ox5 HB hx555
   have HR555_0 := Aside0.mk hi555_0
   have HC555_0 := Aside0.mk hl555_0
   clear hi555_0 hl555_0
   have HR555_3 := Aside0.mk hi555_3
   have HC555_3 := Aside0.mk hl555_3
   clear hi555_3 hl555_3
   have HR555_4 := Aside0.mk hi555_4
   have HC555_4 := Aside0.mk hl555_4
   clear hi555_4 hl555_4
   replace p555 := eq_true p555
   replace q555 := eq_true q555
   have p556 : 0 ≤ (x5_1 : Int) := od
   have q556 : x5_1 < (l1.length : Int) := od
   obtain ⟨ad556, A556_0, c556_0, A556_3, c556_3, A556_4, c556_4, e556, hx556, hl556_0, hi556_0, hl556_3, hi556_3, hl556_4, hi556_4⟩ := att82 HR1.out x5_1 p556 q556
   have hw556 := hx556
   cases e556
   replace hx556 := ox5 HB hx556
   have HR556_0 := Aside0.mk hi556_0
   have HC556_0 := Aside0.mk hl556_0
   clear hi556_0 hl556_0
   have HR556_3 := Aside0.mk hi556_3
   have HC556_3 := Aside0.mk hl556_3
   clear hi556_3 hl556_3
   have HR556_4 := Aside0.mk hi556_4
   have HC556_4 := Aside0.mk hl556_4
   clear hi556_4 hl556_4
   replace p556 := eq_true p556
   replace q556 := eq_true q556
   refine start_ (n := 10) (S := fun w' => eT82 (ad555.add ((x5_1).toNat * 5)) (rd_T82 l0 x5_1) A555_0 c555_0 A555_3 c555_3 A555_4 c555_4 w' ∧ eT82 (ad556.add ((x5_1).toNat * 5)) (rd_T82 l1 x5_1) A556_0 c556_0 A556_3 c556_3 A556_4 c556_4 w') (ds := []) #[false, false, false, false, false, false, false, false, false, false] (by kernel_rfl) rfl rfl ⟨(ox5 HB hw555 :), (ox5 HB hw556 :)⟩ (fun hHeld => ?_); refine with_tabW laws_eqThreadS.tab6 laws_eqThreadS.bits6 (fun HT_ HW_ => ?_)
   generalize wr.drew = w9 at HB HR555_0 HR555_3 HR555_4 HR556_0 HR556_3 HR556_4 hx555 hx556 hHeld ⊢
   refine pu 0 17 ?_; refine pu 1 18 ?_; refine pu 2 19 ?_; refine pu 4 21 ?_; refine pu 5 22 ?_; refine pu 6 23 ?_; refine ta 3 20 ?_; refine ta 7 24 ?_
   refine on1 8 (some 25) (fun K hK => ?_)
   refine gS Tryz.func154 #[.agg #[.slice A555_0 ((rd_T82 l0 x5_1).f0).length c555_0, .int .i64 ((rd_T82 l0 x5_1).f1), .bool ((rd_T82 l0 x5_1).f2), .slice A555_3 ((rd_T82 l0 x5_1).f3).length c555_3, .slice A555_4 ((rd_T82 l0 x5_1).f4).length c555_4], .agg #[.slice A556_0 ((rd_T82 l1 x5_1).f0).length c556_0, .int .i64 ((rd_T82 l1 x5_1).f1), .bool ((rd_T82 l1 x5_1).f2), .slice A556_3 ((rd_T82 l1 x5_1).f3).length c556_3, .slice A556_4 ((rd_T82 l1 x5_1).f4).length c556_4]] ?_
   with_reducible refine (laws_eqThread.calls k1 _ _ ((rd_T82 l0 x5_1).f0) ((rd_T82 l0 x5_1).f1) ((rd_T82 l0 x5_1).f2) _ _ ((rd_T82 l0 x5_1).f3) _ _ ((rd_T82 l0 x5_1).f4) _ _ ((rd_T82 l1 x5_1).f0) ((rd_T82 l1 x5_1).f1) ((rd_T82 l1 x5_1).f2) _ _ ((rd_T82 l1 x5_1).f3) _ _ ((rd_T82 l1 x5_1).f4) true _ ?side1 ?side2 ?side3 ?side4 ?side5 ?side6 ?side7 ?side8 ?side9 ?side10 ?side11 ?side12 A7.out).mono ?_
   (case side1 => exact kc HR555_0 HB)
   (case side2 => exact HC555_0.out)
   (case side3 => exact kc HR555_3 HB)
   (case side4 => exact HC555_3.out)
   (case side5 => exact kc HR555_4 HB)
   (case side6 => exact HC555_4.out)
   (case side7 => exact kc HR556_0 HB)
   (case side8 => exact HC556_0.out)
   (case side9 => exact kc HR556_3 HB)
   (case side10 => exact HC556_3.out)
   (case side11 => exact kc HR556_4 HB)
   (case side12 => exact HC556_4.out)
   rintro e w10 ⟨rfl, hb⟩
   refine ⟨_, rfl, ?_⟩
   replace HB := bs HB hb
   (try clear hb)
   (try clear hb2)
   (try clear hk)
   (try clear hi)
   refine hK.out _ _ ⟨(ox5 HB hw555 :), (ox5 HB hw556 :)⟩ (fun hHeld => ?_)
   clear hK K
   refine nm 25 ?_
   refine pu 9 26 ?_
   refine done_ (done_of HT_.out (by kernel_rfl)) ?_
   try go_wp2
   go_roundg k1
   case measure => have := HK1.out; omega
   case rel => exact ⟨(wrap64 (x5_1 + 1)), rsd, H', ⟨by have := HK1.out; omega⟩, ⟨tb HB⟩⟩
def laws_eqCall.f (k : Nat) (a0_0 : Int) (a0_1 : Int) (a0_2 : Int) (a0_3 : Int) (a0_4 : Int) (a0_5 : Int) (a0_6 : Int) (a0_7 : Int) (l0_8 : List Int) (a1_0 : Int) (a1_1 : Int) (a1_2 : Int) (a1_3 : Int) (a1_4 : Int) (a1_5 : Int) (a1_6 : Int) (a1_7 : Int) (l1_8 : List Int) : Option (Bool) := if a0_0 = a1_0 then ((laws_eqOp.f a0_1 a0_2 a0_3 a1_1 a1_2 a1_3).bind fun t560 => (if t560 = true then (if a0_4 = a1_4 then (if a0_5 = a1_5 then (if a0_6 = a1_6 then ((laws_eqRes.f k a0_7 l0_8 a1_7 l1_8).bind fun t561 => (if t561 = true then (some true) else (some false))) else (some false)) else (some false)) else (some false)) else (some false))) else (some false)
set_option maxHeartbeats 8000000 in
set_option maxRecDepth 100000 in
theorem laws_eqCall.calls (k : Nat) (a0_0 : Int) (a0_1 : Int) (a0_2 : Int) (a0_3 : Int) (a0_4 : Int) (a0_5 : Int) (a0_6 : Int) (a0_7 : Int) (A0_8 : Option Addr) (c0_8 : Nat) (l0_8 : List Int) (a1_0 : Int) (a1_1 : Int) (a1_2 : Int) (a1_3 : Int) (a1_4 : Int) (a1_5 : Int) (a1_6 : Int) (a1_7 : Int) (A1_8 : Option Addr) (c1_8 : Nat) (l1_8 : List Int) (r : Bool) (w : World) (hr0_8 : Kd.C (Kd.int .i64) w A0_8 l0_8.length l0_8) (hc0_8 : l0_8.length ≤ c0_8) (hr1_8 : Kd.C (Kd.int .i64) w A1_8 l1_8.length l1_8) (hc1_8 : l1_8.length ≤ c1_8) (h : laws_eqCall.f k a0_0 a0_1 a0_2 a0_3 a0_4 a0_5 a0_6 a0_7 l0_8 a1_0 a1_1 a1_2 a1_3 a1_4 a1_5 a1_6 a1_7 l1_8 = some r) :
  Calls Tryz.prog 155 #[.agg #[.int .i64 a0_0, .int .i64 a0_1, .int .i64 a0_2, .int .i64 a0_3, .int .i64 a0_4, .int .i64 a0_5, .int .i64 a0_6, .int .i64 a0_7, .slice A0_8 l0_8.length c0_8], .agg #[.int .i64 a1_0, .int .i64 a1_1, .int .i64 a1_2, .int .i64 a1_3, .int .i64 a1_4, .int .i64 a1_5, .int .i64 a1_6, .int .i64 a1_7, .slice A1_8 l1_8.length c1_8]] w fun e w' => e = .returned (.bool r) ∧ Below w.heap.size w w' := by
 have hu134 := Tryz.underlying134
 have hu132 := Tryz.underlying132
 have hu31 := Tryz.underlying31
 have HR0_8 := Aside0.mk hr0_8
 have HC0_8 := Aside0.mk hc0_8
 clear hr0_8 hc0_8
 have HR1_8 := Aside0.mk hr1_8
 have HC1_8 := Aside0.mk hc1_8
 clear hr1_8 hc1_8
 have HB := Aside0.mk (Below.refl w.heap.size w)
 have H := h
 clear h
 unfold laws_eqCall.f at H
 by_cases c3 : a0_0 = a1_0
 case neg =>
  rw [if_neg c3] at H
  have c3b0 : (a0_0 == a1_0) = false := beq_eq_false_iff_ne.mpr c3
  have c3b1 : (a0_0 != a1_0) = true := bne_iff_ne.mpr c3
  obtain rfl := oin H
  go_enter Tryz.func155, Tryz.ntmps155
  go_wp2_with (first | ((with_reducible refine gq 2 rfl ?_); refine bx0 HB (N := 2) (t := 134) ?_; clear HB; intro gb558 w59 BK558 GE558 HB) | ((with_reducible refine gq 3 rfl ?_); refine bx1 HB BK558 (N := 3) (t := 134) ?_; clear HB BK558; intro gb559 w60 BK559 GE559 HB NB558_559 NB559_558 BK558; have hnb61 := NB558_559.out; have hnc61 := NB559_558.out; have hz62 := cs9_ BK558; have hz63 := cs9_ BK559))
  go_ret
  exact ⟨er, tb HB⟩
 
 
 rw [if_pos c3] at H
 have c3b0 : (a0_0 == a1_0) = true := beq_iff_eq.mpr c3
 have c3b1 : (a0_0 != a1_0) = false := bne_eq_false_iff_eq.mpr c3
 clear c3
 obtain ⟨t560, A4, H⟩ := bn H
 try dsimp only at H
 cases t560
 case false =>
  replace H := ipf H
  obtain rfl := oin H
  go_enter Tryz.func155, Tryz.ntmps155
  go_wp2_with (first | ((with_reducible refine gq 2 rfl ?_); refine bx0 HB (N := 2) (t := 134) ?_; clear HB; intro gb558 w53 BK558 GE558 HB) | ((with_reducible refine gq 3 rfl ?_); refine bx1 HB BK558 (N := 3) (t := 134) ?_; clear HB BK558; intro gb559 w54 BK559 GE559 HB NB558_559 NB559_558 BK558; have hnb55 := NB558_559.out; have hnc55 := NB559_558.out; have hz56 := cs9_ BK558; have hz57 := cs9_ BK559) | ((with_reducible refine gf 187 rfl ?_); refine gL 14 Tryz.func187 #[.agg #[.int .i64 a0_1, .int .i64 a0_2, .int .i64 a0_3], .agg #[.int .i64 a1_1, .int .i64 a1_2, .int .i64 a1_3]] ?_; (with_reducible refine (laws_eqOp.calls a0_1 a0_2 a0_3 a1_1 a1_2 a1_3 false _ A4.out).mono ?_); rintro e w58 ⟨rfl, hb⟩; refine ⟨_, rfl, ?_⟩; replace BK558 := bb BK558 hb; replace BK559 := bb BK559 hb; replace HB := bs HB hb; (try clear hb)))
  go_ret
  exact ⟨er, tb HB⟩
 replace H := ipt H
 by_cases c6 : a0_4 = a1_4
 case neg =>
  rw [if_neg c6] at H
  have c6b0 : (a0_4 == a1_4) = false := beq_eq_false_iff_ne.mpr c6
  have c6b1 : (a0_4 != a1_4) = true := bne_iff_ne.mpr c6
  obtain rfl := oin H
  go_enter Tryz.func155, Tryz.ntmps155
  go_wp2_with (first | ((with_reducible refine gq 2 rfl ?_); refine bx0 HB (N := 2) (t := 134) ?_; clear HB; intro gb558 w45 BK558 GE558 HB) | ((with_reducible refine gq 3 rfl ?_); refine bx1 HB BK558 (N := 3) (t := 134) ?_; clear HB BK558; intro gb559 w46 BK559 GE559 HB NB558_559 NB559_558 BK558; have hnb47 := NB558_559.out; have hnc47 := NB559_558.out; have hz48 := cs9_ BK558; have hz49 := cs9_ BK559) | ((with_reducible refine gf 187 rfl ?_); refine gL 14 Tryz.func187 #[.agg #[.int .i64 a0_1, .int .i64 a0_2, .int .i64 a0_3], .agg #[.int .i64 a1_1, .int .i64 a1_2, .int .i64 a1_3]] ?_; (with_reducible refine (laws_eqOp.calls a0_1 a0_2 a0_3 a1_1 a1_2 a1_3 true _ A4.out).mono ?_); rintro e w50 ⟨rfl, hb⟩; refine ⟨_, rfl, ?_⟩; replace BK558 := bb BK558 hb; replace BK559 := bb BK559 hb; replace HB := bs HB hb; (try clear hb); have hz51 := cs9_ BK558; have hz52 := cs9_ BK559))
  go_ret
  exact ⟨er, tb HB⟩
 rw [if_pos c6] at H
 have c6b0 : (a0_4 == a1_4) = true := beq_iff_eq.mpr c6
 have c6b1 : (a0_4 != a1_4) = false := bne_eq_false_iff_eq.mpr c6
 clear c6
 by_cases c7 : a0_5 = a1_5
 case neg =>
  rw [if_neg c7] at H
  have c7b0 : (a0_5 == a1_5) = false := beq_eq_false_iff_ne.mpr c7
  have c7b1 : (a0_5 != a1_5) = true := bne_iff_ne.mpr c7
  obtain rfl := oin H
  go_enter Tryz.func155, Tryz.ntmps155
  go_wp2_with (first | ((with_reducible refine gq 2 rfl ?_); refine bx0 HB (N := 2) (t := 134) ?_; clear HB; intro gb558 w37 BK558 GE558 HB) | ((with_reducible refine gq 3 rfl ?_); refine bx1 HB BK558 (N := 3) (t := 134) ?_; clear HB BK558; intro gb559 w38 BK559 GE559 HB NB558_559 NB559_558 BK558; have hnb39 := NB558_559.out; have hnc39 := NB559_558.out; have hz40 := cs9_ BK558; have hz41 := cs9_ BK559) | ((with_reducible refine gf 187 rfl ?_); refine gL 14 Tryz.func187 #[.agg #[.int .i64 a0_1, .int .i64 a0_2, .int .i64 a0_3], .agg #[.int .i64 a1_1, .int .i64 a1_2, .int .i64 a1_3]] ?_; (with_reducible refine (laws_eqOp.calls a0_1 a0_2 a0_3 a1_1 a1_2 a1_3 true _ A4.out).mono ?_); rintro e w42 ⟨rfl, hb⟩; refine ⟨_, rfl, ?_⟩; replace BK558 := bb BK558 hb; replace BK559 := bb BK559 hb; replace HB := bs HB hb; (try clear hb); have hz43 := cs9_ BK558; have hz44 := cs9_ BK559))
  go_ret
  exact ⟨er, tb HB⟩
 rw [if_pos c7] at H
 have c7b0 : (a0_5 == a1_5) = true := beq_iff_eq.mpr c7
 have c7b1 : (a0_5 != a1_5) = false := bne_eq_false_iff_eq.mpr c7
 clear c7
 by_cases c8 : a0_6 = a1_6
 case neg =>
  rw [if_neg c8] at H
  have c8b0 : (a0_6 == a1_6) = false := beq_eq_false_iff_ne.mpr c8
  have c8b1 : (a0_6 != a1_6) = true := bne_iff_ne.mpr c8
  obtain rfl := oin H
  go_enter Tryz.func155, Tryz.ntmps155
  go_wp2_with (first | ((with_reducible refine gq 2 rfl ?_); refine bx0 HB (N := 2) (t := 134) ?_; clear HB; intro gb558 w29 BK558 GE558 HB) | ((with_reducible refine gq 3 rfl ?_); refine bx1 HB BK558 (N := 3) (t := 134) ?_; clear HB BK558; intro gb559 w30 BK559 GE559 HB NB558_559 NB559_558 BK558; have hnb31 := NB558_559.out; have hnc31 := NB559_558.out; have hz32 := cs9_ BK558; have hz33 := cs9_ BK559) | ((with_reducible refine gf 187 rfl ?_); refine gL 14 Tryz.func187 #[.agg #[.int .i64 a0_1, .int .i64 a0_2, .int .i64 a0_3], .agg #[.int .i64 a1_1, .int .i64 a1_2, .int .i64 a1_3]] ?_; (with_reducible refine (laws_eqOp.calls a0_1 a0_2 a0_3 a1_1 a1_2 a1_3 true _ A4.out).mono ?_); rintro e w34 ⟨rfl, hb⟩; refine ⟨_, rfl, ?_⟩; replace BK558 := bb BK558 hb; replace BK559 := bb BK559 hb; replace HB := bs HB hb; (try clear hb); have hz35 := cs9_ BK558; have hz36 := cs9_ BK559))
  go_ret
  exact ⟨er, tb HB⟩
 rw [if_pos c8] at H
 have c8b0 : (a0_6 == a1_6) = true := beq_iff_eq.mpr c8
 have c8b1 : (a0_6 != a1_6) = false := bne_eq_false_iff_eq.mpr c8
 clear c8
 obtain ⟨t561, A9, H⟩ := bn H
 try dsimp only at H
 cases t561
 case true =>
  replace H := ipt H
  obtain rfl := oin H
  go_enter Tryz.func155, Tryz.ntmps155
  go_wp2_with (first | ((with_reducible refine gq 2 rfl ?_); refine bx0 HB (N := 2) (t := 134) ?_; clear HB; intro gb558 w11 BK558 GE558 HB) | ((with_reducible refine gq 3 rfl ?_); refine bx1 HB BK558 (N := 3) (t := 134) ?_; clear HB BK558; intro gb559 w12 BK559 GE559 HB NB558_559 NB559_558 BK558; have hnb13 := NB558_559.out; have hnc13 := NB559_558.out; have hz14 := cs9_ BK558; have hz15 := cs9_ BK559) | ((with_reducible refine gf 187 rfl ?_); refine gL 14 Tryz.func187 #[.agg #[.int .i64 a0_1, .int .i64 a0_2, .int .i64 a0_3], .agg #[.int .i64 a1_1, .int .i64 a1_2, .int .i64 a1_3]] ?_; (with_reducible refine (laws_eqOp.calls a0_1 a0_2 a0_3 a1_1 a1_2 a1_3 true _ A4.out).mono ?_); rintro e w16 ⟨rfl, hb⟩; refine ⟨_, rfl, ?_⟩; replace BK558 := bb BK558 hb; replace BK559 := bb BK559 hb; replace HB := bs HB hb; (try clear hb); have hz17 := cs9_ BK558; have hz18 := cs9_ BK559) | ((with_reducible refine gf 188 rfl ?_); refine gL 35 Tryz.func188 #[.agg #[.int .i64 a0_7, .slice A0_8 l0_8.length c0_8], .agg #[.int .i64 a1_7, .slice A1_8 l1_8.length c1_8]] ?_; (with_reducible refine (laws_eqRes.calls k a0_7 _ _ l0_8 a1_7 _ _ l1_8 true _ (kc HR0_8 HB) HC0_8.out (kc HR1_8 HB) HC1_8.out A9.out).mono ?_); rintro e w19 ⟨rfl, hb⟩; refine ⟨_, rfl, ?_⟩; replace BK558 := bb BK558 hb; replace BK559 := bb BK559 hb; replace HB := bs HB hb; (try clear hb)))
  go_ret
  exact ⟨er, tb HB⟩
 replace H := ipf H
 obtain rfl := oin H
 go_enter Tryz.func155, Tryz.ntmps155
 go_wp2_with (first | ((with_reducible refine gq 2 rfl ?_); refine bx0 HB (N := 2) (t := 134) ?_; clear HB; intro gb558 w20 BK558 GE558 HB) | ((with_reducible refine gq 3 rfl ?_); refine bx1 HB BK558 (N := 3) (t := 134) ?_; clear HB BK558; intro gb559 w21 BK559 GE559 HB NB558_559 NB559_558 BK558; have hnb22 := NB558_559.out; have hnc22 := NB559_558.out; have hz23 := cs9_ BK558; have hz24 := cs9_ BK559) | ((with_reducible refine gf 187 rfl ?_); refine gL 14 Tryz.func187 #[.agg #[.int .i64 a0_1, .int .i64 a0_2, .int .i64 a0_3], .agg #[.int .i64 a1_1, .int .i64 a1_2, .int .i64 a1_3]] ?_; (with_reducible refine (laws_eqOp.calls a0_1 a0_2 a0_3 a1_1 a1_2 a1_3 true _ A4.out).mono ?_); rintro e w25 ⟨rfl, hb⟩; refine ⟨_, rfl, ?_⟩; replace BK558 := bb BK558 hb; replace BK559 := bb BK559 hb; replace HB := bs HB hb; (try clear hb); have hz26 := cs9_ BK558; have hz27 := cs9_ BK559) | ((with_reducible refine gf 188 rfl ?_); refine gL 35 Tryz.func188 #[.agg #[.int .i64 a0_7, .slice A0_8 l0_8.length c0_8], .agg #[.int .i64 a1_7, .slice A1_8 l1_8.length c1_8]] ?_; (with_reducible refine (laws_eqRes.calls k a0_7 _ _ l0_8 a1_7 _ _ l1_8 false _ (kc HR0_8 HB) HC0_8.out (kc HR1_8 HB) HC1_8.out A9.out).mono ?_); rintro e w28 ⟨rfl, hb⟩; refine ⟨_, rfl, ?_⟩; replace BK558 := bb BK558 hb; replace BK559 := bb BK559 hb; replace HB := bs HB hb; (try clear hb)))
 go_ret
 exact ⟨er, tb HB⟩
def laws_eqCallS.l0 : Nat → List (S134) → List (S134) → Int → Option (Bool)
 | 0, _, _, _ => none
 | k + 1, x0, x1, x5 => if x5 < (x0.length : Int) then (if 0 ≤ x5 then (if x5 < (x1.length : Int) then ((laws_eqCall.f k ((rd_T134 x0 x5).f0) ((rd_T134 x0 x5).f1.f0) ((rd_T134 x0 x5).f1.f1) ((rd_T134 x0 x5).f1.f2) ((rd_T134 x0 x5).f2) ((rd_T134 x0 x5).f3) ((rd_T134 x0 x5).f4) ((rd_T134 x0 x5).f5.f0) ((rd_T134 x0 x5).f5.f1) ((rd_T134 x1 x5).f0) ((rd_T134 x1 x5).f1.f0) ((rd_T134 x1 x5).f1.f1) ((rd_T134 x1 x5).f1.f2) ((rd_T134 x1 x5).f2) ((rd_T134 x1 x5).f3) ((rd_T134 x1 x5).f4) ((rd_T134 x1 x5).f5.f0) ((rd_T134 x1 x5).f5.f1)).bind fun t564 => (if t564 = true then (laws_eqCallS.l0 k x0 x1 (wrap64 (x5 + 1))) else (some false))) else (none)) else (none)) else (some true)
def laws_eqCallS.f (k : Nat) (l0 : List (S134)) (l1 : List (S134)) : Option (Bool) := if (l0.length : Int) = (l1.length : Int) then (laws_eqCallS.l0 k l0 l1 0) else (some false)
def laws_eqCallS.T6 : Bool × List (List Nat × List Nat) := (true, [([], []), ([], []), ([0, 1], [0, 1]), ([2], [2]), ([], []), ([], []), ([4, 5], [4, 5]), ([6], [6]), ([3, 7], [3, 7]), ([8], [8])])
def laws_eqCallS.B6 : List Nat := [0, 0, 3, 7, 0, 0, 48, 112, 255, 511]
theorem laws_eqCallS.tab6 : rtab .any (opsOf Tryz.f100 6) = laws_eqCallS.T6 := by kernel_rfl
theorem laws_eqCallS.bits6 : waitsOk laws_eqCallS.T6.2 laws_eqCallS.B6 = true := by kernel_rfl
set_option maxHeartbeats 8000000 in
set_option maxRecDepth 100000 in
theorem laws_eqCallS.calls (k : Nat) (A0 : Option Addr) (c0 : Nat) (l0 : List (S134)) (A1 : Option Addr) (c1 : Nat) (l1 : List (S134)) (r : Bool) (w : World) (hr0 : Kd.C k134 w A0 l0.length l0) (hc0 : l0.length ≤ c0) (hr1 : Kd.C k134 w A1 l1.length l1) (hc1 : l1.length ≤ c1) (h : laws_eqCallS.f k l0 l1 = some r) :
  Calls Tryz.prog 100 #[.slice A0 l0.length c0, .slice A1 l1.length c1] w fun e w' => e = .returned (.bool r) ∧ Below w.heap.size w w' := by
 have hu134 := Tryz.underlying134
 have HR0 := Aside0.mk hr0
 have HC0 := Aside0.mk hc0
 clear hr0 hc0
 have HR1 := Aside0.mk hr1
 have HC1 := Aside0.mk hc1
 clear hr1 hc1
 have HB := Aside0.mk (Below.refl w.heap.size w)
 have H := h
 clear h
 unfold laws_eqCallS.f at H
 by_cases c3 : (l0.length : Int) = (l1.length : Int)
 case neg =>
  rw [if_neg c3] at H
  have c3b0 : ((l0.length : Int) == (l1.length : Int)) = false := beq_eq_false_iff_ne.mpr c3
  have c3b1 : ((l0.length : Int) != (l1.length : Int)) = true := bne_iff_ne.mpr c3
  have c3b2 : (l0.length == l1.length) = false := by first | simpa using c3 | (simp at c3 ⊢; omega)
  obtain rfl := oin H
  go_enter Tryz.func100, Tryz.ntmps100
  go_wp2
  go_ret
  exact ⟨er, tb HB⟩
 
 
 rw [if_pos c3] at H
 have c3b0 : ((l0.length : Int) == (l1.length : Int)) = true := beq_iff_eq.mpr c3
 have c3b1 : ((l0.length : Int) != (l1.length : Int)) = false := bne_eq_false_iff_eq.mpr c3
 have c3b2 : (l0.length == l1.length) = true := by first | simpa using c3 | (simp at c3 ⊢; omega)
 clear c3
 have H' := Aside0.mk H
 clear H
 go_enter Tryz.func100, Tryz.ntmps100
 go_wp2
 go_loopg [5] k (fun kq v5 w' => ∃ (x5_1 : Int), v5 = .int .i64 x5_1 ∧ Aside0 (laws_eqCallS.l0 kq l0 l1 x5_1 = some r) ∧ Aside0 (kq ≤ k) ∧ Aside0 (Below w.heap.size w w'))
 case atStart => exact ⟨(0), rsd, H', ⟨Nat.le_refl _⟩, ⟨tb HB⟩⟩
 case round =>
  clear H'
  try clear c1
  try clear p2
  try clear c3
  try clear c3b0
  try clear c3b1
  try clear c3b2
  obtain ⟨x5_1, rfl, HA, HK1, HB⟩ := hrel
  cases gk with
  | zero => exact absurd HA.out (by simp [laws_eqCallS.l0])
  | succ k1 =>
   have H := HA.out
   clear HA
   simp only [laws_eqCallS.l0] at H
   revert H; refine icd (fun c4b0 H => ?_) fun c4b0 H => ?neg
   case neg =>
    obtain rfl := oin H
    go_wp2
    go_ret
    exact ⟨er, tb HB⟩
   obtain ⟨c5b0, H⟩ := itd H
   obtain ⟨c6b0, H⟩ := itd H
   obtain ⟨t564, A7, H⟩ := bn H
   try dsimp only at H
   cases t564
   case false =>
    replace H := ipf H
    obtain rfl := oin H
    try go_wp2
    replace HB := Aside0.mk (below_drew1 HB.out)
    have p562 : 0 ≤ (x5_1 : Int) := od
    have q562 : x5_1 < (l0.length : Int) := od
    obtain ⟨ad562, A562_8, c562_8, e562, hx562, hl562_8, hi562_8⟩ := att134 HR0.out x5_1 p562 q562
    have hw562 := hx562
    cases e562
    replace hx562 := ox9 HB hx562
    have HR562_8 := Aside0.mk hi562_8
    have HC562_8 := Aside0.mk hl562_8
    clear hi562_8 hl562_8
    replace p562 := eq_true p562
    replace q562 := eq_true q562
    have p563 : 0 ≤ (x5_1 : Int) := od
    have q563 : x5_1 < (l1.length : Int) := od
    obtain ⟨ad563, A563_8, c563_8, e563, hx563, hl563_8, hi563_8⟩ := att134 HR1.out x5_1 p563 q563
    have hw563 := hx563
    cases e563
    replace hx563 := ox9 HB hx563
    have HR563_8 := Aside0.mk hi563_8
    have HC563_8 := Aside0.mk hl563_8
    clear hi563_8 hl563_8
    replace p563 := eq_true p563
    replace q563 := eq_true q563
    refine start_ (n := 10) (S := fun w' => eT134 (ad562.add ((x5_1).toNat * 9)) (rd_T134 l0 x5_1) A562_8 c562_8 w' ∧ eT134 (ad563.add ((x5_1).toNat * 9)) (rd_T134 l1 x5_1) A563_8 c563_8 w') (ds := []) #[false, false, false, false, false, false, false, false, false, false] (by kernel_rfl) rfl rfl ⟨(ox9 HB hw562 :), (ox9 HB hw563 :)⟩ (fun hHeld => ?_); refine with_tabW laws_eqCallS.tab6 laws_eqCallS.bits6 (fun HT_ HW_ => ?_)
    generalize wr.drew = w11 at HB HR562_8 HR563_8 hx562 hx563 hHeld ⊢
    refine pu 0 17 ?_; refine pu 1 18 ?_; refine pu 2 19 ?_; refine pu 4 21 ?_; refine pu 5 22 ?_; refine pu 6 23 ?_; refine ta 3 20 ?_; refine ta 7 24 ?_
    refine on1 8 (some 25) (fun K hK => ?_)
    refine gS Tryz.func155 #[.agg #[.int .i64 ((rd_T134 l0 x5_1).f0), .int .i64 ((rd_T134 l0 x5_1).f1.f0), .int .i64 ((rd_T134 l0 x5_1).f1.f1), .int .i64 ((rd_T134 l0 x5_1).f1.f2), .int .i64 ((rd_T134 l0 x5_1).f2), .int .i64 ((rd_T134 l0 x5_1).f3), .int .i64 ((rd_T134 l0 x5_1).f4), .int .i64 ((rd_T134 l0 x5_1).f5.f0), .slice A562_8 ((rd_T134 l0 x5_1).f5.f1).length c562_8], .agg #[.int .i64 ((rd_T134 l1 x5_1).f0), .int .i64 ((rd_T134 l1 x5_1).f1.f0), .int .i64 ((rd_T134 l1 x5_1).f1.f1), .int .i64 ((rd_T134 l1 x5_1).f1.f2), .int .i64 ((rd_T134 l1 x5_1).f2), .int .i64 ((rd_T134 l1 x5_1).f3), .int .i64 ((rd_T134 l1 x5_1).f4), .int .i64 ((rd_T134 l1 x5_1).f5.f0), .slice A563_8 ((rd_T134 l1 x5_1).f5.f1).length c563_8]] ?_
    with_reducible refine (laws_eqCall.calls k1 ((rd_T134 l0 x5_1).f0) ((rd_T134 l0 x5_1).f1.f0) ((rd_T134 l0 x5_1).f1.f1) ((rd_T134 l0 x5_1).f1.f2) ((rd_T134 l0 x5_1).f2) ((rd_T134 l0 x5_1).f3) ((rd_T134 l0 x5_1).f4) ((rd_T134 l0 x5_1).f5.f0) _ _ ((rd_T134 l0 x5_1).f5.f1) ((rd_T134 l1 x5_1).f0) ((rd_T134 l1 x5_1).f1.f0) ((rd_T134 l1 x5_1).f1.f1) ((rd_T134 l1 x5_1).f1.f2) ((rd_T134 l1 x5_1).f2) ((rd_T134 l1 x5_1).f3) ((rd_T134 l1 x5_1).f4) ((rd_T134 l1 x5_1).f5.f0) _ _ ((rd_T134 l1 x5_1).f5.f1) false _ ?side1 ?side2 ?side3 ?side4 A7.out).mono ?_
    (case side1 => exact kc HR562_8 HB)
    (case side2 => exact HC562_8.out)
    (case side3 => exact kc HR563_8 HB)
    (case side4 => exact HC563_8.out)
    rintro e w12 ⟨rfl, hb⟩
    refine ⟨_, rfl, ?_⟩
    replace HB := bs HB hb
    (try clear hb)
    (try clear hb2)
    (try clear hk)
    (try clear hi)
    refine hK.out _ _ ⟨(ox9 HB hw562 :), (ox9 HB hw563 :)⟩ (fun hHeld => ?_)
    clear hK K
    refine nm 25 ?_
    refine pu 9 26 ?_
    refine done_ (done_of HT_.out (by kernel_rfl)) ?_
    try go_wp2
    go_ret
    exact ⟨er, tb HB⟩
   replace H := ipt H
   have H' := Aside0.mk H
   clear H
   try go_wp2
   replace HB := Aside0.mk (below_drew1 HB.out)
   have p562 : 0 ≤ (x5_1 : Int) := od
   have q562 : x5_1 < (l0.length : Int) := od
   obtain ⟨ad562, A562_8, c562_8, e562, hx562, hl562_8, hi562_8⟩ := att134 HR0.out x5_1 p562 q562
   have hw562 := hx562
   cases e562
   replace hx562 := ox9 HB hx562
   have HR562_8 := Aside0.mk hi562_8
   have HC562_8 := Aside0.mk hl562_8
   clear hi562_8 hl562_8
   replace p562 := eq_true p562
   replace q562 := eq_true q562
   have p563 : 0 ≤ (x5_1 : Int) := od
   have q563 : x5_1 < (l1.length : Int) := od
   obtain ⟨ad563, A563_8, c563_8, e563, hx563, hl563_8, hi563_8⟩ := att134 HR1.out x5_1 p563 q563
   have hw563 := hx563
   cases e563
   replace hx563 := ox9 HB hx563
   have HR563_8 := Aside0.mk hi563_8
   have HC563_8 := Aside0.mk hl563_8
   clear hi563_8 hl563_8
   replace p563 := eq_true p563
   replace q563 := eq_true q563
   refine start_ (n := 10) (S := fun w' => eT134 (ad562.add ((x5_1).toNat * 9)) (rd_T134 l0 x5_1) A562_8 c562_8 w' ∧ eT134 (ad563.add ((x5_1).toNat * 9)) (rd_T134 l1 x5_1) A563_8 c563_8 w') (ds := []) #[false, false, false, false, false, false, false, false, false, false] (by kernel_rfl) rfl rfl ⟨(ox9 HB hw562 :), (ox9 HB hw563 :)⟩ (fun hHeld => ?_); refine with_tabW laws_eqCallS.tab6 laws_eqCallS.bits6 (fun HT_ HW_ => ?_)
   generalize wr.drew = w9 at HB HR562_8 HR563_8 hx562 hx563 hHeld ⊢
   refine pu 0 17 ?_; refine pu 1 18 ?_; refine pu 2 19 ?_; refine pu 4 21 ?_; refine pu 5 22 ?_; refine pu 6 23 ?_; refine ta 3 20 ?_; refine ta 7 24 ?_
   refine on1 8 (some 25) (fun K hK => ?_)
   refine gS Tryz.func155 #[.agg #[.int .i64 ((rd_T134 l0 x5_1).f0), .int .i64 ((rd_T134 l0 x5_1).f1.f0), .int .i64 ((rd_T134 l0 x5_1).f1.f1), .int .i64 ((rd_T134 l0 x5_1).f1.f2), .int .i64 ((rd_T134 l0 x5_1).f2), .int .i64 ((rd_T134 l0 x5_1).f3), .int .i64 ((rd_T134 l0 x5_1).f4), .int .i64 ((rd_T134 l0 x5_1).f5.f0), .slice A562_8 ((rd_T134 l0 x5_1).f5.f1).length c562_8], .agg #[.int .i64 ((rd_T134 l1 x5_1).f0), .int .i64 ((rd_T134 l1 x5_1).f1.f0), .int .i64 ((rd_T134 l1 x5_1).f1.f1), .int .i64 ((rd_T134 l1 x5_1).f1.f2), .int .i64 ((rd_T134 l1 x5_1).f2), .int .i64 ((rd_T134 l1 x5_1).f3), .int .i64 ((rd_T134 l1 x5_1).f4), .int .i64 ((rd_T134 l1 x5_1).f5.f0), .slice A563_8 ((rd_T134 l1 x5_1).f5.f1).length c563_8]] ?_
   with_reducible refine (laws_eqCall.calls k1 ((rd_T134 l0 x5_1).f0) ((rd_T134 l0 x5_1).f1.f0) ((rd_T134 l0 x5_1).f1.f1) ((rd_T134 l0 x5_1).f1.f2) ((rd_T134 l0 x5_1).f2) ((rd_T134 l0 x5_1).f3) ((rd_T134 l0 x5_1).f4) ((rd_T134 l0 x5_1).f5.f0) _ _ ((rd_T134 l0 x5_1).f5.f1) ((rd_T134 l1 x5_1).f0) ((rd_T134 l1 x5_1).f1.f0) ((rd_T134 l1 x5_1).f1.f1) ((rd_T134 l1 x5_1).f1.f2) ((rd_T134 l1 x5_1).f2) ((rd_T134 l1 x5_1).f3) ((rd_T134 l1 x5_1).f4) ((rd_T134 l1 x5_1).f5.f0) _ _ ((rd_T134 l1 x5_1).f5.f1) true _ ?side1 ?side2 ?side3 ?side4 A7.out).mono ?_
   (case side1 => exact kc HR562_8 HB)
   (case side2 => exact HC562_8.out)
   (case side3 => exact kc HR563_8 HB)
   (case side4 => exact HC563_8.out)
   rintro e w10 ⟨rfl, hb⟩
   refine ⟨_, rfl, ?_⟩
   replace HB := bs HB hb
   (try clear hb)
   (try clear hb2)
   (try clear hk)
   (try clear hi)
   refine hK.out _ _ ⟨(ox9 HB hw562 :), (ox9 HB hw563 :)⟩ (fun hHeld => ?_)
   clear hK K
   refine nm 25 ?_
   refine pu 9 26 ?_
   refine done_ (done_of HT_.out (by kernel_rfl)) ?_
   try go_wp2
   go_roundg k1
   case measure => have := HK1.out; omega
   case rel => exact ⟨(wrap64 (x5_1 + 1)), rsd, H', ⟨by have := HK1.out; omega⟩, ⟨tb HB⟩⟩
def laws_eqRows.f (k : Nat) (l0_0 : List Int) (a0_1 : Int) (l1_0 : List Int) (a1_1 : Int) : Option (Bool) := (laws_eqIntS.f k l0_0 l1_0).bind fun t567 => (if t567 = true then (if a0_1 = a1_1 then (some true) else (some false)) else (some false))
set_option maxHeartbeats 8000000 in
set_option maxRecDepth 100000 in
theorem laws_eqRows.calls (k : Nat) (A0_0 : Option Addr) (c0_0 : Nat) (l0_0 : List Int) (a0_1 : Int) (A1_0 : Option Addr) (c1_0 : Nat) (l1_0 : List Int) (a1_1 : Int) (r : Bool) (w : World) (hr0_0 : Kd.C (Kd.int .i64) w A0_0 l0_0.length l0_0) (hc0_0 : l0_0.length ≤ c0_0) (hr1_0 : Kd.C (Kd.int .i64) w A1_0 l1_0.length l1_0) (hc1_0 : l1_0.length ≤ c1_0) (h : laws_eqRows.f k l0_0 a0_1 l1_0 a1_1 = some r) :
  Calls Tryz.prog 102 #[.agg #[.slice A0_0 l0_0.length c0_0, .int .i64 a0_1], .agg #[.slice A1_0 l1_0.length c1_0, .int .i64 a1_1]] w fun e w' => e = .returned (.bool r) ∧ Below w.heap.size w w' := by
 have hu73 := Tryz.underlying73
 have HR0_0 := Aside0.mk hr0_0
 have HC0_0 := Aside0.mk hc0_0
 clear hr0_0 hc0_0
 have HR1_0 := Aside0.mk hr1_0
 have HC1_0 := Aside0.mk hc1_0
 clear hr1_0 hc1_0
 have HB := Aside0.mk (Below.refl w.heap.size w)
 have H := h
 clear h
 unfold laws_eqRows.f at H
 obtain ⟨t567, A3, H⟩ := bn H
 try dsimp only at H
 cases t567
 case false =>
  replace H := ipf H
  obtain rfl := oin H
  go_enter Tryz.func102, Tryz.ntmps102
  go_wp2_with (first | ((with_reducible refine gq 2 rfl ?_); refine bx0 HB (N := 2) (t := 73) ?_; clear HB; intro gb565 w16 BK565 GE565 HB) | ((with_reducible refine gq 3 rfl ?_); refine bx1 HB BK565 (N := 3) (t := 73) ?_; clear HB BK565; intro gb566 w17 BK566 GE566 HB NB565_566 NB566_565 BK565; have hnb18 := NB565_566.out; have hnc18 := NB566_565.out; have hz19 := cs2_ BK565; have hz20 := cs2_ BK566) | ((with_reducible refine gf 101 rfl ?_); refine gL 9 Tryz.func101 #[.slice A0_0 l0_0.length c0_0, .slice A1_0 l1_0.length c1_0] ?_; (with_reducible refine (laws_eqIntS.calls k _ _ l0_0 _ _ l1_0 false _ (kc HR0_0 HB) HC0_0.out (kc HR1_0 HB) HC1_0.out A3.out).mono ?_); rintro e w' ⟨rfl, ⟨nd, rfl⟩⟩; refine ⟨_, rfl, ?_⟩))
  go_ret
  exact ⟨er, tb HB⟩
 replace H := ipt H
 by_cases c5 : a0_1 = a1_1
 case neg =>
  rw [if_neg c5] at H
  have c5b0 : (a0_1 == a1_1) = false := beq_eq_false_iff_ne.mpr c5
  have c5b1 : (a0_1 != a1_1) = true := bne_iff_ne.mpr c5
  obtain rfl := oin H
  go_enter Tryz.func102, Tryz.ntmps102
  go_wp2_with (first | ((with_reducible refine gq 2 rfl ?_); refine bx0 HB (N := 2) (t := 73) ?_; clear HB; intro gb565 w11 BK565 GE565 HB) | ((with_reducible refine gq 3 rfl ?_); refine bx1 HB BK565 (N := 3) (t := 73) ?_; clear HB BK565; intro gb566 w12 BK566 GE566 HB NB565_566 NB566_565 BK565; have hnb13 := NB565_566.out; have hnc13 := NB566_565.out; have hz14 := cs2_ BK565; have hz15 := cs2_ BK566) | ((with_reducible refine gf 101 rfl ?_); refine gL 9 Tryz.func101 #[.slice A0_0 l0_0.length c0_0, .slice A1_0 l1_0.length c1_0] ?_; (with_reducible refine (laws_eqIntS.calls k _ _ l0_0 _ _ l1_0 true _ (kc HR0_0 HB) HC0_0.out (kc HR1_0 HB) HC1_0.out A3.out).mono ?_); rintro e w' ⟨rfl, ⟨nd, rfl⟩⟩; refine ⟨_, rfl, ?_⟩))
  go_ret
  exact ⟨er, tb HB⟩
 rw [if_pos c5] at H
 have c5b0 : (a0_1 == a1_1) = true := beq_iff_eq.mpr c5
 have c5b1 : (a0_1 != a1_1) = false := bne_eq_false_iff_eq.mpr c5
 clear c5
 obtain rfl := oin H
 go_enter Tryz.func102, Tryz.ntmps102
 go_wp2_with (first | ((with_reducible refine gq 2 rfl ?_); refine bx0 HB (N := 2) (t := 73) ?_; clear HB; intro gb565 w6 BK565 GE565 HB) | ((with_reducible refine gq 3 rfl ?_); refine bx1 HB BK565 (N := 3) (t := 73) ?_; clear HB BK565; intro gb566 w7 BK566 GE566 HB NB565_566 NB566_565 BK565; have hnb8 := NB565_566.out; have hnc8 := NB566_565.out; have hz9 := cs2_ BK565; have hz10 := cs2_ BK566) | ((with_reducible refine gf 101 rfl ?_); refine gL 9 Tryz.func101 #[.slice A0_0 l0_0.length c0_0, .slice A1_0 l1_0.length c1_0] ?_; (with_reducible refine (laws_eqIntS.calls k _ _ l0_0 _ _ l1_0 true _ (kc HR0_0 HB) HC0_0.out (kc HR1_0 HB) HC1_0.out A3.out).mono ?_); rintro e w' ⟨rfl, ⟨nd, rfl⟩⟩; refine ⟨_, rfl, ?_⟩))
 go_ret
 exact ⟨er, tb HB⟩
def laws_eqMachine.f (k : Nat) (l0_0 : List (S39)) (l0_1 : List (S52)) (l0_2 : List (S82)) (a0_3 : Int) (l0_4 : List (S134)) (l0_5 : List Int) (l0_6 : List Int) (a0_7 : Int) (l1_0 : List (S39)) (l1_1 : List (S52)) (l1_2 : List (S82)) (a1_3 : Int) (l1_4 : List (S134)) (l1_5 : List Int) (l1_6 : List Int) (a1_7 : Int) : Option (Bool) := (laws_eqMem.f k l0_0 l0_1 l1_0 l1_1).bind fun t570 => (if t570 = true then ((laws_eqThreadS.f k l0_2 l1_2).bind fun t571 => (if t571 = true then (if a0_3 = a1_3 then ((laws_eqCallS.f k l0_4 l1_4).bind fun t572 => (if t572 = true then ((laws_eqIntS.f k l0_5 l1_5).bind fun t573 => (if t573 = true then ((laws_eqRows.f k l0_6 a0_7 l1_6 a1_7).bind fun t574 => (if t574 = true then (some true) else (some false))) else (some false))) else (some false))) else (some false)) else (some false))) else (some false))
set_option maxHeartbeats 8000000 in
set_option maxRecDepth 100000 in
theorem laws_eqMachine.calls (k : Nat) (A0_0 : Option Addr) (c0_0 : Nat) (l0_0 : List (S39)) (A0_1 : Option Addr) (c0_1 : Nat) (l0_1 : List (S52)) (A0_2 : Option Addr) (c0_2 : Nat) (l0_2 : List (S82)) (a0_3 : Int) (A0_4 : Option Addr) (c0_4 : Nat) (l0_4 : List (S134)) (A0_5 : Option Addr) (c0_5 : Nat) (l0_5 : List Int) (A0_6 : Option Addr) (c0_6 : Nat) (l0_6 : List Int) (a0_7 : Int) (A1_0 : Option Addr) (c1_0 : Nat) (l1_0 : List (S39)) (A1_1 : Option Addr) (c1_1 : Nat) (l1_1 : List (S52)) (A1_2 : Option Addr) (c1_2 : Nat) (l1_2 : List (S82)) (a1_3 : Int) (A1_4 : Option Addr) (c1_4 : Nat) (l1_4 : List (S134)) (A1_5 : Option Addr) (c1_5 : Nat) (l1_5 : List Int) (A1_6 : Option Addr) (c1_6 : Nat) (l1_6 : List Int) (a1_7 : Int) (r : Bool) (w : World) (hr0_0 : Kd.C k39 w A0_0 l0_0.length l0_0) (hc0_0 : l0_0.length ≤ c0_0) (hr0_1 : Kd.C k52 w A0_1 l0_1.length l0_1) (hc0_1 : l0_1.length ≤ c0_1) (hr0_2 : Kd.C k82 w A0_2 l0_2.length l0_2) (hc0_2 : l0_2.length ≤ c0_2) (hr0_4 : Kd.C k134 w A0_4 l0_4.length l0_4) (hc0_4 : l0_4.length ≤ c0_4) (hr0_5 : Kd.C (Kd.int .i64) w A0_5 l0_5.length l0_5) (hc0_5 : l0_5.length ≤ c0_5) (hr0_6 : Kd.C (Kd.int .i64) w A0_6 l0_6.length l0_6) (hc0_6 : l0_6.length ≤ c0_6) (hr1_0 : Kd.C k39 w A1_0 l1_0.length l1_0) (hc1_0 : l1_0.length ≤ c1_0) (hr1_1 : Kd.C k52 w A1_1 l1_1.length l1_1) (hc1_1 : l1_1.length ≤ c1_1) (hr1_2 : Kd.C k82 w A1_2 l1_2.length l1_2) (hc1_2 : l1_2.length ≤ c1_2) (hr1_4 : Kd.C k134 w A1_4 l1_4.length l1_4) (hc1_4 : l1_4.length ≤ c1_4) (hr1_5 : Kd.C (Kd.int .i64) w A1_5 l1_5.length l1_5) (hc1_5 : l1_5.length ≤ c1_5) (hr1_6 : Kd.C (Kd.int .i64) w A1_6 l1_6.length l1_6) (hc1_6 : l1_6.length ≤ c1_6) (h : laws_eqMachine.f k l0_0 l0_1 l0_2 a0_3 l0_4 l0_5 l0_6 a0_7 l1_0 l1_1 l1_2 a1_3 l1_4 l1_5 l1_6 a1_7 = some r) :
  Calls Tryz.prog 28 #[.agg #[.slice A0_0 l0_0.length c0_0, .slice A0_1 l0_1.length c0_1, .slice A0_2 l0_2.length c0_2, .int .i64 a0_3, .slice A0_4 l0_4.length c0_4, .slice A0_5 l0_5.length c0_5, .slice A0_6 l0_6.length c0_6, .int .i64 a0_7], .agg #[.slice A1_0 l1_0.length c1_0, .slice A1_1 l1_1.length c1_1, .slice A1_2 l1_2.length c1_2, .int .i64 a1_3, .slice A1_4 l1_4.length c1_4, .slice A1_5 l1_5.length c1_5, .slice A1_6 l1_6.length c1_6, .int .i64 a1_7]] w fun e w' => e = .returned (.bool r) ∧ Below w.heap.size w w' := by
 have hu75 := Tryz.underlying75
 have hu27 := Tryz.underlying27
 have hu73 := Tryz.underlying73
 have HR0_0 := Aside0.mk hr0_0
 have HC0_0 := Aside0.mk hc0_0
 clear hr0_0 hc0_0
 have HR0_1 := Aside0.mk hr0_1
 have HC0_1 := Aside0.mk hc0_1
 clear hr0_1 hc0_1
 have HR0_2 := Aside0.mk hr0_2
 have HC0_2 := Aside0.mk hc0_2
 clear hr0_2 hc0_2
 have HR0_4 := Aside0.mk hr0_4
 have HC0_4 := Aside0.mk hc0_4
 clear hr0_4 hc0_4
 have HR0_5 := Aside0.mk hr0_5
 have HC0_5 := Aside0.mk hc0_5
 clear hr0_5 hc0_5
 have HR0_6 := Aside0.mk hr0_6
 have HC0_6 := Aside0.mk hc0_6
 clear hr0_6 hc0_6
 have HR1_0 := Aside0.mk hr1_0
 have HC1_0 := Aside0.mk hc1_0
 clear hr1_0 hc1_0
 have HR1_1 := Aside0.mk hr1_1
 have HC1_1 := Aside0.mk hc1_1
 clear hr1_1 hc1_1
 have HR1_2 := Aside0.mk hr1_2
 have HC1_2 := Aside0.mk hc1_2
 clear hr1_2 hc1_2
 have HR1_4 := Aside0.mk hr1_4
 have HC1_4 := Aside0.mk hc1_4
 clear hr1_4 hc1_4
 have HR1_5 := Aside0.mk hr1_5
 have HC1_5 := Aside0.mk hc1_5
 clear hr1_5 hc1_5
 have HR1_6 := Aside0.mk hr1_6
 have HC1_6 := Aside0.mk hc1_6
 clear hr1_6 hc1_6
 have HB := Aside0.mk (Below.refl w.heap.size w)
 have H := h
 clear h
 unfold laws_eqMachine.f at H
 obtain ⟨t570, A3, H⟩ := bn H
 try dsimp only at H
 cases t570
 case false =>
  replace H := ipf H
  obtain rfl := oin H
  go_enter Tryz.func28, Tryz.ntmps28
  go_wp2_with (first | ((with_reducible refine gq 2 rfl ?_); refine bx0 HB (N := 2) (t := 75) ?_; clear HB; intro gb568 w90 BK568 GE568 HB) | ((with_reducible refine gq 3 rfl ?_); refine bx1 HB BK568 (N := 3) (t := 75) ?_; clear HB BK568; intro gb569 w91 BK569 GE569 HB NB568_569 NB569_568 BK568; have hnb92 := NB568_569.out; have hnc92 := NB569_568.out; have hz93 := cs8_ BK568; have hz94 := cs8_ BK569) | ((with_reducible refine gf 98 rfl ?_); refine gL 9 Tryz.func98 #[.agg #[.slice A0_0 l0_0.length c0_0, .slice A0_1 l0_1.length c0_1], .agg #[.slice A1_0 l1_0.length c1_0, .slice A1_1 l1_1.length c1_1]] ?_; (with_reducible refine (laws_eqMem.calls k _ _ l0_0 _ _ l0_1 _ _ l1_0 _ _ l1_1 false _ (kc HR0_0 HB) HC0_0.out (kc HR0_1 HB) HC0_1.out (kc HR1_0 HB) HC1_0.out (kc HR1_1 HB) HC1_1.out A3.out).mono ?_); rintro e w95 ⟨rfl, hb⟩; refine ⟨_, rfl, ?_⟩; replace BK568 := bb BK568 hb; replace BK569 := bb BK569 hb; replace HB := bs HB hb; (try clear hb)))
  go_ret
  exact ⟨er, tb HB⟩
 replace H := ipt H
 obtain ⟨t571, A5, H⟩ := bn H
 try dsimp only at H
 cases t571
 case false =>
  replace H := ipf H
  obtain rfl := oin H
  go_enter Tryz.func28, Tryz.ntmps28
  go_wp2_with (first | ((with_reducible refine gq 2 rfl ?_); refine bx0 HB (N := 2) (t := 75) ?_; clear HB; intro gb568 w81 BK568 GE568 HB) | ((with_reducible refine gq 3 rfl ?_); refine bx1 HB BK568 (N := 3) (t := 75) ?_; clear HB BK568; intro gb569 w82 BK569 GE569 HB NB568_569 NB569_568 BK568; have hnb83 := NB568_569.out; have hnc83 := NB569_568.out; have hz84 := cs8_ BK568; have hz85 := cs8_ BK569) | ((with_reducible refine gf 98 rfl ?_); refine gL 9 Tryz.func98 #[.agg #[.slice A0_0 l0_0.length c0_0, .slice A0_1 l0_1.length c0_1], .agg #[.slice A1_0 l1_0.length c1_0, .slice A1_1 l1_1.length c1_1]] ?_; (with_reducible refine (laws_eqMem.calls k _ _ l0_0 _ _ l0_1 _ _ l1_0 _ _ l1_1 true _ (kc HR0_0 HB) HC0_0.out (kc HR0_1 HB) HC0_1.out (kc HR1_0 HB) HC1_0.out (kc HR1_1 HB) HC1_1.out A3.out).mono ?_); rintro e w86 ⟨rfl, hb⟩; refine ⟨_, rfl, ?_⟩; replace BK568 := bb BK568 hb; replace BK569 := bb BK569 hb; replace HB := bs HB hb; (try clear hb); have hz87 := cs8_ BK568; have hz88 := cs8_ BK569) | ((with_reducible refine gf 99 rfl ?_); refine gL 15 Tryz.func99 #[.slice A0_2 l0_2.length c0_2, .slice A1_2 l1_2.length c1_2] ?_; (with_reducible refine (laws_eqThreadS.calls k _ _ l0_2 _ _ l1_2 false _ (kc HR0_2 HB) HC0_2.out (kc HR1_2 HB) HC1_2.out A5.out).mono ?_); rintro e w89 ⟨rfl, hb⟩; refine ⟨_, rfl, ?_⟩; replace BK568 := bb BK568 hb; replace BK569 := bb BK569 hb; replace HB := bs HB hb; (try clear hb)))
  go_ret
  exact ⟨er, tb HB⟩
 replace H := ipt H
 by_cases c7 : a0_3 = a1_3
 case neg =>
  rw [if_neg c7] at H
  have c7b0 : (a0_3 == a1_3) = false := beq_eq_false_iff_ne.mpr c7
  have c7b1 : (a0_3 != a1_3) = true := bne_iff_ne.mpr c7
  obtain rfl := oin H
  go_enter Tryz.func28, Tryz.ntmps28
  go_wp2_with (first | ((with_reducible refine gq 2 rfl ?_); refine bx0 HB (N := 2) (t := 75) ?_; clear HB; intro gb568 w70 BK568 GE568 HB) | ((with_reducible refine gq 3 rfl ?_); refine bx1 HB BK568 (N := 3) (t := 75) ?_; clear HB BK568; intro gb569 w71 BK569 GE569 HB NB568_569 NB569_568 BK568; have hnb72 := NB568_569.out; have hnc72 := NB569_568.out; have hz73 := cs8_ BK568; have hz74 := cs8_ BK569) | ((with_reducible refine gf 98 rfl ?_); refine gL 9 Tryz.func98 #[.agg #[.slice A0_0 l0_0.length c0_0, .slice A0_1 l0_1.length c0_1], .agg #[.slice A1_0 l1_0.length c1_0, .slice A1_1 l1_1.length c1_1]] ?_; (with_reducible refine (laws_eqMem.calls k _ _ l0_0 _ _ l0_1 _ _ l1_0 _ _ l1_1 true _ (kc HR0_0 HB) HC0_0.out (kc HR0_1 HB) HC0_1.out (kc HR1_0 HB) HC1_0.out (kc HR1_1 HB) HC1_1.out A3.out).mono ?_); rintro e w75 ⟨rfl, hb⟩; refine ⟨_, rfl, ?_⟩; replace BK568 := bb BK568 hb; replace BK569 := bb BK569 hb; replace HB := bs HB hb; (try clear hb); have hz76 := cs8_ BK568; have hz77 := cs8_ BK569) | ((with_reducible refine gf 99 rfl ?_); refine gL 15 Tryz.func99 #[.slice A0_2 l0_2.length c0_2, .slice A1_2 l1_2.length c1_2] ?_; (with_reducible refine (laws_eqThreadS.calls k _ _ l0_2 _ _ l1_2 true _ (kc HR0_2 HB) HC0_2.out (kc HR1_2 HB) HC1_2.out A5.out).mono ?_); rintro e w78 ⟨rfl, hb⟩; refine ⟨_, rfl, ?_⟩; replace BK568 := bb BK568 hb; replace BK569 := bb BK569 hb; replace HB := bs HB hb; (try clear hb); have hz79 := cs8_ BK568; have hz80 := cs8_ BK569))
  go_ret
  exact ⟨er, tb HB⟩
 rw [if_pos c7] at H
 have c7b0 : (a0_3 == a1_3) = true := beq_iff_eq.mpr c7
 have c7b1 : (a0_3 != a1_3) = false := bne_eq_false_iff_eq.mpr c7
 clear c7
 obtain ⟨t572, A8, H⟩ := bn H
 try dsimp only at H
 cases t572
 case false =>
  replace H := ipf H
  obtain rfl := oin H
  go_enter Tryz.func28, Tryz.ntmps28
  go_wp2_with (first | ((with_reducible refine gq 2 rfl ?_); refine bx0 HB (N := 2) (t := 75) ?_; clear HB; intro gb568 w58 BK568 GE568 HB) | ((with_reducible refine gq 3 rfl ?_); refine bx1 HB BK568 (N := 3) (t := 75) ?_; clear HB BK568; intro gb569 w59 BK569 GE569 HB NB568_569 NB569_568 BK568; have hnb60 := NB568_569.out; have hnc60 := NB569_568.out; have hz61 := cs8_ BK568; have hz62 := cs8_ BK569) | ((with_reducible refine gf 98 rfl ?_); refine gL 9 Tryz.func98 #[.agg #[.slice A0_0 l0_0.length c0_0, .slice A0_1 l0_1.length c0_1], .agg #[.slice A1_0 l1_0.length c1_0, .slice A1_1 l1_1.length c1_1]] ?_; (with_reducible refine (laws_eqMem.calls k _ _ l0_0 _ _ l0_1 _ _ l1_0 _ _ l1_1 true _ (kc HR0_0 HB) HC0_0.out (kc HR0_1 HB) HC0_1.out (kc HR1_0 HB) HC1_0.out (kc HR1_1 HB) HC1_1.out A3.out).mono ?_); rintro e w63 ⟨rfl, hb⟩; refine ⟨_, rfl, ?_⟩; replace BK568 := bb BK568 hb; replace BK569 := bb BK569 hb; replace HB := bs HB hb; (try clear hb); have hz64 := cs8_ BK568; have hz65 := cs8_ BK569) | ((with_reducible refine gf 99 rfl ?_); refine gL 15 Tryz.func99 #[.slice A0_2 l0_2.length c0_2, .slice A1_2 l1_2.length c1_2] ?_; (with_reducible refine (laws_eqThreadS.calls k _ _ l0_2 _ _ l1_2 true _ (kc HR0_2 HB) HC0_2.out (kc HR1_2 HB) HC1_2.out A5.out).mono ?_); rintro e w66 ⟨rfl, hb⟩; refine ⟨_, rfl, ?_⟩; replace BK568 := bb BK568 hb; replace BK569 := bb BK569 hb; replace HB := bs HB hb; (try clear hb); have hz67 := cs8_ BK568; have hz68 := cs8_ BK569) | ((with_reducible refine gf 100 rfl ?_); refine gL 26 Tryz.func100 #[.slice A0_4 l0_4.length c0_4, .slice A1_4 l1_4.length c1_4] ?_; (with_reducible refine (laws_eqCallS.calls k _ _ l0_4 _ _ l1_4 false _ (kc HR0_4 HB) HC0_4.out (kc HR1_4 HB) HC1_4.out A8.out).mono ?_); rintro e w69 ⟨rfl, hb⟩; refine ⟨_, rfl, ?_⟩; replace BK568 := bb BK568 hb; replace BK569 := bb BK569 hb; replace HB := bs HB hb; (try clear hb)))
  go_ret
  exact ⟨er, tb HB⟩
 replace H := ipt H
 obtain ⟨t573, A10, H⟩ := bn H
 try dsimp only at H
 cases t573
 case false =>
  replace H := ipf H
  obtain rfl := oin H
  go_enter Tryz.func28, Tryz.ntmps28
  go_wp2_with (first | ((with_reducible refine gq 2 rfl ?_); refine bx0 HB (N := 2) (t := 75) ?_; clear HB; intro gb568 w44 BK568 GE568 HB) | ((with_reducible refine gq 3 rfl ?_); refine bx1 HB BK568 (N := 3) (t := 75) ?_; clear HB BK568; intro gb569 w45 BK569 GE569 HB NB568_569 NB569_568 BK568; have hnb46 := NB568_569.out; have hnc46 := NB569_568.out; have hz47 := cs8_ BK568; have hz48 := cs8_ BK569) | ((with_reducible refine gf 98 rfl ?_); refine gL 9 Tryz.func98 #[.agg #[.slice A0_0 l0_0.length c0_0, .slice A0_1 l0_1.length c0_1], .agg #[.slice A1_0 l1_0.length c1_0, .slice A1_1 l1_1.length c1_1]] ?_; (with_reducible refine (laws_eqMem.calls k _ _ l0_0 _ _ l0_1 _ _ l1_0 _ _ l1_1 true _ (kc HR0_0 HB) HC0_0.out (kc HR0_1 HB) HC0_1.out (kc HR1_0 HB) HC1_0.out (kc HR1_1 HB) HC1_1.out A3.out).mono ?_); rintro e w49 ⟨rfl, hb⟩; refine ⟨_, rfl, ?_⟩; replace BK568 := bb BK568 hb; replace BK569 := bb BK569 hb; replace HB := bs HB hb; (try clear hb); have hz50 := cs8_ BK568; have hz51 := cs8_ BK569) | ((with_reducible refine gf 99 rfl ?_); refine gL 15 Tryz.func99 #[.slice A0_2 l0_2.length c0_2, .slice A1_2 l1_2.length c1_2] ?_; (with_reducible refine (laws_eqThreadS.calls k _ _ l0_2 _ _ l1_2 true _ (kc HR0_2 HB) HC0_2.out (kc HR1_2 HB) HC1_2.out A5.out).mono ?_); rintro e w52 ⟨rfl, hb⟩; refine ⟨_, rfl, ?_⟩; replace BK568 := bb BK568 hb; replace BK569 := bb BK569 hb; replace HB := bs HB hb; (try clear hb); have hz53 := cs8_ BK568; have hz54 := cs8_ BK569) | ((with_reducible refine gf 100 rfl ?_); refine gL 26 Tryz.func100 #[.slice A0_4 l0_4.length c0_4, .slice A1_4 l1_4.length c1_4] ?_; (with_reducible refine (laws_eqCallS.calls k _ _ l0_4 _ _ l1_4 true _ (kc HR0_4 HB) HC0_4.out (kc HR1_4 HB) HC1_4.out A8.out).mono ?_); rintro e w55 ⟨rfl, hb⟩; refine ⟨_, rfl, ?_⟩; replace BK568 := bb BK568 hb; replace BK569 := bb BK569 hb; replace HB := bs HB hb; (try clear hb); have hz56 := cs8_ BK568; have hz57 := cs8_ BK569) | ((with_reducible refine gf 101 rfl ?_); refine gL 32 Tryz.func101 #[.slice A0_5 l0_5.length c0_5, .slice A1_5 l1_5.length c1_5] ?_; (with_reducible refine (laws_eqIntS.calls k _ _ l0_5 _ _ l1_5 false _ (kc HR0_5 HB) HC0_5.out (kc HR1_5 HB) HC1_5.out A10.out).mono ?_); rintro e w' ⟨rfl, ⟨nd, rfl⟩⟩; refine ⟨_, rfl, ?_⟩))
  go_ret
  exact ⟨er, tb HB⟩
 replace H := ipt H
 obtain ⟨t574, A12, H⟩ := bn H
 try dsimp only at H
 cases t574
 case true =>
  replace H := ipt H
  obtain rfl := oin H
  go_enter Tryz.func28, Tryz.ntmps28
  go_wp2_with (first | ((with_reducible refine gq 2 rfl ?_); refine bx0 HB (N := 2) (t := 75) ?_; clear HB; intro gb568 w14 BK568 GE568 HB) | ((with_reducible refine gq 3 rfl ?_); refine bx1 HB BK568 (N := 3) (t := 75) ?_; clear HB BK568; intro gb569 w15 BK569 GE569 HB NB568_569 NB569_568 BK568; have hnb16 := NB568_569.out; have hnc16 := NB569_568.out; have hz17 := cs8_ BK568; have hz18 := cs8_ BK569) | ((with_reducible refine gf 98 rfl ?_); refine gL 9 Tryz.func98 #[.agg #[.slice A0_0 l0_0.length c0_0, .slice A0_1 l0_1.length c0_1], .agg #[.slice A1_0 l1_0.length c1_0, .slice A1_1 l1_1.length c1_1]] ?_; (with_reducible refine (laws_eqMem.calls k _ _ l0_0 _ _ l0_1 _ _ l1_0 _ _ l1_1 true _ (kc HR0_0 HB) HC0_0.out (kc HR0_1 HB) HC0_1.out (kc HR1_0 HB) HC1_0.out (kc HR1_1 HB) HC1_1.out A3.out).mono ?_); rintro e w19 ⟨rfl, hb⟩; refine ⟨_, rfl, ?_⟩; replace BK568 := bb BK568 hb; replace BK569 := bb BK569 hb; replace HB := bs HB hb; (try clear hb); have hz20 := cs8_ BK568; have hz21 := cs8_ BK569) | ((with_reducible refine gf 99 rfl ?_); refine gL 15 Tryz.func99 #[.slice A0_2 l0_2.length c0_2, .slice A1_2 l1_2.length c1_2] ?_; (with_reducible refine (laws_eqThreadS.calls k _ _ l0_2 _ _ l1_2 true _ (kc HR0_2 HB) HC0_2.out (kc HR1_2 HB) HC1_2.out A5.out).mono ?_); rintro e w22 ⟨rfl, hb⟩; refine ⟨_, rfl, ?_⟩; replace BK568 := bb BK568 hb; replace BK569 := bb BK569 hb; replace HB := bs HB hb; (try clear hb); have hz23 := cs8_ BK568; have hz24 := cs8_ BK569) | ((with_reducible refine gf 100 rfl ?_); refine gL 26 Tryz.func100 #[.slice A0_4 l0_4.length c0_4, .slice A1_4 l1_4.length c1_4] ?_; (with_reducible refine (laws_eqCallS.calls k _ _ l0_4 _ _ l1_4 true _ (kc HR0_4 HB) HC0_4.out (kc HR1_4 HB) HC1_4.out A8.out).mono ?_); rintro e w25 ⟨rfl, hb⟩; refine ⟨_, rfl, ?_⟩; replace BK568 := bb BK568 hb; replace BK569 := bb BK569 hb; replace HB := bs HB hb; (try clear hb); have hz26 := cs8_ BK568; have hz27 := cs8_ BK569) | ((with_reducible refine gf 101 rfl ?_); refine gL 32 Tryz.func101 #[.slice A0_5 l0_5.length c0_5, .slice A1_5 l1_5.length c1_5] ?_; (with_reducible refine (laws_eqIntS.calls k _ _ l0_5 _ _ l1_5 true _ (kc HR0_5 HB) HC0_5.out (kc HR1_5 HB) HC1_5.out A10.out).mono ?_); rintro e w' ⟨rfl, ⟨nd, rfl⟩⟩; refine ⟨_, rfl, ?_⟩) | ((with_reducible refine gf 102 rfl ?_); refine gL 38 Tryz.func102 #[.agg #[.slice A0_6 l0_6.length c0_6, .int .i64 a0_7], .agg #[.slice A1_6 l1_6.length c1_6, .int .i64 a1_7]] ?_; (with_reducible refine (laws_eqRows.calls k _ _ l0_6 a0_7 _ _ l1_6 a1_7 true _ ?side1 HC0_6.out ?side3 ?side4 A12.out).mono ?_); (case side1 => repeat (first | exact (Kd.C_below HR0_6.out (tb HB)) | (with_reducible refine Kd.C_alloc ?_ _) | (with_reducible refine Kd.C_drewN ?_ _) | (with_reducible refine Kd.C_drew ?_))); (case side3 => repeat (first | exact (Kd.C_below HR1_6.out (tb HB)) | (with_reducible refine Kd.C_alloc ?_ _) | (with_reducible refine Kd.C_drewN ?_ _) | (with_reducible refine Kd.C_drew ?_))); (case side4 => exact HC1_6.out); rintro e w28 ⟨rfl, hb⟩; refine ⟨_, rfl, ?_⟩; replace BK568 := bb BK568 hb; replace BK569 := bb BK569 hb; replace HB := bs HB hb; (try clear hb)))
  go_ret
  exact ⟨er, tb HB⟩
 replace H := ipf H
 obtain rfl := oin H
 go_enter Tryz.func28, Tryz.ntmps28
 go_wp2_with (first | ((with_reducible refine gq 2 rfl ?_); refine bx0 HB (N := 2) (t := 75) ?_; clear HB; intro gb568 w29 BK568 GE568 HB) | ((with_reducible refine gq 3 rfl ?_); refine bx1 HB BK568 (N := 3) (t := 75) ?_; clear HB BK568; intro gb569 w30 BK569 GE569 HB NB568_569 NB569_568 BK568; have hnb31 := NB568_569.out; have hnc31 := NB569_568.out; have hz32 := cs8_ BK568; have hz33 := cs8_ BK569) | ((with_reducible refine gf 98 rfl ?_); refine gL 9 Tryz.func98 #[.agg #[.slice A0_0 l0_0.length c0_0, .slice A0_1 l0_1.length c0_1], .agg #[.slice A1_0 l1_0.length c1_0, .slice A1_1 l1_1.length c1_1]] ?_; (with_reducible refine (laws_eqMem.calls k _ _ l0_0 _ _ l0_1 _ _ l1_0 _ _ l1_1 true _ (kc HR0_0 HB) HC0_0.out (kc HR0_1 HB) HC0_1.out (kc HR1_0 HB) HC1_0.out (kc HR1_1 HB) HC1_1.out A3.out).mono ?_); rintro e w34 ⟨rfl, hb⟩; refine ⟨_, rfl, ?_⟩; replace BK568 := bb BK568 hb; replace BK569 := bb BK569 hb; replace HB := bs HB hb; (try clear hb); have hz35 := cs8_ BK568; have hz36 := cs8_ BK569) | ((with_reducible refine gf 99 rfl ?_); refine gL 15 Tryz.func99 #[.slice A0_2 l0_2.length c0_2, .slice A1_2 l1_2.length c1_2] ?_; (with_reducible refine (laws_eqThreadS.calls k _ _ l0_2 _ _ l1_2 true _ (kc HR0_2 HB) HC0_2.out (kc HR1_2 HB) HC1_2.out A5.out).mono ?_); rintro e w37 ⟨rfl, hb⟩; refine ⟨_, rfl, ?_⟩; replace BK568 := bb BK568 hb; replace BK569 := bb BK569 hb; replace HB := bs HB hb; (try clear hb); have hz38 := cs8_ BK568; have hz39 := cs8_ BK569) | ((with_reducible refine gf 100 rfl ?_); refine gL 26 Tryz.func100 #[.slice A0_4 l0_4.length c0_4, .slice A1_4 l1_4.length c1_4] ?_; (with_reducible refine (laws_eqCallS.calls k _ _ l0_4 _ _ l1_4 true _ (kc HR0_4 HB) HC0_4.out (kc HR1_4 HB) HC1_4.out A8.out).mono ?_); rintro e w40 ⟨rfl, hb⟩; refine ⟨_, rfl, ?_⟩; replace BK568 := bb BK568 hb; replace BK569 := bb BK569 hb; replace HB := bs HB hb; (try clear hb); have hz41 := cs8_ BK568; have hz42 := cs8_ BK569) | ((with_reducible refine gf 101 rfl ?_); refine gL 32 Tryz.func101 #[.slice A0_5 l0_5.length c0_5, .slice A1_5 l1_5.length c1_5] ?_; (with_reducible refine (laws_eqIntS.calls k _ _ l0_5 _ _ l1_5 true _ (kc HR0_5 HB) HC0_5.out (kc HR1_5 HB) HC1_5.out A10.out).mono ?_); rintro e w' ⟨rfl, ⟨nd, rfl⟩⟩; refine ⟨_, rfl, ?_⟩) | ((with_reducible refine gf 102 rfl ?_); refine gL 38 Tryz.func102 #[.agg #[.slice A0_6 l0_6.length c0_6, .int .i64 a0_7], .agg #[.slice A1_6 l1_6.length c1_6, .int .i64 a1_7]] ?_; (with_reducible refine (laws_eqRows.calls k _ _ l0_6 a0_7 _ _ l1_6 a1_7 false _ ?side1 HC0_6.out ?side3 ?side4 A12.out).mono ?_); (case side1 => repeat (first | exact (Kd.C_below HR0_6.out (tb HB)) | (with_reducible refine Kd.C_alloc ?_ _) | (with_reducible refine Kd.C_drewN ?_ _) | (with_reducible refine Kd.C_drew ?_))); (case side3 => repeat (first | exact (Kd.C_below HR1_6.out (tb HB)) | (with_reducible refine Kd.C_alloc ?_ _) | (with_reducible refine Kd.C_drewN ?_ _) | (with_reducible refine Kd.C_drew ?_))); (case side4 => exact HC1_6.out); rintro e w43 ⟨rfl, hb⟩; refine ⟨_, rfl, ?_⟩; replace BK568 := bb BK568 hb; replace BK569 := bb BK569 hb; replace HB := bs HB hb; (try clear hb)))
 go_ret
 exact ⟨er, tb HB⟩
end Go.Proofs.YtopikhjcbcpiaaaGreat.Q
