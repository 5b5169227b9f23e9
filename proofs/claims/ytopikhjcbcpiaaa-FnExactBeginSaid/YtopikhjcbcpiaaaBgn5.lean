/- Part 5 of the steps by which the law is shown: what each function of the program, of the reference and of the law computes. No condition. -/
import Derived.Test.YtopikhjcbcpiaaaBgn0
import Derived.Test.YtopikhjcbcpiaaaBgn2
import Derived.Test.YtopikhjcbcpiaaaBgn3
namespace Go.Proofs.Ytopikhjcbcpiaaa.Q
open Go.RowKit Go.Proofs.YtopikhjcbcpiaaaW.PrintWords Go.Proofs.YtopikhjcbcpiaaaW.PrintLast Go.Proofs.YtopikhjcbcpiaaaW.PrintMore
attribute [local go_sem] max2_int min2_int max_two min_two max_three min_three max_four min_four   -- for this text's walks alone
set_option linter.unusedVariables false
set_option linter.unusedSimpArgs false
mutual
def spec_DescOk.j0 : Nat → Bool → Int → Int → List (S166) → Int → List Int → Option (Bool)
 | 0, _, _, _, _, _, _ => none
 | k + 1, x45, x1030000, x1030001, x1030002, x1030003, x1030004 => if x45 = true then (some false) else (spec_DescOk.l0 k 0 x1030000 x1030001 x1030002 x1030003 x1030004)
def spec_DescOk.l0 : Nat → Int → Int → Int → List (S166) → Int → List Int → Option (Bool)
 | 0, _, _, _, _, _, _ => none
 | k + 1, x3, x1030000, x1030001, x1030002, x1030003, x1030004 => if x3 < (x1030002.length : Int) then (if 0 ≤ x3 then ((spec_l1In.f ((rd_T166 x1030002 x3).f0) 0 19).bind fun t1034 => (if t1034 = true then ((spec_l1In.f ((rd_T166 x1030002 x3).f1) 0 1000).bind fun t1035 => (if t1035 = true then ((spec_l1In.f ((rd_T166 x1030002 x3).f2) 0 1000).bind fun t1036 => (if t1036 = true then (if x3 > 0 then (if 0 ≤ (wrap64 (x3 - 1)) then (if (wrap64 (x3 - 1)) < (x1030002.length : Int) then (if ((rd_T166 x1030002 (wrap64 (x3 - 1))).f0) ≥ ((rd_T166 x1030002 x3).f0) then (some false) else (spec_DescOk.l0 k (wrap64 (x3 + 1)) x1030000 x1030001 x1030002 x1030003 x1030004)) else (none)) else (none)) else (spec_DescOk.l0 k (wrap64 (x3 + 1)) x1030000 x1030001 x1030002 x1030003 x1030004)) else (some false))) else (some false))) else (some false))) else (none)) else (some true)
end
def spec_DescOk.f (k : Nat) (a0_0 : Int) (a0_1 : Int) (l0_2 : List (S166)) (a0_3 : Int) (l0_4 : List Int) : Option (Bool) := if a0_0 = 0 then (if a0_1 = 0 then (if (l0_2.length : Int) = 0 then (if a0_3 = 0 then (some ((l0_4.length : Int) == 0)) else (some false)) else (some false)) else (some false)) else ((spec_l1In.f a0_0 1 1000000).bind fun t1030 => (if t1030 = true then ((spec_l1In.f a0_1 1 3).bind fun t1031 => (if t1031 = true then (spec_DescOk.j0 k (decide ((l0_2.length : Int) > 20)) a0_0 a0_1 l0_2 a0_3 l0_4) else (spec_DescOk.j0 k true a0_0 a0_1 l0_2 a0_3 l0_4))) else (spec_DescOk.j0 k true a0_0 a0_1 l0_2 a0_3 l0_4)))
def spec_DescOk.T9 : Bool × List (List Nat × List Nat) := (true, [([], []), ([0], [0]), ([1], [1]), ([2], [2]), ([3, 2], [3]), ([4], [4]), ([5, 4], [4, 5]), ([6, 4, 4], [4, 6]), ([7, 4], [4, 7]), ([4, 8], [4, 8]), ([9, 7], [9]), ([10], [10]), ([11, 10], [10, 11]), ([12, 10, 10], [10, 12]), ([13, 10], [10, 13]), ([10, 14], [10, 14]), ([15, 13], [15]), ([16], [16]), ([17, 16], [16, 17]), ([18, 16, 16], [16, 18]), ([19], [19]), ([20, 19], [19, 20]), ([19], [19]), ([22, 19], [19, 22]), ([21, 23, 19], [19, 21, 23]), ([24, 19], [19, 24]), ([25, 19], [19, 25]), ([19], [19]), ([27, 19], [19, 27]), ([26, 28, 19], [19, 26, 28]), ([19, 29, 16], [16, 19, 29]), ([16, 30], [16, 30])])
def spec_DescOk.B9 : List Nat := [0, 1, 3, 7, 15, 31, 63, 127, 255, 511, 1023, 2047, 4095, 8191, 16383, 32767, 65535, 131071, 262143, 524287, 1048575, 2097151, 1048575, 5242879, 16777215, 33554431, 67108863, 1048575, 135266303, 536870911, 1073741823, 2147483647]
theorem spec_DescOk.tab9 : rtab .any (opsOf Try.f173 9) = spec_DescOk.T9 := by kernel_rfl
theorem spec_DescOk.bits9 : waitsOk spec_DescOk.T9.2 spec_DescOk.B9 = true := by kernel_rfl
set_option maxHeartbeats 8000000 in
set_option maxRecDepth 100000 in
theorem spec_DescOk.calls (k : Nat) (a0_0 : Int) (a0_1 : Int) (A0_2 : Option Addr) (c0_2 : Nat) (l0_2 : List (S166)) (a0_3 : Int) (A0_4 : Option Addr) (c0_4 : Nat) (l0_4 : List Int) (r : Bool) (w : World) (hr0_2 : Kd.C k166 w A0_2 l0_2.length l0_2) (hc0_2 : l0_2.length ≤ c0_2) (hr0_4 : Kd.C (Kd.int .i64) w A0_4 l0_4.length l0_4) (hc0_4 : l0_4.length ≤ c0_4) (h : spec_DescOk.f k a0_0 a0_1 l0_2 a0_3 l0_4 = some r) :
  Calls Try.prog 173 #[.agg #[.int .i64 a0_0, .int .i64 a0_1, .slice A0_2 l0_2.length c0_2, .int .i64 a0_3, .slice A0_4 l0_4.length c0_4]] w fun e w' => e = .returned (.bool r) ∧ Below w.heap.size w w' := by
 have hu145 := Try.underlying145
 have hu166 := Try.underlying166
 have HR0_2 := Aside0.mk hr0_2
 have HC0_2 := Aside0.mk hc0_2
 clear hr0_2 hc0_2
 have HR0_4 := Aside0.mk hr0_4
 have HC0_4 := Aside0.mk hc0_4
 clear hr0_4 hc0_4
 have HB := Aside0.mk (Below.refl w.heap.size w)
 have H := h
 clear h
 unfold spec_DescOk.f at H
 by_cases c2 : a0_0 = 0
 case pos =>
  rw [if_pos c2] at H
  have c2b0 : (a0_0 == 0) = true := beq_iff_eq.mpr c2
  have c2b1 : (a0_0 != 0) = false := bne_eq_false_iff_eq.mpr c2
  clear c2
  by_cases c3 : a0_1 = 0
  case neg =>
   rw [if_neg c3] at H
   have c3b0 : (a0_1 == 0) = false := beq_eq_false_iff_ne.mpr c3
   have c3b1 : (a0_1 != 0) = true := bne_iff_ne.mpr c3
   obtain rfl := oin H
   go_enter Try.func173, Try.ntmps173
   go_wp2_with (first | ((with_reducible refine gq 1 rfl ?_); (try (refine gate_guard (by rfl) ?_; dsimp only)); refine bx0 HB (N := 1) (t := 145) ?_; clear HB; intro gb1029 w12 BK1029 GE1029 HB; have hz13 := cs5_ BK1029))
   go_ret
   exact ⟨er, tb HB⟩
  rw [if_pos c3] at H
  have c3b0 : (a0_1 == 0) = true := beq_iff_eq.mpr c3
  have c3b1 : (a0_1 != 0) = false := bne_eq_false_iff_eq.mpr c3
  clear c3
  by_cases c4 : (l0_2.length : Int) = 0
  case neg =>
   rw [if_neg c4] at H
   have c4b0 : ((l0_2.length : Int) == 0) = false := beq_eq_false_iff_ne.mpr c4
   have c4b1 : ((l0_2.length : Int) != 0) = true := bne_iff_ne.mpr c4
   have c4b2 : ¬ (l0_2 = []) := fun h_ => c4 (by rw [h_]; rfl)
   obtain rfl := oin H
   go_enter Try.func173, Try.ntmps173
   go_wp2_with (first | ((with_reducible refine gq 1 rfl ?_); (try (refine gate_guard (by rfl) ?_; dsimp only)); refine bx0 HB (N := 1) (t := 145) ?_; clear HB; intro gb1029 w10 BK1029 GE1029 HB; have hz11 := cs5_ BK1029))
   go_ret
   exact ⟨er, tb HB⟩
  rw [if_pos c4] at H
  have c4b0 : ((l0_2.length : Int) == 0) = true := beq_iff_eq.mpr c4
  have c4b1 : ((l0_2.length : Int) != 0) = false := bne_eq_false_iff_eq.mpr c4
  clear c4
  by_cases c5 : a0_3 = 0
  case neg =>
   rw [if_neg c5] at H
   have c5b0 : (a0_3 == 0) = false := beq_eq_false_iff_ne.mpr c5
   have c5b1 : (a0_3 != 0) = true := bne_iff_ne.mpr c5
   obtain rfl := oin H
   go_enter Try.func173, Try.ntmps173
   go_wp2_with (first | ((with_reducible refine gq 1 rfl ?_); (try (refine gate_guard (by rfl) ?_; dsimp only)); refine bx0 HB (N := 1) (t := 145) ?_; clear HB; intro gb1029 w8 BK1029 GE1029 HB; have hz9 := cs5_ BK1029))
   go_ret
   exact ⟨er, tb HB⟩
  rw [if_pos c5] at H
  have c5b0 : (a0_3 == 0) = true := beq_iff_eq.mpr c5
  have c5b1 : (a0_3 != 0) = false := bne_eq_false_iff_eq.mpr c5
  clear c5
  obtain rfl := oin H
  go_enter Try.func173, Try.ntmps173
  go_wp2_with (first | ((with_reducible refine gq 1 rfl ?_); (try (refine gate_guard (by rfl) ?_; dsimp only)); refine bx0 HB (N := 1) (t := 145) ?_; clear HB; intro gb1029 w6 BK1029 GE1029 HB; have hz7 := cs5_ BK1029))
  go_ret
  exact ⟨er, tb HB⟩
 rw [if_neg c2] at H
 have c2b0 : (a0_0 == 0) = false := beq_eq_false_iff_ne.mpr c2
 have c2b1 : (a0_0 != 0) = true := bne_iff_ne.mpr c2
 have HC14 := Aside0.mk H
 clear H
 go_enter Try.func173, Try.ntmps173
 go_upto_region 3 with (first | ((with_reducible refine gq 1 rfl ?_); (try (refine gate_guard (by rfl) ?_; dsimp only)); refine bx0 HB (N := 1) (t := 145) ?_; clear HB; intro gb1029 w15 BK1029 GE1029 HB; have hz16 := cs5_ BK1029))
 (try simp only [Act.put, sA, sB, sC])
 go_cut [45] (fun v45 wc => ∃ (kq : Nat) (x45_13 : Bool), v45 = .bool x45_13 ∧ Aside0 (spec_DescOk.j0 kq x45_13 a0_0 a0_1 l0_2 a0_3 l0_4 = some r) ∧ Aside0 (kq ≤ k) ∧ Aside0 (wc.heap[gb1029]? = some (.cells #[.int .i64 a0_0, .int .i64 a0_1, (.slice A0_2 l0_2.length c0_2), .int .i64 a0_3, (.slice A0_4 l0_4.length c0_4)] 145 (0, 0))) ∧ Aside0 (Below w.heap.size w wc))
 case first =>
  have H := HC14.out
  clear HC14
  obtain ⟨t1030, A17, H⟩ := bn H
  try dsimp only at H
  cases t1030
  case false =>
   replace H := ipf H
   have H' := Aside0.mk H
   clear H
   have hz23 := cs5_ BK1029
   go_wp2_with (first | ((with_reducible refine gf 79 rfl ?_); refine gL 32 Try.func79 #[.int .i64 a0_0, .int .i64 1, .int .i64 1000000] ?_; (with_reducible refine (spec_l1In.calls a0_0 1 1000000 false _ A17.out).mono ?_); rintro e w' ⟨rfl, ⟨nd, rfl⟩⟩; refine ⟨_, rfl, ?_⟩))
   go_meet
   case rel => exact ⟨_, (true), rsd, H', ⟨by first | omega | exact Nat.le_refl _⟩, ⟨by (with_reducible repeat (first | refine blk_drewN ?_ _ | refine blk_drew ?_ | refine blk_alloc ?_ _)); exact BK1029.out⟩, ⟨tb HB⟩⟩
  replace H := ipt H
  obtain ⟨t1031, A19, H⟩ := bn H
  try dsimp only at H
  cases t1031
  case true =>
   replace H := ipt H
   have H' := Aside0.mk H
   clear H
   have hz21 := cs5_ BK1029
   go_wp2_with (first | ((with_reducible refine gf 79 rfl ?_); refine gL 32 Try.func79 #[.int .i64 a0_0, .int .i64 1, .int .i64 1000000] ?_; (with_reducible refine (spec_l1In.calls a0_0 1 1000000 true _ A17.out).mono ?_); rintro e w' ⟨rfl, ⟨nd, rfl⟩⟩; refine ⟨_, rfl, ?_⟩) | (go_at_call 79; (with_reducible refine (spec_l1In.calls a0_1 1 3 true _ A19.out).mono ?_); rintro e w' ⟨rfl, ⟨nd, rfl⟩⟩))
   go_meet
   case rel => exact ⟨_, (decide ((l0_2.length : Int) > 20)), rsd, H', ⟨by first | omega | exact Nat.le_refl _⟩, ⟨by (with_reducible repeat (first | refine blk_drewN ?_ _ | refine blk_drew ?_ | refine blk_alloc ?_ _)); exact BK1029.out⟩, ⟨tb HB⟩⟩
  replace H := ipf H
  have H' := Aside0.mk H
  clear H
  have hz22 := cs5_ BK1029
  go_wp2_with (first | ((with_reducible refine gf 79 rfl ?_); refine gL 32 Try.func79 #[.int .i64 a0_0, .int .i64 1, .int .i64 1000000] ?_; (with_reducible refine (spec_l1In.calls a0_0 1 1000000 true _ A17.out).mono ?_); rintro e w' ⟨rfl, ⟨nd, rfl⟩⟩; refine ⟨_, rfl, ?_⟩) | (go_at_call 79; (with_reducible refine (spec_l1In.calls a0_1 1 3 false _ A19.out).mono ?_); rintro e w' ⟨rfl, ⟨nd, rfl⟩⟩))
  go_meet
  case rel => exact ⟨_, (true), rsd, H', ⟨by first | omega | exact Nat.le_refl _⟩, ⟨by (with_reducible repeat (first | refine blk_drewN ?_ _ | refine blk_drew ?_ | refine blk_alloc ?_ _)); exact BK1029.out⟩, ⟨tb HB⟩⟩
 case rest =>
  clear HC14
  obtain ⟨kq, x45_13, rfl, HA, HJ13, BK1029, HB⟩ := hcut
  cases kq with
  | zero => exact absurd HA.out (by simp [spec_DescOk.j0])
  | succ kj13 =>
   have H := HA.out
   clear HA
   simp only [spec_DescOk.j0] at H
   cases x45_13
   case true =>
    replace H := ipt H
    obtain rfl := oin H
    go_wp2
    go_ret
    exact ⟨er, tb HB⟩
   replace H := ipf H
   have H' := Aside0.mk H
   clear H
   go_wp2
   go_loopg [3] kj13 (fun kq v3 w' => ∃ (x3_2 : Int), v3 = .int .i64 x3_2 ∧ Aside0 (spec_DescOk.l0 kq x3_2 a0_0 a0_1 l0_2 a0_3 l0_4 = some r) ∧ Aside0 (kq ≤ kj13) ∧ Aside0 (w'.heap[gb1029]? = some (.cells #[.int .i64 a0_0, .int .i64 a0_1, (.slice A0_2 l0_2.length c0_2), .int .i64 a0_3, (.slice A0_4 l0_4.length c0_4)] 145 (0, 0))) ∧ Aside0 (Below w.heap.size w w'))
   case atStart => exact ⟨(0), rsd, H', ⟨Nat.le_refl _⟩, ⟨by (with_reducible repeat (first | refine blk_drewN ?_ _ | refine blk_drew ?_ | refine blk_alloc ?_ _)); exact BK1029.out⟩, ⟨tb HB⟩⟩
   case round =>
    clear H'
    obtain ⟨x3_2, rfl, HA, HK2, BK1029, HB⟩ := hrel
    cases gk with
    | zero => exact absurd HA.out (by simp [spec_DescOk.l0])
    | succ k2 =>
     have H := HA.out
     clear HA
     simp only [spec_DescOk.l0] at H
     revert H; refine icd (fun c25b0 H => ?_) fun c25b0 H => ?neg
     case neg =>
      obtain rfl := oin H
      have hz74 := cs5_ BK1029
      go_wp2
      go_ret
      exact ⟨er, tb HB⟩
     obtain ⟨c26b0, H⟩ := itd H
     obtain ⟨t1034, A27, H⟩ := bn H
     try dsimp only at H
     cases t1034
     case false =>
      replace H := ipf H
      obtain rfl := oin H
      have hz68 := cs5_ BK1029
      have p1032 : 0 ≤ (x3_2 : Int) := od
      have q1032 : x3_2 < (l0_2.length : Int) := od
      obtain ⟨ad1032, e1032, hx1032⟩ := att166 HR0_2.out x3_2 p1032 q1032
      cases e1032
      replace hx1032 := ox3 HB hx1032
      replace p1032 := eq_true p1032
      replace q1032 := eq_true q1032
      try go_wp2_with (first | ((with_reducible refine gq 4 rfl ?_); (try (refine gate_guard (by rfl) ?_; dsimp only)); refine bx1 HB BK1029 (N := 4) (cs := #[.int .i64 0, .int .i64 0, .int .i64 0]) (t := 166) ?_; clear HB BK1029; intro gb1033 w69 BK1033 GE1033 HB NB1029_1033 NB1033_1029 BK1029; have hnb70 := NB1033_1029.out; have hnc70 := NB1029_1033.out; have hz71 := cs3_ BK1033))
      have n0_ : Aside0 ((((w69.setCell ⟨gb1033, 0, none⟩ (.int .i64 ((rd_T166 l0_2 x3_2).f0))).setCell ⟨gb1033, 1, none⟩ (.int .i64 ((rd_T166 l0_2 x3_2).f1))).setCell ⟨gb1033, 2, none⟩ (.int .i64 ((rd_T166 l0_2 x3_2).f2))).heap[gb1029]? = some (.cells #[.int .i64 a0_0, .int .i64 a0_1, .slice (some ad1032) l0_2.length c0_2, .int .i64 a0_3, .slice A0_4 l0_4.length c0_4] 145 (0, 0))) := ⟨bf BK1029⟩
      have n1_ : Aside0 ((((w69.setCell ⟨gb1033, 0, none⟩ (.int .i64 ((rd_T166 l0_2 x3_2).f0))).setCell ⟨gb1033, 1, none⟩ (.int .i64 ((rd_T166 l0_2 x3_2).f1))).setCell ⟨gb1033, 2, none⟩ (.int .i64 ((rd_T166 l0_2 x3_2).f2))).heap[gb1033]? = some (.cells #[.int .i64 ((rd_T166 l0_2 x3_2).f0), .int .i64 ((rd_T166 l0_2 x3_2).f1), .int .i64 ((rd_T166 l0_2 x3_2).f2)] 166 (0, 0))) := ⟨bfp3 BK1033⟩
      have n2_ : Aside0 (Below w.heap.size w (((w69.setCell ⟨gb1033, 0, none⟩ (.int .i64 ((rd_T166 l0_2 x3_2).f0))).setCell ⟨gb1033, 1, none⟩ (.int .i64 ((rd_T166 l0_2 x3_2).f1))).setCell ⟨gb1033, 2, none⟩ (.int .i64 ((rd_T166 l0_2 x3_2).f2)))) := ⟨tb HB⟩
      (try clear BK1029)
      (try clear BK1033)
      (try clear HB)
      generalize (((w69.setCell ⟨gb1033, 0, none⟩ (.int .i64 ((rd_T166 l0_2 x3_2).f0))).setCell ⟨gb1033, 1, none⟩ (.int .i64 ((rd_T166 l0_2 x3_2).f1))).setCell ⟨gb1033, 2, none⟩ (.int .i64 ((rd_T166 l0_2 x3_2).f2))) = w72 at n0_ n1_ n2_ ⊢
      have BK1029 := n0_
      have BK1033 := n1_
      have HB := n2_
      clear n0_ n1_ n2_
      replace BK1029 := bd BK1029
      replace BK1033 := bd BK1033
      replace HB := Aside0.mk (below_drew1 HB.out)
      refine start_ (n := 32) (S := fun w' => cS3 gb1033 (.int .i64 ((rd_T166 l0_2 x3_2).f0)) (.int .i64 ((rd_T166 l0_2 x3_2).f1)) (.int .i64 ((rd_T166 l0_2 x3_2).f2)) w') (ds := []) #[false, false, false, false, false, false, false, false, false, false, false, false, false, false, false, false, false, false, false, false, false, false, false, false, false, false, false, false, false, false, false, false] (by kernel_rfl) rfl rfl (ds3_ BK1033) (fun hHeld => ?_); refine with_tabW spec_DescOk.tab9 spec_DescOk.bits9 (fun HT_ HW_ => ?_)
      generalize w72.drew = w73 at BK1029 BK1033 HB hHeld ⊢
      refine pu 0 58 ?_; refine ta 1 59 ?_
      refine on1 2 (some 60) (fun K hK => ?_)
      refine gS Try.func79 #[.int .i64 ((rd_T166 l0_2 x3_2).f0), .int .i64 0, .int .i64 19] ?_
      with_reducible refine (spec_l1In.calls ((rd_T166 l0_2 x3_2).f0) 0 19 false _ A27.out).mono ?_
      rintro e w' ⟨rfl, ⟨nd, rfl⟩⟩
      refine ⟨_, rfl, ?_⟩
      refine hK.out _ _ (ds3_ BK1033) (fun hHeld => ?_)
      clear hK K
      refine nm 60 ?_
      refine pu 3 61 ?_; refine pu 4 62 ?_; refine pn 5 63 ?_; refine pn 6 64 ?_; refine pn 7 65 ?_; refine pn 8 66 ?_; refine pu 9 67 ?_; refine pu 10 68 ?_; refine pn 11 69 ?_; refine pn 12 70 ?_; refine pn 13 71 ?_; refine pn 14 72 ?_
      refine pu 15 73 ?_; refine pu 16 74 ?_; refine pn 17 75 ?_; refine pn 18 76 ?_; refine pn 19 77 ?_; refine pn 20 78 ?_; refine pn 21 79 ?_; refine pn 22 80 ?_; refine pn 23 81 ?_; refine pn 24 82 ?_; refine pn 25 83 ?_; refine pn 26 84 ?_
      refine pn 27 85 ?_; refine pn 28 86 ?_; refine pn 29 87 ?_; refine pn 30 88 ?_; refine pu 31 89 ?_
      refine done_ (done_of HT_.out (by kernel_rfl)) ?_
      try go_wp2
      go_ret
      exact ⟨er, tb HB⟩
     replace H := ipt H
     obtain ⟨t1035, A29, H⟩ := bn H
     try dsimp only at H
     cases t1035
     case false =>
      replace H := ipf H
      obtain rfl := oin H
      have hz62 := cs5_ BK1029
      have p1032 : 0 ≤ (x3_2 : Int) := od
      have q1032 : x3_2 < (l0_2.length : Int) := od
      obtain ⟨ad1032, e1032, hx1032_0, hx1032_1, hx1032_2⟩ := at_T166 HR0_2.out x3_2 p1032 q1032
      cases e1032
      replace hx1032_0 := ox HB hx1032_0
      replace hx1032_1 := ox HB hx1032_1
      replace hx1032_2 := ox HB hx1032_2
      replace p1032 := eq_true p1032
      replace q1032 := eq_true q1032
      try go_wp2_with (first | ((with_reducible refine gq 4 rfl ?_); (try (refine gate_guard (by rfl) ?_; dsimp only)); refine bx1 HB BK1029 (N := 4) (cs := #[.int .i64 0, .int .i64 0, .int .i64 0]) (t := 166) ?_; clear HB BK1029; intro gb1033 w63 BK1033 GE1033 HB NB1029_1033 NB1033_1029 BK1029; have hnb64 := NB1033_1029.out; have hnc64 := NB1029_1033.out; have hz65 := cs3_ BK1033))
      have n0_ : Aside0 ((((w63.setCell ⟨gb1033, 0, none⟩ (.int .i64 ((rd_T166 l0_2 x3_2).f0))).setCell ⟨gb1033, 1, none⟩ (.int .i64 ((rd_T166 l0_2 x3_2).f1))).setCell ⟨gb1033, 2, none⟩ (.int .i64 ((rd_T166 l0_2 x3_2).f2))).heap[gb1029]? = some (.cells #[.int .i64 a0_0, .int .i64 a0_1, .slice (some ad1032) l0_2.length c0_2, .int .i64 a0_3, .slice A0_4 l0_4.length c0_4] 145 (0, 0))) := ⟨bf BK1029⟩
      have n1_ : Aside0 ((((w63.setCell ⟨gb1033, 0, none⟩ (.int .i64 ((rd_T166 l0_2 x3_2).f0))).setCell ⟨gb1033, 1, none⟩ (.int .i64 ((rd_T166 l0_2 x3_2).f1))).setCell ⟨gb1033, 2, none⟩ (.int .i64 ((rd_T166 l0_2 x3_2).f2))).heap[gb1033]? = some (.cells #[.int .i64 ((rd_T166 l0_2 x3_2).f0), .int .i64 ((rd_T166 l0_2 x3_2).f1), .int .i64 ((rd_T166 l0_2 x3_2).f2)] 166 (0, 0))) := ⟨bfp3 BK1033⟩
      have n2_ : Aside0 (Below w.heap.size w (((w63.setCell ⟨gb1033, 0, none⟩ (.int .i64 ((rd_T166 l0_2 x3_2).f0))).setCell ⟨gb1033, 1, none⟩ (.int .i64 ((rd_T166 l0_2 x3_2).f1))).setCell ⟨gb1033, 2, none⟩ (.int .i64 ((rd_T166 l0_2 x3_2).f2)))) := ⟨tb HB⟩
      (try clear BK1029)
      (try clear BK1033)
      (try clear HB)
      generalize (((w63.setCell ⟨gb1033, 0, none⟩ (.int .i64 ((rd_T166 l0_2 x3_2).f0))).setCell ⟨gb1033, 1, none⟩ (.int .i64 ((rd_T166 l0_2 x3_2).f1))).setCell ⟨gb1033, 2, none⟩ (.int .i64 ((rd_T166 l0_2 x3_2).f2))) = w66 at n0_ n1_ n2_ ⊢
      have BK1029 := n0_
      have BK1033 := n1_
      have HB := n2_
      clear n0_ n1_ n2_
      replace BK1029 := bd BK1029
      replace BK1033 := bd BK1033
      replace HB := Aside0.mk (below_drew1 HB.out)
      refine start_ (n := 32) (S := fun w' => cS3 gb1033 (.int .i64 ((rd_T166 l0_2 x3_2).f0)) (.int .i64 ((rd_T166 l0_2 x3_2).f1)) (.int .i64 ((rd_T166 l0_2 x3_2).f2)) w') (ds := []) #[false, false, false, false, false, false, false, false, false, false, false, false, false, false, false, false, false, false, false, false, false, false, false, false, false, false, false, false, false, false, false, false] (by kernel_rfl) rfl rfl (ds3_ BK1033) (fun hHeld => ?_); refine with_tabW spec_DescOk.tab9 spec_DescOk.bits9 (fun HT_ HW_ => ?_)
      generalize w66.drew = w67 at BK1029 BK1033 HB hHeld ⊢
      refine pu 0 58 ?_; refine ta 1 59 ?_
      refine on1 2 (some 60) (fun K hK => ?_)
      refine gS Try.func79 #[.int .i64 ((rd_T166 l0_2 x3_2).f0), .int .i64 0, .int .i64 19] ?_
      with_reducible refine (spec_l1In.calls ((rd_T166 l0_2 x3_2).f0) 0 19 true _ A27.out).mono ?_
      rintro e w' ⟨rfl, ⟨nd, rfl⟩⟩
      refine ⟨_, rfl, ?_⟩
      refine hK.out _ _ (ds3_ BK1033) (fun hHeld => ?_)
      clear hK K
      refine nm 60 ?_
      refine pu 3 61 ?_; refine pu 4 62 ?_; refine pu 5 63 ?_; refine ta 6 64 ?_
      refine on1 7 (some 65) (fun K hK => ?_)
      refine gS Try.func79 #[.int .i64 ((rd_T166 l0_2 x3_2).f1), .int .i64 0, .int .i64 1000] ?_
      with_reducible refine (spec_l1In.calls ((rd_T166 l0_2 x3_2).f1) 0 1000 false _ A29.out).mono ?_
      rintro e w' ⟨rfl, ⟨nd, rfl⟩⟩
      refine ⟨_, rfl, ?_⟩
      refine hK.out _ _ (ds3_ BK1033) (fun hHeld => ?_)
      clear hK K
      refine nm 65 ?_
      refine pu 8 66 ?_; refine pu 9 67 ?_; refine pu 10 68 ?_; refine pn 11 69 ?_; refine pn 12 70 ?_; refine pn 13 71 ?_; refine pn 14 72 ?_; refine pu 15 73 ?_; refine pu 16 74 ?_; refine pn 17 75 ?_; refine pn 18 76 ?_; refine pn 19 77 ?_
      refine pn 20 78 ?_; refine pn 21 79 ?_; refine pn 22 80 ?_; refine pn 23 81 ?_; refine pn 24 82 ?_; refine pn 25 83 ?_; refine pn 26 84 ?_; refine pn 27 85 ?_; refine pn 28 86 ?_; refine pn 29 87 ?_; refine pn 30 88 ?_; refine pu 31 89 ?_
      refine done_ (done_of HT_.out (by kernel_rfl)) ?_
      try go_wp2
      go_ret
      exact ⟨er, tb HB⟩
     replace H := ipt H
     obtain ⟨t1036, A31, H⟩ := bn H
     try dsimp only at H
     cases t1036
     case false =>
      replace H := ipf H
      obtain rfl := oin H
      have hz56 := cs5_ BK1029
      have p1032 : 0 ≤ (x3_2 : Int) := od
      have q1032 : x3_2 < (l0_2.length : Int) := od
      obtain ⟨ad1032, e1032, hx1032_0, hx1032_1, hx1032_2⟩ := at_T166 HR0_2.out x3_2 p1032 q1032
      cases e1032
      replace hx1032_0 := ox HB hx1032_0
      replace hx1032_1 := ox HB hx1032_1
      replace hx1032_2 := ox HB hx1032_2
      replace p1032 := eq_true p1032
      replace q1032 := eq_true q1032
      try go_wp2_with (first | ((with_reducible refine gq 4 rfl ?_); (try (refine gate_guard (by rfl) ?_; dsimp only)); refine bx1 HB BK1029 (N := 4) (cs := #[.int .i64 0, .int .i64 0, .int .i64 0]) (t := 166) ?_; clear HB BK1029; intro gb1033 w57 BK1033 GE1033 HB NB1029_1033 NB1033_1029 BK1029; have hnb58 := NB1033_1029.out; have hnc58 := NB1029_1033.out; have hz59 := cs3_ BK1033))
      have n0_ : Aside0 ((((w57.setCell ⟨gb1033, 0, none⟩ (.int .i64 ((rd_T166 l0_2 x3_2).f0))).setCell ⟨gb1033, 1, none⟩ (.int .i64 ((rd_T166 l0_2 x3_2).f1))).setCell ⟨gb1033, 2, none⟩ (.int .i64 ((rd_T166 l0_2 x3_2).f2))).heap[gb1029]? = some (.cells #[.int .i64 a0_0, .int .i64 a0_1, .slice (some ad1032) l0_2.length c0_2, .int .i64 a0_3, .slice A0_4 l0_4.length c0_4] 145 (0, 0))) := ⟨bf BK1029⟩
      have n1_ : Aside0 ((((w57.setCell ⟨gb1033, 0, none⟩ (.int .i64 ((rd_T166 l0_2 x3_2).f0))).setCell ⟨gb1033, 1, none⟩ (.int .i64 ((rd_T166 l0_2 x3_2).f1))).setCell ⟨gb1033, 2, none⟩ (.int .i64 ((rd_T166 l0_2 x3_2).f2))).heap[gb1033]? = some (.cells #[.int .i64 ((rd_T166 l0_2 x3_2).f0), .int .i64 ((rd_T166 l0_2 x3_2).f1), .int .i64 ((rd_T166 l0_2 x3_2).f2)] 166 (0, 0))) := ⟨bfp3 BK1033⟩
      have n2_ : Aside0 (Below w.heap.size w (((w57.setCell ⟨gb1033, 0, none⟩ (.int .i64 ((rd_T166 l0_2 x3_2).f0))).setCell ⟨gb1033, 1, none⟩ (.int .i64 ((rd_T166 l0_2 x3_2).f1))).setCell ⟨gb1033, 2, none⟩ (.int .i64 ((rd_T166 l0_2 x3_2).f2)))) := ⟨tb HB⟩
      (try clear BK1029)
      (try clear BK1033)
      (try clear HB)
      generalize (((w57.setCell ⟨gb1033, 0, none⟩ (.int .i64 ((rd_T166 l0_2 x3_2).f0))).setCell ⟨gb1033, 1, none⟩ (.int .i64 ((rd_T166 l0_2 x3_2).f1))).setCell ⟨gb1033, 2, none⟩ (.int .i64 ((rd_T166 l0_2 x3_2).f2))) = w60 at n0_ n1_ n2_ ⊢
      have BK1029 := n0_
      have BK1033 := n1_
      have HB := n2_
      clear n0_ n1_ n2_
      replace BK1029 := bd BK1029
      replace BK1033 := bd BK1033
      replace HB := Aside0.mk (below_drew1 HB.out)
      refine start_ (n := 32) (S := fun w' => cS3 gb1033 (.int .i64 ((rd_T166 l0_2 x3_2).f0)) (.int .i64 ((rd_T166 l0_2 x3_2).f1)) (.int .i64 ((rd_T166 l0_2 x3_2).f2)) w') (ds := []) #[false, false, false, false, false, false, false, false, false, false, false, false, false, false, false, false, false, false, false, false, false, false, false, false, false, false, false, false, false, false, false, false] (by kernel_rfl) rfl rfl (ds3_ BK1033) (fun hHeld => ?_); refine with_tabW spec_DescOk.tab9 spec_DescOk.bits9 (fun HT_ HW_ => ?_)
      generalize w60.drew = w61 at BK1029 BK1033 HB hHeld ⊢
      refine pu 0 58 ?_; refine ta 1 59 ?_
      refine on1 2 (some 60) (fun K hK => ?_)
      refine gS Try.func79 #[.int .i64 ((rd_T166 l0_2 x3_2).f0), .int .i64 0, .int .i64 19] ?_
      with_reducible refine (spec_l1In.calls ((rd_T166 l0_2 x3_2).f0) 0 19 true _ A27.out).mono ?_
      rintro e w' ⟨rfl, ⟨nd, rfl⟩⟩
      refine ⟨_, rfl, ?_⟩
      refine hK.out _ _ (ds3_ BK1033) (fun hHeld => ?_)
      clear hK K
      refine nm 60 ?_
      refine pu 3 61 ?_; refine pu 4 62 ?_; refine pu 5 63 ?_; refine ta 6 64 ?_
      refine on1 7 (some 65) (fun K hK => ?_)
      refine gS Try.func79 #[.int .i64 ((rd_T166 l0_2 x3_2).f1), .int .i64 0, .int .i64 1000] ?_
      with_reducible refine (spec_l1In.calls ((rd_T166 l0_2 x3_2).f1) 0 1000 true _ A29.out).mono ?_
      rintro e w' ⟨rfl, ⟨nd, rfl⟩⟩
      refine ⟨_, rfl, ?_⟩
      refine hK.out _ _ (ds3_ BK1033) (fun hHeld => ?_)
      clear hK K
      refine nm 65 ?_
      refine pu 8 66 ?_; refine pu 9 67 ?_; refine pu 10 68 ?_; refine pu 11 69 ?_; refine ta 12 70 ?_
      refine on1 13 (some 71) (fun K hK => ?_)
      refine gS Try.func79 #[.int .i64 ((rd_T166 l0_2 x3_2).f2), .int .i64 0, .int .i64 1000] ?_
      with_reducible refine (spec_l1In.calls ((rd_T166 l0_2 x3_2).f2) 0 1000 false _ A31.out).mono ?_
      rintro e w' ⟨rfl, ⟨nd, rfl⟩⟩
      refine ⟨_, rfl, ?_⟩
      refine hK.out _ _ (ds3_ BK1033) (fun hHeld => ?_)
      clear hK K
      refine nm 71 ?_
      refine pu 14 72 ?_; refine pu 15 73 ?_; refine pu 16 74 ?_; refine pn 17 75 ?_; refine pn 18 76 ?_; refine pn 19 77 ?_; refine pn 20 78 ?_; refine pn 21 79 ?_; refine pn 22 80 ?_; refine pn 23 81 ?_; refine pn 24 82 ?_; refine pn 25 83 ?_
      refine pn 26 84 ?_; refine pn 27 85 ?_; refine pn 28 86 ?_; refine pn 29 87 ?_; refine pn 30 88 ?_; refine pu 31 89 ?_
      refine done_ (done_of HT_.out (by kernel_rfl)) ?_
      try go_wp2
      go_ret
      exact ⟨er, tb HB⟩
     replace H := ipt H
     revert H; refine icd (fun c33b0 H => ?_) fun c33b0 H => ?neg
     case neg =>
      have H' := Aside0.mk H
      clear H
      have hz50 := cs5_ BK1029
      have p1032 : 0 ≤ (x3_2 : Int) := od
      have q1032 : x3_2 < (l0_2.length : Int) := od
      obtain ⟨ad1032, e1032, hx1032_0, hx1032_1, hx1032_2⟩ := at_T166 HR0_2.out x3_2 p1032 q1032
      cases e1032
      replace hx1032_0 := ox HB hx1032_0
      replace hx1032_1 := ox HB hx1032_1
      replace hx1032_2 := ox HB hx1032_2
      replace p1032 := eq_true p1032
      replace q1032 := eq_true q1032
      try go_wp2_with (first | ((with_reducible refine gq 4 rfl ?_); (try (refine gate_guard (by rfl) ?_; dsimp only)); refine bx1 HB BK1029 (N := 4) (cs := #[.int .i64 0, .int .i64 0, .int .i64 0]) (t := 166) ?_; clear HB BK1029; intro gb1033 w51 BK1033 GE1033 HB NB1029_1033 NB1033_1029 BK1029; have hnb52 := NB1033_1029.out; have hnc52 := NB1029_1033.out; have hz53 := cs3_ BK1033))
      have n0_ : Aside0 ((((w51.setCell ⟨gb1033, 0, none⟩ (.int .i64 ((rd_T166 l0_2 x3_2).f0))).setCell ⟨gb1033, 1, none⟩ (.int .i64 ((rd_T166 l0_2 x3_2).f1))).setCell ⟨gb1033, 2, none⟩ (.int .i64 ((rd_T166 l0_2 x3_2).f2))).heap[gb1029]? = some (.cells #[.int .i64 a0_0, .int .i64 a0_1, .slice (some ad1032) l0_2.length c0_2, .int .i64 a0_3, .slice A0_4 l0_4.length c0_4] 145 (0, 0))) := ⟨bf BK1029⟩
      have n1_ : Aside0 ((((w51.setCell ⟨gb1033, 0, none⟩ (.int .i64 ((rd_T166 l0_2 x3_2).f0))).setCell ⟨gb1033, 1, none⟩ (.int .i64 ((rd_T166 l0_2 x3_2).f1))).setCell ⟨gb1033, 2, none⟩ (.int .i64 ((rd_T166 l0_2 x3_2).f2))).heap[gb1033]? = some (.cells #[.int .i64 ((rd_T166 l0_2 x3_2).f0), .int .i64 ((rd_T166 l0_2 x3_2).f1), .int .i64 ((rd_T166 l0_2 x3_2).f2)] 166 (0, 0))) := ⟨bfp3 BK1033⟩
      have n2_ : Aside0 (Below w.heap.size w (((w51.setCell ⟨gb1033, 0, none⟩ (.int .i64 ((rd_T166 l0_2 x3_2).f0))).setCell ⟨gb1033, 1, none⟩ (.int .i64 ((rd_T166 l0_2 x3_2).f1))).setCell ⟨gb1033, 2, none⟩ (.int .i64 ((rd_T166 l0_2 x3_2).f2)))) := ⟨tb HB⟩
      (try clear BK1029)
      (try clear BK1033)
      (try clear HB)
      generalize (((w51.setCell ⟨gb1033, 0, none⟩ (.int .i64 ((rd_T166 l0_2 x3_2).f0))).setCell ⟨gb1033, 1, none⟩ (.int .i64 ((rd_T166 l0_2 x3_2).f1))).setCell ⟨gb1033, 2, none⟩ (.int .i64 ((rd_T166 l0_2 x3_2).f2))) = w54 at n0_ n1_ n2_ ⊢
      have BK1029 := n0_
      have BK1033 := n1_
      have HB := n2_
      clear n0_ n1_ n2_
      replace BK1029 := bd BK1029
      replace BK1033 := bd BK1033
      replace HB := Aside0.mk (below_drew1 HB.out)
      refine start_ (n := 32) (S := fun w' => cS3 gb1033 (.int .i64 ((rd_T166 l0_2 x3_2).f0)) (.int .i64 ((rd_T166 l0_2 x3_2).f1)) (.int .i64 ((rd_T166 l0_2 x3_2).f2)) w') (ds := []) #[false, false, false, false, false, false, false, false, false, false, false, false, false, false, false, false, false, false, false, false, false, false, false, false, false, false, false, false, false, false, false, false] (by kernel_rfl) rfl rfl (ds3_ BK1033) (fun hHeld => ?_); refine with_tabW spec_DescOk.tab9 spec_DescOk.bits9 (fun HT_ HW_ => ?_)
      generalize w54.drew = w55 at BK1029 BK1033 HB hHeld ⊢
      refine pu 0 58 ?_; refine ta 1 59 ?_
      refine on1 2 (some 60) (fun K hK => ?_)
      refine gS Try.func79 #[.int .i64 ((rd_T166 l0_2 x3_2).f0), .int .i64 0, .int .i64 19] ?_
      with_reducible refine (spec_l1In.calls ((rd_T166 l0_2 x3_2).f0) 0 19 true _ A27.out).mono ?_
      rintro e w' ⟨rfl, ⟨nd, rfl⟩⟩
      refine ⟨_, rfl, ?_⟩
      refine hK.out _ _ (ds3_ BK1033) (fun hHeld => ?_)
      clear hK K
      refine nm 60 ?_
      refine pu 3 61 ?_; refine pu 4 62 ?_; refine pu 5 63 ?_; refine ta 6 64 ?_
      refine on1 7 (some 65) (fun K hK => ?_)
      refine gS Try.func79 #[.int .i64 ((rd_T166 l0_2 x3_2).f1), .int .i64 0, .int .i64 1000] ?_
      with_reducible refine (spec_l1In.calls ((rd_T166 l0_2 x3_2).f1) 0 1000 true _ A29.out).mono ?_
      rintro e w' ⟨rfl, ⟨nd, rfl⟩⟩
      refine ⟨_, rfl, ?_⟩
      refine hK.out _ _ (ds3_ BK1033) (fun hHeld => ?_)
      clear hK K
      refine nm 65 ?_
      refine pu 8 66 ?_; refine pu 9 67 ?_; refine pu 10 68 ?_; refine pu 11 69 ?_; refine ta 12 70 ?_
      refine on1 13 (some 71) (fun K hK => ?_)
      refine gS Try.func79 #[.int .i64 ((rd_T166 l0_2 x3_2).f2), .int .i64 0, .int .i64 1000] ?_
      with_reducible refine (spec_l1In.calls ((rd_T166 l0_2 x3_2).f2) 0 1000 true _ A31.out).mono ?_
      rintro e w' ⟨rfl, ⟨nd, rfl⟩⟩
      refine ⟨_, rfl, ?_⟩
      refine hK.out _ _ (ds3_ BK1033) (fun hHeld => ?_)
      clear hK K
      refine nm 71 ?_
      refine pu 14 72 ?_; refine pu 15 73 ?_; refine pu 16 74 ?_; refine pu 17 75 ?_; refine pu 18 76 ?_; refine pu 19 77 ?_; refine pn 20 78 ?_; refine pn 21 79 ?_; refine pn 22 80 ?_; refine pn 23 81 ?_; refine pn 24 82 ?_; refine pn 25 83 ?_
      refine pn 26 84 ?_; refine pn 27 85 ?_; refine pn 28 86 ?_; refine pn 29 87 ?_; refine pu 30 88 ?_; refine pu 31 89 ?_
      refine done_ (done_of HT_.out (by kernel_rfl)) ?_
      try go_wp2
      go_roundg k2
      case measure => have := HJ13.out; have := HK2.out; omega
      case rel => exact ⟨(wrap64 (x3_2 + 1)), rsd, H', ⟨by have := HJ13.out; have := HK2.out; omega⟩, ⟨by (with_reducible repeat (first | refine blk_drewN ?_ _ | refine blk_drew ?_ | refine blk_alloc ?_ _)); exact BK1029.out⟩, ⟨tb HB⟩⟩
     obtain ⟨ji34, hji34⟩ : ∃ j_ : Int, (wrap64 (x3_2 - 1)) = j_ := ⟨_, rfl⟩
     replace H : (if 0 ≤ (ji34) then (if (ji34) < (l0_2.length : Int) then (if ((rd_T166 l0_2 (ji34)).f0) ≥ ((rd_T166 l0_2 x3_2).f0) then (some false) else (spec_DescOk.l0 k2 (wrap64 (x3_2 + 1)) a0_0 a0_1 l0_2 a0_3 l0_4)) else (none)) else (none)) = some r := by first | (rw [hji34] at H; exact H) | (simp only [hji34] at H ⊢; exact H)
     (try rw [hji34] at A27)
     (try rw [hji34] at A29)
     (try rw [hji34] at A31)
     have hji34w : (IntKind.i64.wrap (x3_2 - 1)) = ji34 := (i64_w _).trans hji34
     obtain ⟨c35b0, H⟩ := itd H
     obtain ⟨c36b0, H⟩ := itd H
     revert H; refine icd (fun c37b0 H => ?pos) fun c37b0 H => ?_
     case pos =>
      obtain rfl := oin H
      have hz38 := cs5_ BK1029
      have p1032 : 0 ≤ (x3_2 : Int) := od
      have q1032 : x3_2 < (l0_2.length : Int) := od
      obtain ⟨ad1032, e1032, hx1032_0, hx1032_1, hx1032_2⟩ := at_T166 HR0_2.out x3_2 p1032 q1032
      cases e1032
      replace hx1032_0 := ox HB hx1032_0
      replace hx1032_1 := ox HB hx1032_1
      replace hx1032_2 := ox HB hx1032_2
      replace p1032 := eq_true p1032
      replace q1032 := eq_true q1032
      try go_wp2_with (first | ((with_reducible refine gq 4 rfl ?_); (try (refine gate_guard (by rfl) ?_; dsimp only)); refine bx1 HB BK1029 (N := 4) (cs := #[.int .i64 0, .int .i64 0, .int .i64 0]) (t := 166) ?_; clear HB BK1029; intro gb1033 w39 BK1033 GE1033 HB NB1029_1033 NB1033_1029 BK1029; have hnb40 := NB1033_1029.out; have hnc40 := NB1029_1033.out; have hz41 := cs3_ BK1033))
      have n0_ : Aside0 ((((w39.setCell ⟨gb1033, 0, none⟩ (.int .i64 ((rd_T166 l0_2 x3_2).f0))).setCell ⟨gb1033, 1, none⟩ (.int .i64 ((rd_T166 l0_2 x3_2).f1))).setCell ⟨gb1033, 2, none⟩ (.int .i64 ((rd_T166 l0_2 x3_2).f2))).heap[gb1029]? = some (.cells #[.int .i64 a0_0, .int .i64 a0_1, .slice (some ad1032) l0_2.length c0_2, .int .i64 a0_3, .slice A0_4 l0_4.length c0_4] 145 (0, 0))) := ⟨bf BK1029⟩
      have n1_ : Aside0 ((((w39.setCell ⟨gb1033, 0, none⟩ (.int .i64 ((rd_T166 l0_2 x3_2).f0))).setCell ⟨gb1033, 1, none⟩ (.int .i64 ((rd_T166 l0_2 x3_2).f1))).setCell ⟨gb1033, 2, none⟩ (.int .i64 ((rd_T166 l0_2 x3_2).f2))).heap[gb1033]? = some (.cells #[.int .i64 ((rd_T166 l0_2 x3_2).f0), .int .i64 ((rd_T166 l0_2 x3_2).f1), .int .i64 ((rd_T166 l0_2 x3_2).f2)] 166 (0, 0))) := ⟨bfp3 BK1033⟩
      have n2_ : Aside0 (Below w.heap.size w (((w39.setCell ⟨gb1033, 0, none⟩ (.int .i64 ((rd_T166 l0_2 x3_2).f0))).setCell ⟨gb1033, 1, none⟩ (.int .i64 ((rd_T166 l0_2 x3_2).f1))).setCell ⟨gb1033, 2, none⟩ (.int .i64 ((rd_T166 l0_2 x3_2).f2)))) := ⟨tb HB⟩
      (try clear BK1029)
      (try clear BK1033)
      (try clear HB)
      generalize (((w39.setCell ⟨gb1033, 0, none⟩ (.int .i64 ((rd_T166 l0_2 x3_2).f0))).setCell ⟨gb1033, 1, none⟩ (.int .i64 ((rd_T166 l0_2 x3_2).f1))).setCell ⟨gb1033, 2, none⟩ (.int .i64 ((rd_T166 l0_2 x3_2).f2))) = w42 at n0_ n1_ n2_ ⊢
      have BK1029 := n0_
      have BK1033 := n1_
      have HB := n2_
      clear n0_ n1_ n2_
      replace BK1029 := bd BK1029
      replace BK1033 := bd BK1033
      replace HB := Aside0.mk (below_drew1 HB.out)
      have p1037 : 0 ≤ ((ji34) : Int) := od
      have q1037 : (ji34) < (l0_2.length : Int) := od
      obtain ⟨ad1037, e1037, hx1037⟩ := att166 HR0_2.out (ji34) p1037 q1037
      have hw1037 := hx1037
      obtain rfl : ad1032 = ad1037 := (by injection e1037)
      replace hx1037 := ox3 HB hx1037
      replace p1037 := eq_true p1037
      replace q1037 := eq_true q1037
      refine start_ (n := 32) (S := fun w' => cS3 gb1033 (.int .i64 ((rd_T166 l0_2 x3_2).f0)) (.int .i64 ((rd_T166 l0_2 x3_2).f1)) (.int .i64 ((rd_T166 l0_2 x3_2).f2)) w' ∧ cS5 gb1029 (.int .i64 a0_0) (.int .i64 a0_1) (.slice (some ad1032) l0_2.length c0_2) (.int .i64 a0_3) (.slice A0_4 l0_4.length c0_4) w' ∧ eT166 (ad1032.add (((ji34)).toNat * 3)) (rd_T166 l0_2 (ji34)) w') (ds := []) #[false, false, false, false, false, false, false, false, false, false, false, false, false, false, false, false, false, false, false, false, false, false, false, false, false, false, false, false, false, false, false, false] (by kernel_rfl) rfl rfl ⟨ds3_ BK1033, ds5_ BK1029, (ox3 HB hw1037 :)⟩ (fun hHeld => ?_); refine with_tabW spec_DescOk.tab9 spec_DescOk.bits9 (fun HT_ HW_ => ?_)
      generalize w42.drew = w43 at BK1029 BK1033 HB hx1037 hHeld ⊢
      refine pu 0 58 ?_; refine ta 1 59 ?_
      refine on1 2 (some 60) (fun K hK => ?_)
      refine gS Try.func79 #[.int .i64 ((rd_T166 l0_2 x3_2).f0), .int .i64 0, .int .i64 19] ?_
      with_reducible refine (spec_l1In.calls ((rd_T166 l0_2 x3_2).f0) 0 19 true _ A27.out).mono ?_
      rintro e w' ⟨rfl, ⟨nd, rfl⟩⟩
      refine ⟨_, rfl, ?_⟩
      refine hK.out _ _ ⟨ds3_ BK1033, ds5_ BK1029, (ox3 HB hw1037 :)⟩ (fun hHeld => ?_)
      clear hK K
      refine nm 60 ?_
      refine pu 3 61 ?_; refine pu 4 62 ?_; refine pu 5 63 ?_; refine ta 6 64 ?_
      refine on1 7 (some 65) (fun K hK => ?_)
      refine gS Try.func79 #[.int .i64 ((rd_T166 l0_2 x3_2).f1), .int .i64 0, .int .i64 1000] ?_
      with_reducible refine (spec_l1In.calls ((rd_T166 l0_2 x3_2).f1) 0 1000 true _ A29.out).mono ?_
      rintro e w' ⟨rfl, ⟨nd, rfl⟩⟩
      refine ⟨_, rfl, ?_⟩
      refine hK.out _ _ ⟨ds3_ BK1033, ds5_ BK1029, (ox3 HB hw1037 :)⟩ (fun hHeld => ?_)
      clear hK K
      refine nm 65 ?_
      refine pu 8 66 ?_; refine pu 9 67 ?_; refine pu 10 68 ?_; refine pu 11 69 ?_; refine ta 12 70 ?_
      refine on1 13 (some 71) (fun K hK => ?_)
      refine gS Try.func79 #[.int .i64 ((rd_T166 l0_2 x3_2).f2), .int .i64 0, .int .i64 1000] ?_
      with_reducible refine (spec_l1In.calls ((rd_T166 l0_2 x3_2).f2) 0 1000 true _ A31.out).mono ?_
      rintro e w' ⟨rfl, ⟨nd, rfl⟩⟩
      refine ⟨_, rfl, ?_⟩
      refine hK.out _ _ ⟨ds3_ BK1033, ds5_ BK1029, (ox3 HB hw1037 :)⟩ (fun hHeld => ?_)
      clear hK K
      refine nm 71 ?_
      refine pu 14 72 ?_; refine pu 15 73 ?_; refine pu 16 74 ?_; refine pu 17 75 ?_; refine pu 18 76 ?_; refine pu 19 77 ?_; refine pu 20 78 ?_; refine pu 22 80 ?_; refine pu 23 81 ?_; refine pu 27 85 ?_; refine ta 21 79 ?_; refine pu 24 82 ?_
      refine pu 25 83 ?_; refine ta 26 84 ?_; refine ta 28 86 ?_; refine pu 29 87 ?_; refine pu 30 88 ?_; refine pu 31 89 ?_
      refine done_ (done_of HT_.out (by kernel_rfl)) ?_
      try go_wp2
      go_ret
      exact ⟨by first | rfl | (simp [errW_none, errW_some] <;> rfl) | (simp only [← hji34]; first | rfl | (simp [errW_none, errW_some] <;> rfl)) | (simp [*, errW_none, errW_some] <;> rfl), tb HB⟩
     have H' := Aside0.mk H
     clear H
     have hz44 := cs5_ BK1029
     have p1032 : 0 ≤ (x3_2 : Int) := od
     have q1032 : x3_2 < (l0_2.length : Int) := od
     obtain ⟨ad1032, e1032, hx1032_0, hx1032_1, hx1032_2⟩ := at_T166 HR0_2.out x3_2 p1032 q1032
     cases e1032
     replace hx1032_0 := ox HB hx1032_0
     replace hx1032_1 := ox HB hx1032_1
     replace hx1032_2 := ox HB hx1032_2
     replace p1032 := eq_true p1032
     replace q1032 := eq_true q1032
     try go_wp2_with (first | ((with_reducible refine gq 4 rfl ?_); (try (refine gate_guard (by rfl) ?_; dsimp only)); refine bx1 HB BK1029 (N := 4) (cs := #[.int .i64 0, .int .i64 0, .int .i64 0]) (t := 166) ?_; clear HB BK1029; intro gb1033 w45 BK1033 GE1033 HB NB1029_1033 NB1033_1029 BK1029; have hnb46 := NB1033_1029.out; have hnc46 := NB1029_1033.out; have hz47 := cs3_ BK1033))
     have n0_ : Aside0 ((((w45.setCell ⟨gb1033, 0, none⟩ (.int .i64 ((rd_T166 l0_2 x3_2).f0))).setCell ⟨gb1033, 1, none⟩ (.int .i64 ((rd_T166 l0_2 x3_2).f1))).setCell ⟨gb1033, 2, none⟩ (.int .i64 ((rd_T166 l0_2 x3_2).f2))).heap[gb1029]? = some (.cells #[.int .i64 a0_0, .int .i64 a0_1, .slice (some ad1032) l0_2.length c0_2, .int .i64 a0_3, .slice A0_4 l0_4.length c0_4] 145 (0, 0))) := ⟨bf BK1029⟩
     have n1_ : Aside0 ((((w45.setCell ⟨gb1033, 0, none⟩ (.int .i64 ((rd_T166 l0_2 x3_2).f0))).setCell ⟨gb1033, 1, none⟩ (.int .i64 ((rd_T166 l0_2 x3_2).f1))).setCell ⟨gb1033, 2, none⟩ (.int .i64 ((rd_T166 l0_2 x3_2).f2))).heap[gb1033]? = some (.cells #[.int .i64 ((rd_T166 l0_2 x3_2).f0), .int .i64 ((rd_T166 l0_2 x3_2).f1), .int .i64 ((rd_T166 l0_2 x3_2).f2)] 166 (0, 0))) := ⟨bfp3 BK1033⟩
     have n2_ : Aside0 (Below w.heap.size w (((w45.setCell ⟨gb1033, 0, none⟩ (.int .i64 ((rd_T166 l0_2 x3_2).f0))).setCell ⟨gb1033, 1, none⟩ (.int .i64 ((rd_T166 l0_2 x3_2).f1))).setCell ⟨gb1033, 2, none⟩ (.int .i64 ((rd_T166 l0_2 x3_2).f2)))) := ⟨tb HB⟩
     (try clear BK1029)
     (try clear BK1033)
     (try clear HB)
     generalize (((w45.setCell ⟨gb1033, 0, none⟩ (.int .i64 ((rd_T166 l0_2 x3_2).f0))).setCell ⟨gb1033, 1, none⟩ (.int .i64 ((rd_T166 l0_2 x3_2).f1))).setCell ⟨gb1033, 2, none⟩ (.int .i64 ((rd_T166 l0_2 x3_2).f2))) = w48 at n0_ n1_ n2_ ⊢
     have BK1029 := n0_
     have BK1033 := n1_
     have HB := n2_
     clear n0_ n1_ n2_
     replace BK1029 := bd BK1029
     replace BK1033 := bd BK1033
     replace HB := Aside0.mk (below_drew1 HB.out)
     have p1037 : 0 ≤ ((ji34) : Int) := od
     have q1037 : (ji34) < (l0_2.length : Int) := od
     obtain ⟨ad1037, e1037, hx1037⟩ := att166 HR0_2.out (ji34) p1037 q1037
     have hw1037 := hx1037
     obtain rfl : ad1032 = ad1037 := (by injection e1037)
     replace hx1037 := ox3 HB hx1037
     replace p1037 := eq_true p1037
     replace q1037 := eq_true q1037
     refine start_ (n := 32) (S := fun w' => cS3 gb1033 (.int .i64 ((rd_T166 l0_2 x3_2).f0)) (.int .i64 ((rd_T166 l0_2 x3_2).f1)) (.int .i64 ((rd_T166 l0_2 x3_2).f2)) w' ∧ cS5 gb1029 (.int .i64 a0_0) (.int .i64 a0_1) (.slice (some ad1032) l0_2.length c0_2) (.int .i64 a0_3) (.slice A0_4 l0_4.length c0_4) w' ∧ eT166 (ad1032.add (((ji34)).toNat * 3)) (rd_T166 l0_2 (ji34)) w') (ds := []) #[false, false, false, false, false, false, false, false, false, false, false, false, false, false, false, false, false, false, false, false, false, false, false, false, false, false, false, false, false, false, false, false] (by kernel_rfl) rfl rfl ⟨ds3_ BK1033, ds5_ BK1029, (ox3 HB hw1037 :)⟩ (fun hHeld => ?_); refine with_tabW spec_DescOk.tab9 spec_DescOk.bits9 (fun HT_ HW_ => ?_)
     generalize w48.drew = w49 at BK1029 BK1033 HB hx1037 hHeld ⊢
     refine pu 0 58 ?_; refine ta 1 59 ?_
     refine on1 2 (some 60) (fun K hK => ?_)
     refine gS Try.func79 #[.int .i64 ((rd_T166 l0_2 x3_2).f0), .int .i64 0, .int .i64 19] ?_
     with_reducible refine (spec_l1In.calls ((rd_T166 l0_2 x3_2).f0) 0 19 true _ A27.out).mono ?_
     rintro e w' ⟨rfl, ⟨nd, rfl⟩⟩
     refine ⟨_, rfl, ?_⟩
     refine hK.out _ _ ⟨ds3_ BK1033, ds5_ BK1029, (ox3 HB hw1037 :)⟩ (fun hHeld => ?_)
     clear hK K
     refine nm 60 ?_
     refine pu 3 61 ?_; refine pu 4 62 ?_; refine pu 5 63 ?_; refine ta 6 64 ?_
     refine on1 7 (some 65) (fun K hK => ?_)
     refine gS Try.func79 #[.int .i64 ((rd_T166 l0_2 x3_2).f1), .int .i64 0, .int .i64 1000] ?_
     with_reducible refine (spec_l1In.calls ((rd_T166 l0_2 x3_2).f1) 0 1000 true _ A29.out).mono ?_
     rintro e w' ⟨rfl, ⟨nd, rfl⟩⟩
     refine ⟨_, rfl, ?_⟩
     refine hK.out _ _ ⟨ds3_ BK1033, ds5_ BK1029, (ox3 HB hw1037 :)⟩ (fun hHeld => ?_)
     clear hK K
     refine nm 65 ?_
     refine pu 8 66 ?_; refine pu 9 67 ?_; refine pu 10 68 ?_; refine pu 11 69 ?_; refine ta 12 70 ?_
     refine on1 13 (some 71) (fun K hK => ?_)
     refine gS Try.func79 #[.int .i64 ((rd_T166 l0_2 x3_2).f2), .int .i64 0, .int .i64 1000] ?_
     with_reducible refine (spec_l1In.calls ((rd_T166 l0_2 x3_2).f2) 0 1000 true _ A31.out).mono ?_
     rintro e w' ⟨rfl, ⟨nd, rfl⟩⟩
     refine ⟨_, rfl, ?_⟩
     refine hK.out _ _ ⟨ds3_ BK1033, ds5_ BK1029, (ox3 HB hw1037 :)⟩ (fun hHeld => ?_)
     clear hK K
     refine nm 71 ?_
     refine pu 14 72 ?_; refine pu 15 73 ?_; refine pu 16 74 ?_; refine pu 17 75 ?_; refine pu 18 76 ?_; refine pu 19 77 ?_; refine pu 20 78 ?_; refine pu 22 80 ?_; refine pu 23 81 ?_; refine pu 27 85 ?_; refine ta 21 79 ?_; refine pu 24 82 ?_
     refine pu 25 83 ?_; refine ta 26 84 ?_; refine ta 28 86 ?_; refine pu 29 87 ?_; refine pu 30 88 ?_; refine pu 31 89 ?_
     refine done_ (done_of HT_.out (by kernel_rfl)) ?_
     try go_wp2
     go_roundg k2
     case measure => have := HJ13.out; have := HK2.out; omega
     case rel => exact ⟨(wrap64 (x3_2 + 1)), rsd, H', ⟨by have := HJ13.out; have := HK2.out; omega⟩, ⟨by (with_reducible repeat (first | refine blk_drewN ?_ _ | refine blk_drew ?_ | refine blk_alloc ?_ _)); exact BK1029.out⟩, ⟨tb HB⟩⟩
def spec_WordOk.f (a0_0 : Int) (a0_1 : Int) (a0_2 : Int) (a1 : Int) : Option (Bool) := if a0_1 = 0 then (if a0_2 = 0 then ((spec_l1In.f a0_0 0 1000).bind fun t1039 => (some t1039)) else (some false)) else (if a0_0 = 0 then ((spec_l1In.f a0_1 1 a1).bind fun t1040 => (if t1040 = true then ((spec_l1In.f a0_2 1 1000000).bind fun t1041 => (some t1041)) else (some false))) else (some false))
set_option maxHeartbeats 8000000 in
set_option maxRecDepth 100000 in
theorem spec_WordOk.calls (a0_0 : Int) (a0_1 : Int) (a0_2 : Int) (a1 : Int) (r : Bool) (w : World) (h : spec_WordOk.f a0_0 a0_1 a0_2 a1 = some r) :
  Calls Try.prog 174 #[.agg #[.int .i64 a0_0, .int .i64 a0_1, .int .i64 a0_2], .int .i64 a1] w fun e w' => e = .returned (.bool r) ∧ Below w.heap.size w w' := by
 have hu141 := Try.underlying141
 have HB := Aside0.mk (Below.refl w.heap.size w)
 have H := h
 clear h
 unfold spec_WordOk.f at H
 by_cases c3 : a0_1 = 0
 case pos =>
  rw [if_pos c3] at H
  have c3b0 : (a0_1 == 0) = true := beq_iff_eq.mpr c3
  have c3b1 : (a0_1 != 0) = false := bne_eq_false_iff_eq.mpr c3
  clear c3
  by_cases c4 : a0_2 = 0
  case neg =>
   rw [if_neg c4] at H
   have c4b0 : (a0_2 == 0) = false := beq_eq_false_iff_ne.mpr c4
   have c4b1 : (a0_2 != 0) = true := bne_iff_ne.mpr c4
   obtain rfl := oin H
   go_enter Try.func174, Try.ntmps174
   go_wp2_with (first | ((with_reducible refine gq 2 rfl ?_); refine bx0 HB (N := 2) (t := 141) ?_; clear HB; intro gb1038 w8 BK1038 GE1038 HB; have hz9 := cs3_ BK1038))
   go_ret
   exact ⟨er, tb HB⟩
  rw [if_pos c4] at H
  have c4b0 : (a0_2 == 0) = true := beq_iff_eq.mpr c4
  have c4b1 : (a0_2 != 0) = false := bne_eq_false_iff_eq.mpr c4
  clear c4
  obtain ⟨t1039, A5, H⟩ := bn H
  try dsimp only at H
  obtain rfl := oin H
  go_enter Try.func174, Try.ntmps174
  go_wp2_with (first | ((with_reducible refine gq 2 rfl ?_); refine bx0 HB (N := 2) (t := 141) ?_; clear HB; intro gb1038 w6 BK1038 GE1038 HB; have hz7 := cs3_ BK1038) | (go_at_call 79; (with_reducible refine (spec_l1In.calls a0_0 0 1000 t1039 _ A5.out).mono ?_); rintro e w' ⟨rfl, ⟨nd, rfl⟩⟩))
  go_ret
  exact ⟨er, tb HB⟩
 rw [if_neg c3] at H
 have c3b0 : (a0_1 == 0) = false := beq_eq_false_iff_ne.mpr c3
 have c3b1 : (a0_1 != 0) = true := bne_iff_ne.mpr c3
 by_cases c10 : a0_0 = 0
 case neg =>
  rw [if_neg c10] at H
  have c10b0 : (a0_0 == 0) = false := beq_eq_false_iff_ne.mpr c10
  have c10b1 : (a0_0 != 0) = true := bne_iff_ne.mpr c10
  obtain rfl := oin H
  go_enter Try.func174, Try.ntmps174
  go_wp2_with (first | ((with_reducible refine gq 2 rfl ?_); refine bx0 HB (N := 2) (t := 141) ?_; clear HB; intro gb1038 w18 BK1038 GE1038 HB; have hz19 := cs3_ BK1038))
  go_ret
  exact ⟨er, tb HB⟩
 
 
 rw [if_pos c10] at H
 have c10b0 : (a0_0 == 0) = true := beq_iff_eq.mpr c10
 have c10b1 : (a0_0 != 0) = false := bne_eq_false_iff_eq.mpr c10
 clear c10
 obtain ⟨t1040, A11, H⟩ := bn H
 try dsimp only at H
 cases t1040
 case false =>
  replace H := ipf H
  obtain rfl := oin H
  go_enter Try.func174, Try.ntmps174
  go_wp2_with (first | ((with_reducible refine gq 2 rfl ?_); refine bx0 HB (N := 2) (t := 141) ?_; clear HB; intro gb1038 w16 BK1038 GE1038 HB; have hz17 := cs3_ BK1038) | (go_at_call 79; (with_reducible refine (spec_l1In.calls a0_1 1 a1 false _ A11.out).mono ?_); rintro e w' ⟨rfl, ⟨nd, rfl⟩⟩))
  go_ret
  exact ⟨er, tb HB⟩
 replace H := ipt H
 obtain ⟨t1041, A13, H⟩ := bn H
 try dsimp only at H
 obtain rfl := oin H
 go_enter Try.func174, Try.ntmps174
 go_wp2_with (first | ((with_reducible refine gq 2 rfl ?_); refine bx0 HB (N := 2) (t := 141) ?_; clear HB; intro gb1038 w14 BK1038 GE1038 HB; have hz15 := cs3_ BK1038) | (go_at_call 79; (with_reducible refine (spec_l1In.calls a0_1 1 a1 true _ A11.out).mono ?_); rintro e w' ⟨rfl, ⟨nd, rfl⟩⟩) | (go_at_call 79; (with_reducible refine (spec_l1In.calls a0_2 1 1000000 t1041 _ A13.out).mono ?_); rintro e w' ⟨rfl, ⟨nd, rfl⟩⟩))
 go_ret
 exact ⟨er, tb HB⟩
def spec_l6Desc.f (a0_0 : Int) (a0_1 : Int) (l0_2 : List (S166)) (a0_3 : Int) (l0_4 : List Int) : Option (Int × Int × (List (S166)) × Int × List Int) := (some (([] : List (S166)) : List (S166))).bind fun y1210 => (if y1210.length + l0_2.length < 5864062014805 then ((spec_l6Res.f a0_3 l0_4).bind fun bt1216 => (some (a0_0, a0_1, (y1210 ++ l0_2), bt1216.1, bt1216.2))) else (none))
def spec_l6Desc.T1 : Bool × List (List Nat × List Nat) := (true, [([], []), ([0], [0]), ([], []), ([2], [2]), ([], []), ([], []), ([5], [5]), ([4, 6], [4, 6]), ([], []), ([8], [8]), ([9, 7], [9]), ([1, 3, 7, 10], [1, 3, 7, 10]), ([11, 10, 0, 1, 2, 3, 4, 5, 6, 7, 8, 9, 10, 11], [11])])
def spec_l6Desc.B1 : List Nat := [0, 1, 0, 4, 0, 0, 32, 112, 0, 256, 1008, 2047, 4095]
theorem spec_l6Desc.tab1 : rtab .any (opsOf Try.f196 1) = spec_l6Desc.T1 := by kernel_rfl
theorem spec_l6Desc.bits1 : waitsOk spec_l6Desc.T1.2 spec_l6Desc.B1 = true := by kernel_rfl
set_option maxHeartbeats 8000000 in
set_option maxRecDepth 100000 in
theorem spec_l6Desc.calls (a0_0 : Int) (a0_1 : Int) (A0_2 : Option Addr) (c0_2 : Nat) (l0_2 : List (S166)) (a0_3 : Int) (A0_4 : Option Addr) (c0_4 : Nat) (l0_4 : List Int) (r1 : Int) (r2 : Int) (r3 : List (S166)) (r4 : Int) (r5 : List Int) (w : World) (hr0_2 : Kd.C k166 w A0_2 l0_2.length l0_2) (hc0_2 : l0_2.length ≤ c0_2) (hr0_4 : Kd.C (Kd.int .i64) w A0_4 l0_4.length l0_4) (hc0_4 : l0_4.length ≤ c0_4) (h : spec_l6Desc.f a0_0 a0_1 l0_2 a0_3 l0_4 = some (r1, r2, r3, r4, r5)) :
  Calls Try.prog 196 #[.agg #[.int .i64 a0_0, .int .i64 a0_1, .slice A0_2 l0_2.length c0_2, .int .i64 a0_3, .slice A0_4 l0_4.length c0_4]] w fun e w' => ∃ v2_ v4_ : Value, e = .returned (.agg #[.int .i64 r1, .int .i64 r2, v2_, .int .i64 r4, v4_]) ∧ Kd.R k166 166 w' w.heap.size (fun _ => True) v2_ r3 ∧ Kd.R (Kd.int .i64) 3 w' w.heap.size (fun _ => True) v4_ r5 ∧ Below w.heap.size w w' := by
 have hu145 := Try.underlying145
 have hu70 := Try.underlying70
 have HR0_2 := Aside0.mk hr0_2
 have HC0_2 := Aside0.mk hc0_2
 clear hr0_2 hc0_2
 have HR0_4 := Aside0.mk hr0_4
 have HC0_4 := Aside0.mk hc0_4
 clear hr0_4 hc0_4
 have HB := Aside0.mk (Below.refl w.heap.size w)
 have H := h
 clear h
 unfold spec_l6Desc.f at H
 obtain ⟨y1210, hy1210⟩ : ∃ y_ : List (S166), y_ = (([] : List (S166))) := ⟨_, rfl⟩
 replace H : (if y1210.length + l0_2.length < 5864062014805 then ((spec_l6Res.f a0_3 l0_4).bind fun bt1216 => (some (a0_0, a0_1, (y1210 ++ l0_2), bt1216.1, bt1216.2))) else (none)) = some (r1, r2, r3, r4, r5) := by first | (rw [hy1210]; with_reducible exact H) | (have H2_ := (Option.bind_some _ _).symm.trans H; rw [hy1210]; with_reducible exact H2_) | (have H2_ := (Option.bind_some _ _).symm.trans H; with_reducible exact H2_) | with_reducible exact H | (rw [hy1210]; exact H) | exact H
 have Ny1210 := Aside0.mk hy1210
 clear hy1210
 by_cases c2 : y1210.length + l0_2.length < 5864062014805
 case neg =>
  rw [if_neg c2] at H
  exact absurd H (by simp)
 
 
 rw [if_pos c2] at H
 have LMc2 := Aside0.mk c2
 clear c2
 obtain ⟨y1213, hy1213⟩ : ∃ y_ : List (S166), y_ = (y1210 ++ l0_2) := ⟨_, rfl⟩
 replace H : ((spec_l6Res.f a0_3 l0_4).bind fun bt1216 => (some (a0_0, a0_1, y1213, bt1216.1, bt1216.2))) = some (r1, r2, r3, r4, r5) := by first | (rw [hy1213]; with_reducible exact H) | (have H2_ := (Option.bind_some _ _).symm.trans H; rw [hy1213]; with_reducible exact H2_) | (have H2_ := (Option.bind_some _ _).symm.trans H; with_reducible exact H2_) | with_reducible exact H | (rw [hy1213]; exact H) | exact H
 have Ny1213 := Aside0.mk hy1213
 clear hy1213
 obtain ⟨⟨t1216, t1217⟩, A3, H⟩ := bn H
 try dsimp only at H
 simp only [Option.some.injEq, Prod.mk.injEq] at H
 obtain ⟨rfl, rfl, rfl, rfl, rfl⟩ := H
 go_enter Try.func196, Try.ntmps196
 try go_wp2_with (first | ((with_reducible refine gq 1 rfl ?_); refine bx0 HB (N := 1) (t := 145) ?_; clear HB; intro gb1208 w4 BK1208 GE1208 HB) | ((with_reducible refine gq 2 rfl ?_); refine bx1 HB BK1208 (N := 2) (cs := #[.int .i64 0, .int .i64 0, .slice none 0 0, .int .i64 0, .slice none 0 0]) (t := 145) ?_; clear HB BK1208; intro gb1209 w5 BK1209 GE1209 HB NB1208_1209 NB1209_1208 BK1208))
 replace BK1208 := bd BK1208
 replace BK1209 := bd BK1209
 replace HB := Aside0.mk (below_drew1 HB.out)
 refine start_ (n := 13) (S := fun w' => cS5 gb1208 (.int .i64 a0_0) (.int .i64 a0_1) (.slice A0_2 l0_2.length c0_2) (.int .i64 a0_3) (.slice A0_4 l0_4.length c0_4) w') (ds := []) #[false, false, false, false, false, false, false, false, false, false, false, false, false] (by kernel_rfl) rfl rfl (ds5_ BK1208) (fun hHeld => ?_); refine with_tabW spec_l6Desc.tab1 spec_l6Desc.bits1 (fun HT_ HW_ => ?_)
 generalize w5.drew = w6 at BK1208 BK1209 HB hHeld ⊢
 refine pu 0 3 ?_; refine pu 2 5 ?_; refine pu 5 8 ?_; refine pu 8 11 ?_; refine ta 1 4 ?_; refine ta 3 6 ?_; refine ta 6 9 ?_; refine ta 9 12 ?_
 refine on1 4 (some 7) (fun K hK => ?_)
 refine Kd.R_lit_step k166 _ 166 ?hg (N := 7) ?hd (xs := ([] : List (S166))) (inner := []) (ok := fun _ => True) (okp := fun _ => True) ?hr ?hp (fun _ hk => hk) trivial (Below.refl _ _) (Nat.le_refl _) (by simp) ?_; (case hd => rfl); (case hg => rfl); (case hr => first | (go_simp; done) | (go_simp; rfl)); (case hp => exact (Reps.none _ _))
 intro v1211 w7 ho8 hb hg_ hnew_
 clear hg_ hnew_
 (first | rw [← Ny1210.out] at ho8 | (simp only [Int.reduceToNat] at ho8; rw [← Ny1210.out] at ho8))
 have HO1212 := Aside0.mk (Kd.R_lower ho8 (below_size (tb HB)))
 replace BK1208 := bb BK1208 hb
 replace BK1209 := bb BK1209 hb
 replace HB := bs HB hb
 clear hb ho8
 refine hK.out _ _ (ds5_ BK1208) (fun hHeld => ?_)
 clear hK K
 refine nm 7 ?_
 refine on1 7 (some 10) (fun K hK => ?_)
 refine Kd.R_append_rows_step k166 (w0 := w) w.heap.size (by rfl) (.tmp 7) (.tmp 9) 104 166 (.agg #[(.int .i64 0), (.int .i64 0), (.int .i64 0)]) 24 rfl Try.underlying104 info166 rfl (by decide) (by omega) v1211 y1210 l0_2 _ _ _ (fun _ => True) (fun _ => False) rfl rfl ?aO ?aR (fun _ _ h => h) (fun _ h => h.elim) ?aF ?aB ?aS ?aL ?_
 (case aR => repeat (first | exact (Kd.C_below HR0_2.out HB.out) | (with_reducible refine Kd.C_alloc ?_ _) | (with_reducible refine Kd.C_drewN ?_ _) | (with_reducible refine Kd.C_drew ?_)))
 (case aB => exact (tb HB))
 (case aF => exact (fun _ _ => trivial))
 (case aO => exact (kr HO1212.out))
 (case aS => exact (below_size (tb HB)))
 (case aL => have := LMc2.out; omega)
 intro v1214 w9 ho hb hg hat
 rw [← Ny1213.out] at ho
 replace BK1208 := Aside0.mk (blk_grown (g := gb1208) (o := .cells #[.int .i64 a0_0, .int .i64 a0_1, .slice A0_2 l0_2.length c0_2, .int .i64 a0_3, .slice A0_4 l0_4.length c0_4] 145 (0, 0)) (bk BK1208) hg (Kd.R_ne HO1212.out BK1208.out (by decide)))
 replace BK1209 := Aside0.mk (blk_grown (g := gb1209) (o := .cells #[.int .i64 0, .int .i64 0, .slice none 0 0, .int .i64 0, .slice none 0 0] 145 (0, 0)) (bk BK1209) hg (Kd.R_ne HO1212.out BK1209.out (by decide)))
 replace HB := Aside0.mk (hb)
 have HO1215 := Aside0.mk (ho)
 clear HO1212
 clear ho hb hg hat
 refine hK.out _ _ (ds5_ BK1208) (fun hHeld => ?_)
 clear hK K
 refine nm 10 ?_
 refine on1 10 (some 13) (fun K hK => ?_)
 refine gS Try.func135 #[.agg #[.int .i64 a0_3, .slice A0_4 l0_4.length c0_4]] ?_
 with_reducible refine (spec_l6Res.calls a0_3 _ _ l0_4 t1216 t1217 _ ?side1 ?side2 A3.out).mono ?_
 (case side1 => exact kc HR0_4 HB)
 (case side2 => exact HC0_4.out)
 rintro e w10 ⟨v1218, rfl, ho0, hb⟩
 refine ⟨_, rfl, ?_⟩
 replace HO1215 := rb HO1215 hb
 have HO1219 := Aside0.mk (Kd.R_lower ho0 (below_size (tb HB)))
 replace BK1208 := bb BK1208 hb
 replace BK1209 := bb BK1209 hb
 replace HB := bs HB hb
 (try clear hb)
 (try clear hb2)
 (try clear hk)
 (try clear hi)
 (try clear ho0)
 obtain ⟨Ao11, co11, eo11⟩ := Kd.R_slice HO1219.out
 (first | subst eo11 | (injection eo11 with f1_ f2_ f3_; have f4_ := f1_.symm; have f5_ := f3_.symm; clear f1_ f2_ f3_; subst f4_; subst f5_))
 obtain ⟨Ao12, co12, eo12⟩ := Kd.R_slice HO1215.out
 (first | subst eo12 | (injection eo12 with f1_ f2_ f3_; have f4_ := f1_.symm; have f5_ := f3_.symm; clear f1_ f2_ f3_; subst f4_; subst f5_))
 refine hK.out _ _ (ds5_ BK1208) (fun hHeld => ?_)
 clear hK K
 refine nm 13 ?_
 refine pu 11 14 ?_
 refine one_ (i := 12) (N := none) #[true, true, true, true, true, true, true, true, true, true, true, true, true] rfl rfl (one_of HT_.out (by kernel_rfl)) (by decide) (fun K hK => ?_)
 have hs13 : w10.cell? ⟨gb1209, 0, none⟩ = some (.int .i64 0) := cz BK1209 0
 have hfs13 := blk_frozen BK1209.out 0
 have hns13_0 := NB1208_1209.out
 have hms13_0 := NB1209_1208.out
 have hs14 : w10.cell? ⟨gb1209, 1, none⟩ = some (.int .i64 0) := cz BK1209 1
 have hfs14 := blk_frozen BK1209.out 1
 have hns14_0 := NB1208_1209.out
 have hms14_0 := NB1209_1208.out
 have hs15 : w10.cell? ⟨gb1209, 2, none⟩ = some (.slice none 0 0) := cz BK1209 2
 have hfs15 := blk_frozen BK1209.out 2
 have hns15_0 := NB1208_1209.out
 have hms15_0 := NB1209_1208.out
 have hs16 : w10.cell? ⟨gb1209, 3, none⟩ = some (.int .i64 0) := cz BK1209 3
 have hfs16 := blk_frozen BK1209.out 3
 have hns16_0 := NB1208_1209.out
 have hms16_0 := NB1209_1208.out
 have hs17 : w10.cell? ⟨gb1209, 4, none⟩ = some (.slice none 0 0) := cz BK1209 4
 have hfs17 := blk_frozen BK1209.out 4
 have hns17_0 := NB1208_1209.out
 have hms17_0 := NB1209_1208.out
 refine skip_ (w1 := ?_) (by rfl) rfl ?_ ?_
 rotate_left
 ·go_simp
  rfl
 refine hK.out _ _ ⟨((cell_far (p := ⟨gb1209, _, none⟩) NB1208_1209.out _).trans (((cell_far (p := ⟨gb1209, _, none⟩) NB1208_1209.out _).trans (((cell_far (p := ⟨gb1209, _, none⟩) NB1208_1209.out _).trans (((cell_far (p := ⟨gb1209, _, none⟩) NB1208_1209.out _).trans (((cell_far (p := ⟨gb1209, _, none⟩) NB1208_1209.out _).trans (hHeld.1)))))))))), ((cell_far (p := ⟨gb1209, _, none⟩) NB1208_1209.out _).trans (((cell_far (p := ⟨gb1209, _, none⟩) NB1208_1209.out _).trans (((cell_far (p := ⟨gb1209, _, none⟩) NB1208_1209.out _).trans (((cell_far (p := ⟨gb1209, _, none⟩) NB1208_1209.out _).trans (((cell_far (p := ⟨gb1209, _, none⟩) NB1208_1209.out _).trans (hHeld.2.1)))))))))), ((cell_far (p := ⟨gb1209, _, none⟩) NB1208_1209.out _).trans (((cell_far (p := ⟨gb1209, _, none⟩) NB1208_1209.out _).trans (((cell_far (p := ⟨gb1209, _, none⟩) NB1208_1209.out _).trans (((cell_far (p := ⟨gb1209, _, none⟩) NB1208_1209.out _).trans (((cell_far (p := ⟨gb1209, _, none⟩) NB1208_1209.out _).trans (hHeld.2.2.1)))))))))), ((cell_far (p := ⟨gb1209, _, none⟩) NB1208_1209.out _).trans (((cell_far (p := ⟨gb1209, _, none⟩) NB1208_1209.out _).trans (((cell_far (p := ⟨gb1209, _, none⟩) NB1208_1209.out _).trans (((cell_far (p := ⟨gb1209, _, none⟩) NB1208_1209.out _).trans (((cell_far (p := ⟨gb1209, _, none⟩) NB1208_1209.out _).trans (hHeld.2.2.2.1)))))))))), ((cell_far (p := ⟨gb1209, _, none⟩) NB1208_1209.out _).trans (((cell_far (p := ⟨gb1209, _, none⟩) NB1208_1209.out _).trans (((cell_far (p := ⟨gb1209, _, none⟩) NB1208_1209.out _).trans (((cell_far (p := ⟨gb1209, _, none⟩) NB1208_1209.out _).trans (((cell_far (p := ⟨gb1209, _, none⟩) NB1208_1209.out _).trans (hHeld.2.2.2.2))))))))))⟩ (fun hHeld => ?_)
 clear hK K
 refine done_ (done_of HT_.out (by kernel_rfl)) ?_
 try go_wp2
 refine bodyPost_ret (results_cell_row rfl _ _ gb1209 145 #[.int .i64 a0_0, .int .i64 a0_1, .slice Ao12 y1213.length co12, .int .i64 t1216, .slice Ao11 t1217.length co11] (0, 0) _ rfl (bfp5 BK1209) Try.underlying145 rfl (by kernel_rfl)) rfl ?_
 exact ⟨_, _, er, by (with_reducible repeat (first | apply Kd.R_alloc | apply Kd.R_drewN | apply Kd.R_drew)); exact Kd.R_mono (Kd.R_far (p := ⟨gb1209, 4, none⟩) (Kd.R_far (p := ⟨gb1209, 3, none⟩) (Kd.R_far (p := ⟨gb1209, 2, none⟩) (Kd.R_far (p := ⟨gb1209, 1, none⟩) (Kd.R_far (p := ⟨gb1209, 0, none⟩) (Kd.R_types HO1215.out BK1209.out (by decide)) (fun _ hk => hk.2) (.int .i64 a0_0)) (fun _ hk => hk.2) (.int .i64 a0_1)) (fun _ hk => hk.2) (.slice Ao12 y1213.length co12)) (fun _ hk => hk.2) (.int .i64 t1216)) (fun _ hk => hk.2) (.slice Ao11 t1217.length co11)) (fun _ hk => trivial), by (with_reducible repeat (first | apply Kd.R_alloc | apply Kd.R_drewN | apply Kd.R_drew)); exact Kd.R_mono (Kd.R_far (p := ⟨gb1209, 4, none⟩) (Kd.R_far (p := ⟨gb1209, 3, none⟩) (Kd.R_far (p := ⟨gb1209, 2, none⟩) (Kd.R_far (p := ⟨gb1209, 1, none⟩) (Kd.R_far (p := ⟨gb1209, 0, none⟩) (Kd.R_types HO1219.out BK1209.out (by decide)) (fun _ hk => hk.2) (.int .i64 a0_0)) (fun _ hk => hk.2) (.int .i64 a0_1)) (fun _ hk => hk.2) (.slice Ao12 y1213.length co12)) (fun _ hk => hk.2) (.int .i64 t1216)) (fun _ hk => hk.2) (.slice Ao11 t1217.length co11)) (fun _ hk => trivial), tb HB⟩
def impl_copyRes.f (a0_0 : Int) (l0_1 : List Int) : Option (Int × List Int) := (slices_Clone_int_int.f l0_1).bind fun t1295 => (some (a0_0, t1295))
set_option maxHeartbeats 8000000 in
set_option maxRecDepth 100000 in
theorem impl_copyRes.calls (a0_0 : Int) (A0_1 : Option Addr) (c0_1 : Nat) (l0_1 : List Int) (r1 : Int) (r2 : List Int) (w : World) (hr0_1 : Kd.C (Kd.int .i64) w A0_1 l0_1.length l0_1) (hc0_1 : l0_1.length ≤ c0_1) (h : impl_copyRes.f a0_0 l0_1 = some (r1, r2)) :
  Calls Try.prog 141 #[.agg #[.int .i64 a0_0, .slice A0_1 l0_1.length c0_1]] w fun e w' => ∃ v1_ : Value, e = .returned (.agg #[.int .i64 r1, v1_]) ∧ Kd.R (Kd.int .i64) 3 w' w.heap.size (fun _ => True) v1_ r2 ∧ Below w.heap.size w w' := by
 have hu70 := Try.underlying70
 have HR0_1 := Aside0.mk hr0_1
 have HC0_1 := Aside0.mk hc0_1
 clear hr0_1 hc0_1
 have HB := Aside0.mk (Below.refl w.heap.size w)
 have H := h
 clear h
 unfold impl_copyRes.f at H
 obtain ⟨t1295, A2, H⟩ := bn H
 try dsimp only at H
 simp only [Option.some.injEq, Prod.mk.injEq] at H
 obtain ⟨rfl, rfl⟩ := H
 go_enter Try.func141, Try.ntmps141
 try go_wp2_with (first | ((with_reducible refine gq 1 rfl ?_); refine bx0 HB (N := 1) (t := 70) ?_; clear HB; intro gb1293 w3 BK1293 GE1293 HB) | ((with_reducible refine gq 2 rfl ?_); refine bx1 HB BK1293 (N := 2) (cs := #[.int .i64 0, .slice none 0 0]) (t := 70) ?_; clear HB BK1293; intro gb1294 w4 BK1294 GE1294 HB NB1293_1294 NB1294_1293 BK1293))
 replace BK1293 := bd BK1293
 replace BK1294 := bd BK1294
 replace HB := Aside0.mk (below_drew1 HB.out)
 refine start_ (n := 7) (S := fun w' => cS2 gb1293 (.int .i64 a0_0) (.slice A0_1 l0_1.length c0_1) w') (ds := []) #[false, false, false, false, false, false, false] (by kernel_rfl) rfl rfl (ds2_ BK1293) (fun hHeld => ?_)
 generalize w4.drew = w5 at BK1293 BK1294 HB hHeld ⊢
 refine pu 0 3 ?_; refine pu 2 5 ?_; refine ta 1 4 ?_; refine ta 3 6 ?_
 refine one_ (i := 4) (N := some 7) #[true, true, true, true, true, false, false] rfl rfl (by kernel_rfl) (by decide) (fun K hK => ?_)
 refine gS Try.func158 #[.slice A0_1 l0_1.length c0_1] ?_
 with_reducible refine (slices_Clone_int_int.calls _ _ l0_1 t1295 _ ?side1 ?side2 A2.out).mono ?_
 (case side1 => exact kc HR0_1 HB)
 (case side2 => exact HC0_1.out)
 rintro e w6 ⟨v1296, rfl, ho0, hb⟩
 refine ⟨_, rfl, ?_⟩
 have HO1297 := Aside0.mk (Kd.R_lower ho0 (below_size (tb HB)))
 replace BK1293 := bb BK1293 hb
 replace BK1294 := bb BK1294 hb
 replace HB := bs HB hb
 (try clear hb)
 (try clear hb2)
 (try clear hk)
 (try clear hi)
 (try clear ho0)
 obtain ⟨Ao7, co7, eo7⟩ := Kd.R_slice HO1297.out
 (first | subst eo7 | (injection eo7 with f1_ f2_ f3_; have f4_ := f1_.symm; have f5_ := f3_.symm; clear f1_ f2_ f3_; subst f4_; subst f5_))
 refine hK.out _ _ (ds2_ BK1293) (fun hHeld => ?_)
 clear hK K
 refine nm 7 ?_
 refine pu 5 8 ?_
 refine one_ (i := 6) (N := none) #[true, true, true, true, true, true, true] rfl rfl (by kernel_rfl) (by decide) (fun K hK => ?_)
 have hs8 : w6.cell? ⟨gb1294, 0, none⟩ = some (.int .i64 0) := cz BK1294 0
 have hfs8 := blk_frozen BK1294.out 0
 have hns8_0 := NB1293_1294.out
 have hms8_0 := NB1294_1293.out
 have hs9 : w6.cell? ⟨gb1294, 1, none⟩ = some (.slice none 0 0) := cz BK1294 1
 have hfs9 := blk_frozen BK1294.out 1
 have hns9_0 := NB1293_1294.out
 have hms9_0 := NB1294_1293.out
 refine skip_ (w1 := ?_) (by rfl) rfl ?_ ?_
 rotate_left
 ·go_simp
  rfl
 refine hK.out _ _ ⟨((cell_far (p := ⟨gb1294, _, none⟩) NB1293_1294.out _).trans (((cell_far (p := ⟨gb1294, _, none⟩) NB1293_1294.out _).trans (hHeld.1)))), ((cell_far (p := ⟨gb1294, _, none⟩) NB1293_1294.out _).trans (((cell_far (p := ⟨gb1294, _, none⟩) NB1293_1294.out _).trans (hHeld.2))))⟩ (fun hHeld => ?_)
 clear hK K
 refine done_ (by kernel_rfl) ?_
 try go_wp2
 refine bodyPost_ret (results_cell_row rfl _ _ gb1294 70 #[.int .i64 a0_0, .slice Ao7 t1295.length co7] (0, 0) _ rfl (bfp2 BK1294) Try.underlying70 rfl (by kernel_rfl)) rfl ?_
 exact ⟨_, er, by (with_reducible repeat (first | apply Kd.R_alloc | apply Kd.R_drewN | apply Kd.R_drew)); exact Kd.R_mono (Kd.R_far (p := ⟨gb1294, 1, none⟩) (Kd.R_far (p := ⟨gb1294, 0, none⟩) (Kd.R_types HO1297.out BK1294.out (by decide)) (fun _ hk => hk.2) (.int .i64 a0_0)) (fun _ hk => hk.2) (.slice Ao7 t1295.length co7)) (fun _ hk => trivial), tb HB⟩
end Go.Proofs.Ytopikhjcbcpiaaa.Q
section
namespace Go.Proofs.Ytopikhjcbcpiaaa.Q
open Go.RowKit Go.Proofs.YtopikhjcbcpiaaaW.PrintWords Go.Proofs.YtopikhjcbcpiaaaW.PrintLast Go.Proofs.YtopikhjcbcpiaaaW.PrintMore
set_option linter.unusedVariables false
theorem Sep.perm {b : Nat} {D : Nat → Prop} {W : World} {L L' : List HP} (hp : L.Perm L') (h : Sep b L D W) : Sep b L' D W := by
  induction hp generalizing D with
  | nil => exact h
  | cons A _ ih => obtain ⟨D1, h1, h2, h3⟩ := h; exact ⟨D1, h1, h2, ih h3⟩
  | swap A B L => exact h.swap
  | trans _ _ ih1 ih2 => exact ih2 (ih1 h)
theorem St.perm {w0 w W : World} {P : Nat → Prop} {L L' : List HP} (hp : L.Perm L') (h : St w0 w P L W) : St w0 w P L' W := ⟨h.sep.perm hp, h.below, h.kept, h.le⟩
theorem St.mem {w0 w W : World} {P : Nat → Prop} {L : List HP} {A : HP} (h : St w0 w P L W) (hA : A ∈ L) : ∃ D, A D W := by
  obtain ⟨i, hi⟩ := List.getElem?_of_mem hA
  exact h.nth i hi
def hE : HP := fun _ _ => True
section
variable {P : Program} {ops : Array Oper} {Q : Exit → Act → World → Prop} {md : Region.Mode} {S : World → Prop}
end
end Go.Proofs.Ytopikhjcbcpiaaa.Q
end
namespace Go.Proofs.Ytopikhjcbcpiaaa.Q
open Go.RowKit Go.Proofs.YtopikhjcbcpiaaaW.PrintWords Go.Proofs.YtopikhjcbcpiaaaW.PrintLast Go.Proofs.YtopikhjcbcpiaaaW.PrintMore
attribute [local go_sem] max2_int min2_int max_two min_two max_three min_three max_four min_four   -- for this text's walks alone
set_option linter.unusedVariables false
set_option linter.unusedSimpArgs false
def laws_markRes.f (k : Nat) (a0_0 : Int) (l0_1 : List Int) (a1 : Int) : Option (Int × List Int) := (laws_markIntS.f k l0_1 a1).bind fun bt648 => (some (bt648.1, bt648.2))
set_option maxHeartbeats 8000000 in
set_option maxRecDepth 100000 in
theorem laws_markRes.calls (k : Nat) (a0_0 : Int) (P0_1_ : Nat → Prop) (u9000_ : Value) (l0_1 : List Int) (a1 : Int) (r1 : Int) (r2 : List Int) (w0 w : World) (hB : Below w0.heap.size w0 w) (ho0_1 : Kd.R (Kd.int .i64) 3 w w0.heap.size P0_1_ u9000_ l0_1) (h : laws_markRes.f k a0_0 l0_1 a1 = some (r1, r2)) :
  Calls Try.prog 42 #[.agg #[.int .i64 a0_0, u9000_], .int .i64 a1] w fun e w' => e = .returned (.int .i64 r1) ∧ Kd.R (Kd.int .i64) 3 w' w0.heap.size (fun k_ => (P0_1_ k_ ∨ w.heap.size ≤ k_)) u9000_ r2 ∧ Below w0.heap.size w0 w' ∧ Kept w w' (fun k_ => P0_1_ k_) := by
 have hu70 := Try.underlying70
 have HO0_1 := Aside0.mk (show Kd.R (Kd.int .i64) 3 w w0.heap.size (fun k_ => (P0_1_ k_ ∨ w.heap.size ≤ k_)) u9000_ l0_1 from Kd.R_mono ho0_1 (fun k_ hk => (.inl hk)))
 have HK := Aside0.mk (Kept.refl w (fun k_ => P0_1_ k_))
 have HW0 := Aside0.mk hB.size
 have HB := Aside0.mk hB
 clear hB
 have H := h
 clear h
 unfold laws_markRes.f at H
 obtain ⟨⟨t648, t649⟩, A3, H⟩ := bn H
 try dsimp only at H
 simp only [Option.some.injEq, Prod.mk.injEq] at H
 obtain ⟨rfl, rfl⟩ := H
 obtain ⟨Ao4, co4, eo4⟩ := Kd.R_slice HO0_1.out
 subst eo4
 go_enter Try.func42, Try.ntmps42
 go_wp2_with (first | ((with_reducible refine gq 2 rfl ?_); refine bx (N := 2) (cs := #[.int .i64 a0_0, .slice Ao4 l0_1.length co4]) (t := 70) ?_; intro gb647 hg w5 hbox hb; replace HO0_1 := rb HO0_1 hb; have BK647 := Aside0.mk (hbox); have GW647 := Aside0.mk ((by rw [hg]; exact (by first | exact HK.out.1 | exact (show Kept w _ (fun k_ => P0_1_ k_) from by repeat (first | (with_reducible first | exact HK.out | apply Kept.alloc | apply Kept.drewN | apply Kept.drew) | exact HK.out)).1) : w.heap.size ≤ gb647)); replace HK := Aside0.mk (Kept.below (S := (fun k_ => P0_1_ k_)) (by repeat (first | (with_reducible first | exact HK.out | apply Kept.alloc | apply Kept.drewN | apply Kept.drew) | exact HK.out)) hb); have GE647 := Aside0.mk ((by rw [hg]; exact (below_size (tb HB)) : w0.heap.size ≤ gb647)); replace HB := bs HB hb; clear hb hbox hg; have hz6 := cs2_ BK647) | ((with_reducible refine gf 30 rfl ?_); refine gL 8 Try.func30 #[.slice Ao4 l0_1.length co4, .int .i64 a1] ?_; (with_reducible refine (laws_markIntS.calls k (fun k_ => some k_ = (.slice Ao4 l0_1.length co4 : Value).ownBlock) (.slice Ao4 l0_1.length co4) l0_1 a1 t648 t649 w0 _ ?side1 ?side2 A3.out).mono ?_); (case side1 => repeat (first | (with_reducible first | exact HB.out | apply below_alloc | apply pw_below_drewN | apply below_drew1 | refine below_set ?_ GE647.out) | exact HB.out)); (case side2 => exact Kd.R_tight rfl HO0_1.out); rintro e w7 ⟨rfl, hy0, hb, hkp⟩; refine ⟨_, rfl, ?_⟩; replace BK647 := Aside0.mk (blk_kept (bk BK647) hkp (fun hs_ => (fun e_ => (Kd.R_ne HO0_1.out BK647.out (by decide)) e_) hs_)); replace HK := Aside0.mk (Kept.then_ (S := (fun k_ => P0_1_ k_)) (by repeat (first | (with_reducible first | exact HK.out | apply Kept.alloc | apply Kept.drewN | apply Kept.drew | refine Kept.setCell ?_ (.inr GW647.out) _) | exact HK.out)) hkp (fun k_ hs_ => (fun e_ => (HO0_1.out.1 k_ e_.symm)) hs_)); replace HO0_1 := Aside0.mk (Kd.R_reok rfl hy0 (fun k_ e_ => HO0_1.out.1 k_ e_)); replace HB := Aside0.mk (hb); (try clear hb); (try clear hkp); (try clear hy0)))
 go_ret
 exact ⟨er, kr HO0_1.out, tb HB, by repeat (first | (with_reducible first | exact HK.out | apply Kept.alloc | apply Kept.drewN | apply Kept.drew | refine Kept.setCell ?_ (.inr GW647.out) _) | exact HK.out)⟩
end Go.Proofs.Ytopikhjcbcpiaaa.Q
