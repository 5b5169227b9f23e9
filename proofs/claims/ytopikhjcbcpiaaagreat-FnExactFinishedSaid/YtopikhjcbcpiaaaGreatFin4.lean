/- Part 4 of the steps by which the law is shown: what each function of the program, of the reference and of the law computes. No condition. -/
import Derived.Test.YtopikhjcbcpiaaaGreatFin0
import Derived.Test.YtopikhjcbcpiaaaGreatFin1
import Derived.Test.YtopikhjcbcpiaaaGreatFin2
namespace Go.Proofs.YtopikhjcbcpiaaaGreat.Q
open Go.RowKit Go.Proofs.YtopikhjcbcpiaaaGreatW.PrintWords Go.Proofs.YtopikhjcbcpiaaaGreatW.PrintLast Go.Proofs.YtopikhjcbcpiaaaGreatW.PrintMore
attribute [local go_sem] max2_int min2_int max_two min_two max_three min_three max_four min_four   -- for this text's walks alone
set_option linter.unusedVariables false
set_option linter.unusedSimpArgs false
mutual
def spec_DescOk.j0 : Nat → Bool → Int → Int → List (S37) → Int → List Int → Option (Bool)
 | 0, _, _, _, _, _, _ => none
 | k + 1, x45, x153000, x153001, x153002, x153003, x153004 => if x45 = true then (some false) else (spec_DescOk.l0 k 0 x153000 x153001 x153002 x153003 x153004)
def spec_DescOk.l0 : Nat → Int → Int → Int → List (S37) → Int → List Int → Option (Bool)
 | 0, _, _, _, _, _, _ => none
 | k + 1, x3, x153000, x153001, x153002, x153003, x153004 => if x3 < (x153002.length : Int) then (if 0 ≤ x3 then ((spec_l1In.f ((rd_T37 x153002 x3).f0) 0 19).bind fun t157 => (if t157 = true then ((spec_l1In.f ((rd_T37 x153002 x3).f1) 0 1000).bind fun t158 => (if t158 = true then ((spec_l1In.f ((rd_T37 x153002 x3).f2) 0 1000).bind fun t159 => (if t159 = true then (if x3 > 0 then (if 0 ≤ (wrap64 (x3 - 1)) then (if (wrap64 (x3 - 1)) < (x153002.length : Int) then (if ((rd_T37 x153002 (wrap64 (x3 - 1))).f0) ≥ ((rd_T37 x153002 x3).f0) then (some false) else (spec_DescOk.l0 k (wrap64 (x3 + 1)) x153000 x153001 x153002 x153003 x153004)) else (none)) else (none)) else (spec_DescOk.l0 k (wrap64 (x3 + 1)) x153000 x153001 x153002 x153003 x153004)) else (some false))) else (some false))) else (some false))) else (none)) else (some true)
end
def spec_DescOk.f (k : Nat) (a0_0 : Int) (a0_1 : Int) (l0_2 : List (S37)) (a0_3 : Int) (l0_4 : List Int) : Option (Bool) := if a0_0 = 0 then (if a0_1 = 0 then (if (l0_2.length : Int) = 0 then (if a0_3 = 0 then (some ((l0_4.length : Int) == 0)) else (some false)) else (some false)) else (some false)) else ((spec_l1In.f a0_0 1 1000000).bind fun t153 => (if t153 = true then ((spec_l1In.f a0_1 1 3).bind fun t154 => (if t154 = true then (spec_DescOk.j0 k (decide ((l0_2.length : Int) > 20)) a0_0 a0_1 l0_2 a0_3 l0_4) else (spec_DescOk.j0 k true a0_0 a0_1 l0_2 a0_3 l0_4))) else (spec_DescOk.j0 k true a0_0 a0_1 l0_2 a0_3 l0_4)))
def spec_DescOk.T9 : Bool × List (List Nat × List Nat) := (true, [([], []), ([0], [0]), ([1], [1]), ([2], [2]), ([3, 2], [3]), ([4], [4]), ([5, 4], [4, 5]), ([6, 4, 4], [4, 6]), ([7, 4], [4, 7]), ([4, 8], [4, 8]), ([9, 7], [9]), ([10], [10]), ([11, 10], [10, 11]), ([12, 10, 10], [10, 12]), ([13, 10], [10, 13]), ([10, 14], [10, 14]), ([15, 13], [15]), ([16], [16]), ([17, 16], [16, 17]), ([18, 16, 16], [16, 18]), ([19], [19]), ([20, 19], [19, 20]), ([19], [19]), ([22, 19], [19, 22]), ([21, 23, 19], [19, 21, 23]), ([24, 19], [19, 24]), ([25, 19], [19, 25]), ([19], [19]), ([27, 19], [19, 27]), ([26, 28, 19], [19, 26, 28]), ([19, 29, 16], [16, 19, 29]), ([16, 30], [16, 30])])
def spec_DescOk.B9 : List Nat := [0, 1, 3, 7, 15, 31, 63, 127, 255, 511, 1023, 2047, 4095, 8191, 16383, 32767, 65535, 131071, 262143, 524287, 1048575, 2097151, 1048575, 5242879, 16777215, 33554431, 67108863, 1048575, 135266303, 536870911, 1073741823, 2147483647]
theorem spec_DescOk.tab9 : rtab .any (opsOf Tryz.f125 9) = spec_DescOk.T9 := by kernel_rfl
theorem spec_DescOk.bits9 : waitsOk spec_DescOk.T9.2 spec_DescOk.B9 = true := by kernel_rfl
set_option maxHeartbeats 8000000 in
set_option maxRecDepth 100000 in
theorem spec_DescOk.calls (k : Nat) (a0_0 : Int) (a0_1 : Int) (A0_2 : Option Addr) (c0_2 : Nat) (l0_2 : List (S37)) (a0_3 : Int) (A0_4 : Option Addr) (c0_4 : Nat) (l0_4 : List Int) (r : Bool) (w : World) (hr0_2 : Kd.C k37 w A0_2 l0_2.length l0_2) (hc0_2 : l0_2.length ≤ c0_2) (hr0_4 : Kd.C (Kd.int .i64) w A0_4 l0_4.length l0_4) (hc0_4 : l0_4.length ≤ c0_4) (h : spec_DescOk.f k a0_0 a0_1 l0_2 a0_3 l0_4 = some r) :
  Calls Tryz.prog 125 #[.agg #[.int .i64 a0_0, .int .i64 a0_1, .slice A0_2 l0_2.length c0_2, .int .i64 a0_3, .slice A0_4 l0_4.length c0_4]] w fun e w' => e = .returned (.bool r) ∧ Below w.heap.size w w' := by
 have hu52 := Tryz.underlying52
 have hu37 := Tryz.underlying37
 have HR0_2 := Aside0.mk hr0_2
 have HC0_2 := Aside0.mk hc0_2
 clear hr0_2 hc0_2
 have HR0_4 := Aside0.mk hr0_4
 have HC0_4 := Aside0.mk hc0_4
 clear hr0_4 hc0_4
 have HB := Aside0.mk (Below.refl w.heap.size w)
 have H := h
 clear h
 unfold spec_DescOk.f at H
 by_cases c2 : a0_0 = 0
 case pos =>
  rw [if_pos c2] at H
  have c2b0 : (a0_0 == 0) = true := beq_iff_eq.mpr c2
  have c2b1 : (a0_0 != 0) = false := bne_eq_false_iff_eq.mpr c2
  clear c2
  by_cases c3 : a0_1 = 0
  case neg =>
   rw [if_neg c3] at H
   have c3b0 : (a0_1 == 0) = false := beq_eq_false_iff_ne.mpr c3
   have c3b1 : (a0_1 != 0) = true := bne_iff_ne.mpr c3
   obtain rfl := oin H
   go_enter Tryz.func125, Tryz.ntmps125
   go_wp2_with (first | ((with_reducible refine gq 1 rfl ?_); (try (refine gate_guard (by rfl) ?_; dsimp only)); refine bx0 HB (N := 1) (t := 52) ?_; clear HB; intro gb152 w12 BK152 GE152 HB; have hz13 := cs5_ BK152))
   go_ret
   exact ⟨er, tb HB⟩
  rw [if_pos c3] at H
  have c3b0 : (a0_1 == 0) = true := beq_iff_eq.mpr c3
  have c3b1 : (a0_1 != 0) = false := bne_eq_false_iff_eq.mpr c3
  clear c3
  by_cases c4 : (l0_2.length : Int) = 0
  case neg =>
   rw [if_neg c4] at H
   have c4b0 : ((l0_2.length : Int) == 0) = false := beq_eq_false_iff_ne.mpr c4
   have c4b1 : ((l0_2.length : Int) != 0) = true := bne_iff_ne.mpr c4
   have c4b2 : ¬ (l0_2 = []) := fun h_ => c4 (by rw [h_]; rfl)
   obtain rfl := oin H
   go_enter Tryz.func125, Tryz.ntmps125
   go_wp2_with (first | ((with_reducible refine gq 1 rfl ?_); (try (refine gate_guard (by rfl) ?_; dsimp only)); refine bx0 HB (N := 1) (t := 52) ?_; clear HB; intro gb152 w10 BK152 GE152 HB; have hz11 := cs5_ BK152))
   go_ret
   exact ⟨er, tb HB⟩
  rw [if_pos c4] at H
  have c4b0 : ((l0_2.length : Int) == 0) = true := beq_iff_eq.mpr c4
  have c4b1 : ((l0_2.length : Int) != 0) = false := bne_eq_false_iff_eq.mpr c4
  clear c4
  by_cases c5 : a0_3 = 0
  case neg =>
   rw [if_neg c5] at H
   have c5b0 : (a0_3 == 0) = false := beq_eq_false_iff_ne.mpr c5
   have c5b1 : (a0_3 != 0) = true := bne_iff_ne.mpr c5
   obtain rfl := oin H
   go_enter Tryz.func125, Tryz.ntmps125
   go_wp2_with (first | ((with_reducible refine gq 1 rfl ?_); (try (refine gate_guard (by rfl) ?_; dsimp only)); refine bx0 HB (N := 1) (t := 52) ?_; clear HB; intro gb152 w8 BK152 GE152 HB; have hz9 := cs5_ BK152))
   go_ret
   exact ⟨er, tb HB⟩
  rw [if_pos c5] at H
  have c5b0 : (a0_3 == 0) = true := beq_iff_eq.mpr c5
  have c5b1 : (a0_3 != 0) = false := bne_eq_false_iff_eq.mpr c5
  clear c5
  obtain rfl := oin H
  go_enter Tryz.func125, Tryz.ntmps125
  go_wp2_with (first | ((with_reducible refine gq 1 rfl ?_); (try (refine gate_guard (by rfl) ?_; dsimp only)); refine bx0 HB (N := 1) (t := 52) ?_; clear HB; intro gb152 w6 BK152 GE152 HB; have hz7 := cs5_ BK152))
  go_ret
  exact ⟨er, tb HB⟩
 rw [if_neg c2] at H
 have c2b0 : (a0_0 == 0) = false := beq_eq_false_iff_ne.mpr c2
 have c2b1 : (a0_0 != 0) = true := bne_iff_ne.mpr c2
 have HC14 := Aside0.mk H
 clear H
 go_enter Tryz.func125, Tryz.ntmps125
 go_upto_region 3 with (first | ((with_reducible refine gq 1 rfl ?_); (try (refine gate_guard (by rfl) ?_; dsimp only)); refine bx0 HB (N := 1) (t := 52) ?_; clear HB; intro gb152 w15 BK152 GE152 HB; have hz16 := cs5_ BK152))
 (try simp only [Act.put, sA, sB, sC])
 go_cut [45] (fun v45 wc => ∃ (kq : Nat) (x45_13 : Bool), v45 = .bool x45_13 ∧ Aside0 (spec_DescOk.j0 kq x45_13 a0_0 a0_1 l0_2 a0_3 l0_4 = some r) ∧ Aside0 (kq ≤ k) ∧ Aside0 (wc.heap[gb152]? = some (.cells #[.int .i64 a0_0, .int .i64 a0_1, (.slice A0_2 l0_2.length c0_2), .int .i64 a0_3, (.slice A0_4 l0_4.length c0_4)] 52 (0, 0))) ∧ Aside0 (Below w.heap.size w wc))
 case first =>
  have H := HC14.out
  clear HC14
  obtain ⟨t153, A17, H⟩ := bn H
  try dsimp only at H
  cases t153
  case false =>
   replace H := ipf H
   have H' := Aside0.mk H
   clear H
   have hz23 := cs5_ BK152
   go_wp2_with (first | ((with_reducible refine gf 70 rfl ?_); refine gL 32 Tryz.func70 #[.int .i64 a0_0, .int .i64 1, .int .i64 1000000] ?_; (with_reducible refine (spec_l1In.calls a0_0 1 1000000 false _ A17.out).mono ?_); rintro e w' ⟨rfl, ⟨nd, rfl⟩⟩; refine ⟨_, rfl, ?_⟩))
   go_meet
   case rel => exact ⟨_, (true), rsd, H', ⟨by first | omega | exact Nat.le_refl _⟩, ⟨by (with_reducible repeat (first | refine blk_drewN ?_ _ | refine blk_drew ?_ | refine blk_alloc ?_ _)); exact BK152.out⟩, ⟨tb HB⟩⟩
  replace H := ipt H
  obtain ⟨t154, A19, H⟩ := bn H
  try dsimp only at H
  cases t154
  case true =>
   replace H := ipt H
   have H' := Aside0.mk H
   clear H
   have hz21 := cs5_ BK152
   go_wp2_with (first | ((with_reducible refine gf 70 rfl ?_); refine gL 32 Tryz.func70 #[.int .i64 a0_0, .int .i64 1, .int .i64 1000000] ?_; (with_reducible refine (spec_l1In.calls a0_0 1 1000000 true _ A17.out).mono ?_); rintro e w' ⟨rfl, ⟨nd, rfl⟩⟩; refine ⟨_, rfl, ?_⟩) | (go_at_call 70; (with_reducible refine (spec_l1In.calls a0_1 1 3 true _ A19.out).mono ?_); rintro e w' ⟨rfl, ⟨nd, rfl⟩⟩))
   go_meet
   case rel => exact ⟨_, (decide ((l0_2.length : Int) > 20)), rsd, H', ⟨by first | omega | exact Nat.le_refl _⟩, ⟨by (with_reducible repeat (first | refine blk_drewN ?_ _ | refine blk_drew ?_ | refine blk_alloc ?_ _)); exact BK152.out⟩, ⟨tb HB⟩⟩
  replace H := ipf H
  have H' := Aside0.mk H
  clear H
  have hz22 := cs5_ BK152
  go_wp2_with (first | ((with_reducible refine gf 70 rfl ?_); refine gL 32 Tryz.func70 #[.int .i64 a0_0, .int .i64 1, .int .i64 1000000] ?_; (with_reducible refine (spec_l1In.calls a0_0 1 1000000 true _ A17.out).mono ?_); rintro e w' ⟨rfl, ⟨nd, rfl⟩⟩; refine ⟨_, rfl, ?_⟩) | (go_at_call 70; (with_reducible refine (spec_l1In.calls a0_1 1 3 false _ A19.out).mono ?_); rintro e w' ⟨rfl, ⟨nd, rfl⟩⟩))
  go_meet
  case rel => exact ⟨_, (true), rsd, H', ⟨by first | omega | exact Nat.le_refl _⟩, ⟨by (with_reducible repeat (first | refine blk_drewN ?_ _ | refine blk_drew ?_ | refine blk_alloc ?_ _)); exact BK152.out⟩, ⟨tb HB⟩⟩
 case rest =>
  clear HC14
  obtain ⟨kq, x45_13, rfl, HA, HJ13, BK152, HB⟩ := hcut
  cases kq with
  | zero => exact absurd HA.out (by simp [spec_DescOk.j0])
  | succ kj13 =>
   have H := HA.out
   clear HA
   simp only [spec_DescOk.j0] at H
   cases x45_13
   case true =>
    replace H := ipt H
    obtain rfl := oin H
    go_wp2
    go_ret
    exact ⟨er, tb HB⟩
   replace H := ipf H
   have H' := Aside0.mk H
   clear H
   go_wp2
   go_loopg [3] kj13 (fun kq v3 w' => ∃ (x3_2 : Int), v3 = .int .i64 x3_2 ∧ Aside0 (spec_DescOk.l0 kq x3_2 a0_0 a0_1 l0_2 a0_3 l0_4 = some r) ∧ Aside0 (kq ≤ kj13) ∧ Aside0 (w'.heap[gb152]? = some (.cells #[.int .i64 a0_0, .int .i64 a0_1, (.slice A0_2 l0_2.length c0_2), .int .i64 a0_3, (.slice A0_4 l0_4.length c0_4)] 52 (0, 0))) ∧ Aside0 (Below w.heap.size w w'))
   case atStart => exact ⟨(0), rsd, H', ⟨Nat.le_refl _⟩, ⟨by (with_reducible repeat (first | refine blk_drewN ?_ _ | refine blk_drew ?_ | refine blk_alloc ?_ _)); exact BK152.out⟩, ⟨tb HB⟩⟩
   case round =>
    clear H'
    obtain ⟨x3_2, rfl, HA, HK2, BK152, HB⟩ := hrel
    cases gk with
    | zero => exact absurd HA.out (by simp [spec_DescOk.l0])
    | succ k2 =>
     have H := HA.out
     clear HA
     simp only [spec_DescOk.l0] at H
     revert H; refine icd (fun c25b0 H => ?_) fun c25b0 H => ?neg
     case neg =>
      obtain rfl := oin H
      have hz74 := cs5_ BK152
      go_wp2
      go_ret
      exact ⟨er, tb HB⟩
     obtain ⟨c26b0, H⟩ := itd H
     obtain ⟨t157, A27, H⟩ := bn H
     try dsimp only at H
     cases t157
     case false =>
      replace H := ipf H
      obtain rfl := oin H
      have hz68 := cs5_ BK152
      have p155 : 0 ≤ (x3_2 : Int) := od
      have q155 : x3_2 < (l0_2.length : Int) := od
      obtain ⟨ad155, e155, hx155⟩ := att37 HR0_2.out x3_2 p155 q155
      cases e155
      replace hx155 := ox3 HB hx155
      replace p155 := eq_true p155
      replace q155 := eq_true q155
      try go_wp2_with (first | ((with_reducible refine gq 4 rfl ?_); (try (refine gate_guard (by rfl) ?_; dsimp only)); refine bx1 HB BK152 (N := 4) (cs := #[.int .i64 0, .int .i64 0, .int .i64 0]) (t := 37) ?_; clear HB BK152; intro gb156 w69 BK156 GE156 HB NB152_156 NB156_152 BK152; have hnb70 := NB156_152.out; have hnc70 := NB152_156.out; have hz71 := cs3_ BK156))
      have n0_ : Aside0 ((((w69.setCell ⟨gb156, 0, none⟩ (.int .i64 ((rd_T37 l0_2 x3_2).f0))).setCell ⟨gb156, 1, none⟩ (.int .i64 ((rd_T37 l0_2 x3_2).f1))).setCell ⟨gb156, 2, none⟩ (.int .i64 ((rd_T37 l0_2 x3_2).f2))).heap[gb152]? = some (.cells #[.int .i64 a0_0, .int .i64 a0_1, .slice (some ad155) l0_2.length c0_2, .int .i64 a0_3, .slice A0_4 l0_4.length c0_4] 52 (0, 0))) := ⟨bf BK152⟩
      have n1_ : Aside0 ((((w69.setCell ⟨gb156, 0, none⟩ (.int .i64 ((rd_T37 l0_2 x3_2).f0))).setCell ⟨gb156, 1, none⟩ (.int .i64 ((rd_T37 l0_2 x3_2).f1))).setCell ⟨gb156, 2, none⟩ (.int .i64 ((rd_T37 l0_2 x3_2).f2))).heap[gb156]? = some (.cells #[.int .i64 ((rd_T37 l0_2 x3_2).f0), .int .i64 ((rd_T37 l0_2 x3_2).f1), .int .i64 ((rd_T37 l0_2 x3_2).f2)] 37 (0, 0))) := ⟨bfp3 BK156⟩
      have n2_ : Aside0 (Below w.heap.size w (((w69.setCell ⟨gb156, 0, none⟩ (.int .i64 ((rd_T37 l0_2 x3_2).f0))).setCell ⟨gb156, 1, none⟩ (.int .i64 ((rd_T37 l0_2 x3_2).f1))).setCell ⟨gb156, 2, none⟩ (.int .i64 ((rd_T37 l0_2 x3_2).f2)))) := ⟨tb HB⟩
      (try clear BK152)
      (try clear BK156)
      (try clear HB)
      generalize (((w69.setCell ⟨gb156, 0, none⟩ (.int .i64 ((rd_T37 l0_2 x3_2).f0))).setCell ⟨gb156, 1, none⟩ (.int .i64 ((rd_T37 l0_2 x3_2).f1))).setCell ⟨gb156, 2, none⟩ (.int .i64 ((rd_T37 l0_2 x3_2).f2))) = w72 at n0_ n1_ n2_ ⊢
      have BK152 := n0_
      have BK156 := n1_
      have HB := n2_
      clear n0_ n1_ n2_
      replace BK152 := bd BK152
      replace BK156 := bd BK156
      replace HB := Aside0.mk (below_drew1 HB.out)
      refine start_ (n := 32) (S := fun w' => cS3 gb156 (.int .i64 ((rd_T37 l0_2 x3_2).f0)) (.int .i64 ((rd_T37 l0_2 x3_2).f1)) (.int .i64 ((rd_T37 l0_2 x3_2).f2)) w') (ds := []) #[false, false, false, false, false, false, false, false, false, false, false, false, false, false, false, false, false, false, false, false, false, false, false, false, false, false, false, false, false, false, false, false] (by kernel_rfl) rfl rfl (ds3_ BK156) (fun hHeld => ?_); refine with_tabW spec_DescOk.tab9 spec_DescOk.bits9 (fun HT_ HW_ => ?_)
      generalize w72.drew = w73 at BK152 BK156 HB hHeld ⊢
      refine pu 0 58 ?_; refine ta 1 59 ?_
      refine on1 2 (some 60) (fun K hK => ?_)
      refine gS Tryz.func70 #[.int .i64 ((rd_T37 l0_2 x3_2).f0), .int .i64 0, .int .i64 19] ?_
      with_reducible refine (spec_l1In.calls ((rd_T37 l0_2 x3_2).f0) 0 19 false _ A27.out).mono ?_
      rintro e w' ⟨rfl, ⟨nd, rfl⟩⟩
      refine ⟨_, rfl, ?_⟩
      refine hK.out _ _ (ds3_ BK156) (fun hHeld => ?_)
      clear hK K
      refine nm 60 ?_
      refine pu 3 61 ?_; refine pu 4 62 ?_; refine pn 5 63 ?_; refine pn 6 64 ?_; refine pn 7 65 ?_; refine pn 8 66 ?_; refine pu 9 67 ?_; refine pu 10 68 ?_; refine pn 11 69 ?_; refine pn 12 70 ?_; refine pn 13 71 ?_; refine pn 14 72 ?_
      refine pu 15 73 ?_; refine pu 16 74 ?_; refine pn 17 75 ?_; refine pn 18 76 ?_; refine pn 19 77 ?_; refine pn 20 78 ?_; refine pn 21 79 ?_; refine pn 22 80 ?_; refine pn 23 81 ?_; refine pn 24 82 ?_; refine pn 25 83 ?_; refine pn 26 84 ?_
      refine pn 27 85 ?_; refine pn 28 86 ?_; refine pn 29 87 ?_; refine pn 30 88 ?_; refine pu 31 89 ?_
      refine done_ (done_of HT_.out (by kernel_rfl)) ?_
      try go_wp2
      go_ret
      exact ⟨er, tb HB⟩
     replace H := ipt H
     obtain ⟨t158, A29, H⟩ := bn H
     try dsimp only at H
     cases t158
     case false =>
      replace H := ipf H
      obtain rfl := oin H
      have hz62 := cs5_ BK152
      have p155 : 0 ≤ (x3_2 : Int) := od
      have q155 : x3_2 < (l0_2.length : Int) := od
      obtain ⟨ad155, e155, hx155_0, hx155_1, hx155_2⟩ := at_T37 HR0_2.out x3_2 p155 q155
      cases e155
      replace hx155_0 := ox HB hx155_0
      replace hx155_1 := ox HB hx155_1
      replace hx155_2 := ox HB hx155_2
      replace p155 := eq_true p155
      replace q155 := eq_true q155
      try go_wp2_with (first | ((with_reducible refine gq 4 rfl ?_); (try (refine gate_guard (by rfl) ?_; dsimp only)); refine bx1 HB BK152 (N := 4) (cs := #[.int .i64 0, .int .i64 0, .int .i64 0]) (t := 37) ?_; clear HB BK152; intro gb156 w63 BK156 GE156 HB NB152_156 NB156_152 BK152; have hnb64 := NB156_152.out; have hnc64 := NB152_156.out; have hz65 := cs3_ BK156))
      have n0_ : Aside0 ((((w63.setCell ⟨gb156, 0, none⟩ (.int .i64 ((rd_T37 l0_2 x3_2).f0))).setCell ⟨gb156, 1, none⟩ (.int .i64 ((rd_T37 l0_2 x3_2).f1))).setCell ⟨gb156, 2, none⟩ (.int .i64 ((rd_T37 l0_2 x3_2).f2))).heap[gb152]? = some (.cells #[.int .i64 a0_0, .int .i64 a0_1, .slice (some ad155) l0_2.length c0_2, .int .i64 a0_3, .slice A0_4 l0_4.length c0_4] 52 (0, 0))) := ⟨bf BK152⟩
      have n1_ : Aside0 ((((w63.setCell ⟨gb156, 0, none⟩ (.int .i64 ((rd_T37 l0_2 x3_2).f0))).setCell ⟨gb156, 1, none⟩ (.int .i64 ((rd_T37 l0_2 x3_2).f1))).setCell ⟨gb156, 2, none⟩ (.int .i64 ((rd_T37 l0_2 x3_2).f2))).heap[gb156]? = some (.cells #[.int .i64 ((rd_T37 l0_2 x3_2).f0), .int .i64 ((rd_T37 l0_2 x3_2).f1), .int .i64 ((rd_T37 l0_2 x3_2).f2)] 37 (0, 0))) := ⟨bfp3 BK156⟩
      have n2_ : Aside0 (Below w.heap.size w (((w63.setCell ⟨gb156, 0, none⟩ (.int .i64 ((rd_T37 l0_2 x3_2).f0))).setCell ⟨gb156, 1, none⟩ (.int .i64 ((rd_T37 l0_2 x3_2).f1))).setCell ⟨gb156, 2, none⟩ (.int .i64 ((rd_T37 l0_2 x3_2).f2)))) := ⟨tb HB⟩
      (try clear BK152)
      (try clear BK156)
      (try clear HB)
      generalize (((w63.setCell ⟨gb156, 0, none⟩ (.int .i64 ((rd_T37 l0_2 x3_2).f0))).setCell ⟨gb156, 1, none⟩ (.int .i64 ((rd_T37 l0_2 x3_2).f1))).setCell ⟨gb156, 2, none⟩ (.int .i64 ((rd_T37 l0_2 x3_2).f2))) = w66 at n0_ n1_ n2_ ⊢
      have BK152 := n0_
      have BK156 := n1_
      have HB := n2_
      clear n0_ n1_ n2_
      replace BK152 := bd BK152
      replace BK156 := bd BK156
      replace HB := Aside0.mk (below_drew1 HB.out)
      refine start_ (n := 32) (S := fun w' => cS3 gb156 (.int .i64 ((rd_T37 l0_2 x3_2).f0)) (.int .i64 ((rd_T37 l0_2 x3_2).f1)) (.int .i64 ((rd_T37 l0_2 x3_2).f2)) w') (ds := []) #[false, false, false, false, false, false, false, false, false, false, false, false, false, false, false, false, false, false, false, false, false, false, false, false, false, false, false, false, false, false, false, false] (by kernel_rfl) rfl rfl (ds3_ BK156) (fun hHeld => ?_); refine with_tabW spec_DescOk.tab9 spec_DescOk.bits9 (fun HT_ HW_ => ?_)
      generalize w66.drew = w67 at BK152 BK156 HB hHeld ⊢
      refine pu 0 58 ?_; refine ta 1 59 ?_
      refine on1 2 (some 60) (fun K hK => ?_)
      refine gS Tryz.func70 #[.int .i64 ((rd_T37 l0_2 x3_2).f0), .int .i64 0, .int .i64 19] ?_
      with_reducible refine (spec_l1In.calls ((rd_T37 l0_2 x3_2).f0) 0 19 true _ A27.out).mono ?_
      rintro e w' ⟨rfl, ⟨nd, rfl⟩⟩
      refine ⟨_, rfl, ?_⟩
      refine hK.out _ _ (ds3_ BK156) (fun hHeld => ?_)
      clear hK K
      refine nm 60 ?_
      refine pu 3 61 ?_; refine pu 4 62 ?_; refine pu 5 63 ?_; refine ta 6 64 ?_
      refine on1 7 (some 65) (fun K hK => ?_)
      refine gS Tryz.func70 #[.int .i64 ((rd_T37 l0_2 x3_2).f1), .int .i64 0, .int .i64 1000] ?_
      with_reducible refine (spec_l1In.calls ((rd_T37 l0_2 x3_2).f1) 0 1000 false _ A29.out).mono ?_
      rintro e w' ⟨rfl, ⟨nd, rfl⟩⟩
      refine ⟨_, rfl, ?_⟩
      refine hK.out _ _ (ds3_ BK156) (fun hHeld => ?_)
      clear hK K
      refine nm 65 ?_
      refine pu 8 66 ?_; refine pu 9 67 ?_; refine pu 10 68 ?_; refine pn 11 69 ?_; refine pn 12 70 ?_; refine pn 13 71 ?_; refine pn 14 72 ?_; refine pu 15 73 ?_; refine pu 16 74 ?_; refine pn 17 75 ?_; refine pn 18 76 ?_; refine pn 19 77 ?_
      refine pn 20 78 ?_; refine pn 21 79 ?_; refine pn 22 80 ?_; refine pn 23 81 ?_; refine pn 24 82 ?_; refine pn 25 83 ?_; refine pn 26 84 ?_; refine pn 27 85 ?_; refine pn 28 86 ?_; refine pn 29 87 ?_; refine pn 30 88 ?_; refine pu 31 89 ?_
      refine done_ (done_of HT_.out (by kernel_rfl)) ?_
      try go_wp2
      go_ret
      exact ⟨er, tb HB⟩
     replace H := ipt H
     obtain ⟨t159, A31, H⟩ := bn H
     try dsimp only at H
     cases t159
     case false =>
      replace H := ipf H
      obtain rfl := oin H
      have hz56 := cs5_ BK152
      have p155 : 0 ≤ (x3_2 : Int) := od
      have q155 : x3_2 < (l0_2.length : Int) := od
      obtain ⟨ad155, e155, hx155_0, hx155_1, hx155_2⟩ := at_T37 HR0_2.out x3_2 p155 q155
      cases e155
      replace hx155_0 := ox HB hx155_0
      replace hx155_1 := ox HB hx155_1
      replace hx155_2 := ox HB hx155_2
      replace p155 := eq_true p155
      replace q155 := eq_true q155
      try go_wp2_with (first | ((with_reducible refine gq 4 rfl ?_); (try (refine gate_guard (by rfl) ?_; dsimp only)); refine bx1 HB BK152 (N := 4) (cs := #[.int .i64 0, .int .i64 0, .int .i64 0]) (t := 37) ?_; clear HB BK152; intro gb156 w57 BK156 GE156 HB NB152_156 NB156_152 BK152; have hnb58 := NB156_152.out; have hnc58 := NB152_156.out; have hz59 := cs3_ BK156))
      have n0_ : Aside0 ((((w57.setCell ⟨gb156, 0, none⟩ (.int .i64 ((rd_T37 l0_2 x3_2).f0))).setCell ⟨gb156, 1, none⟩ (.int .i64 ((rd_T37 l0_2 x3_2).f1))).setCell ⟨gb156, 2, none⟩ (.int .i64 ((rd_T37 l0_2 x3_2).f2))).heap[gb152]? = some (.cells #[.int .i64 a0_0, .int .i64 a0_1, .slice (some ad155) l0_2.length c0_2, .int .i64 a0_3, .slice A0_4 l0_4.length c0_4] 52 (0, 0))) := ⟨bf BK152⟩
      have n1_ : Aside0 ((((w57.setCell ⟨gb156, 0, none⟩ (.int .i64 ((rd_T37 l0_2 x3_2).f0))).setCell ⟨gb156, 1, none⟩ (.int .i64 ((rd_T37 l0_2 x3_2).f1))).setCell ⟨gb156, 2, none⟩ (.int .i64 ((rd_T37 l0_2 x3_2).f2))).heap[gb156]? = some (.cells #[.int .i64 ((rd_T37 l0_2 x3_2).f0), .int .i64 ((rd_T37 l0_2 x3_2).f1), .int .i64 ((rd_T37 l0_2 x3_2).f2)] 37 (0, 0))) := ⟨bfp3 BK156⟩
      have n2_ : Aside0 (Below w.heap.size w (((w57.setCell ⟨gb156, 0, none⟩ (.int .i64 ((rd_T37 l0_2 x3_2).f0))).setCell ⟨gb156, 1, none⟩ (.int .i64 ((rd_T37 l0_2 x3_2).f1))).setCell ⟨gb156, 2, none⟩ (.int .i64 ((rd_T37 l0_2 x3_2).f2)))) := ⟨tb HB⟩
      (try clear BK152)
      (try clear BK156)
      (try clear HB)
      generalize (((w57.setCell ⟨gb156, 0, none⟩ (.int .i64 ((rd_T37 l0_2 x3_2).f0))).setCell ⟨gb156, 1, none⟩ (.int .i64 ((rd_T37 l0_2 x3_2).f1))).setCell ⟨gb156, 2, none⟩ (.int .i64 ((rd_T37 l0_2 x3_2).f2))) = w60 at n0_ n1_ n2_ ⊢
      have BK152 := n0_
      have BK156 := n1_
      have HB := n2_
      clear n0_ n1_ n2_
      replace BK152 := bd BK152
      replace BK156 := bd BK156
      replace HB := Aside0.mk (below_drew1 HB.out)
      refine start_ (n := 32) (S := fun w' => cS3 gb156 (.int .i64 ((rd_T37 l0_2 x3_2).f0)) (.int .i64 ((rd_T37 l0_2 x3_2).f1)) (.int .i64 ((rd_T37 l0_2 x3_2).f2)) w') (ds := []) #[false, false, false, false, false, false, false, false, false, false, false, false, false, false, false, false, false, false, false, false, false, false, false, false, false, false, false, false, false, false, false, false] (by kernel_rfl) rfl rfl (ds3_ BK156) (fun hHeld => ?_); refine with_tabW spec_DescOk.tab9 spec_DescOk.bits9 (fun HT_ HW_ => ?_)
      generalize w60.drew = w61 at BK152 BK156 HB hHeld ⊢
      refine pu 0 58 ?_; refine ta 1 59 ?_
      refine on1 2 (some 60) (fun K hK => ?_)
      refine gS Tryz.func70 #[.int .i64 ((rd_T37 l0_2 x3_2).f0), .int .i64 0, .int .i64 19] ?_
      with_reducible refine (spec_l1In.calls ((rd_T37 l0_2 x3_2).f0) 0 19 true _ A27.out).mono ?_
      rintro e w' ⟨rfl, ⟨nd, rfl⟩⟩
      refine ⟨_, rfl, ?_⟩
      refine hK.out _ _ (ds3_ BK156) (fun hHeld => ?_)
      clear hK K
      refine nm 60 ?_
      refine pu 3 61 ?_; refine pu 4 62 ?_; refine pu 5 63 ?_; refine ta 6 64 ?_
      refine on1 7 (some 65) (fun K hK => ?_)
      refine gS Tryz.func70 #[.int .i64 ((rd_T37 l0_2 x3_2).f1), .int .i64 0, .int .i64 1000] ?_
      with_reducible refine (spec_l1In.calls ((rd_T37 l0_2 x3_2).f1) 0 1000 true _ A29.out).mono ?_
      rintro e w' ⟨rfl, ⟨nd, rfl⟩⟩
      refine ⟨_, rfl, ?_⟩
      refine hK.out _ _ (ds3_ BK156) (fun hHeld => ?_)
      clear hK K
      refine nm 65 ?_
      refine pu 8 66 ?_; refine pu 9 67 ?_; refine pu 10 68 ?_; refine pu 11 69 ?_; refine ta 12 70 ?_
      refine on1 13 (some 71) (fun K hK => ?_)
      refine gS Tryz.func70 #[.int .i64 ((rd_T37 l0_2 x3_2).f2), .int .i64 0, .int .i64 1000] ?_
      with_reducible refine (spec_l1In.calls ((rd_T37 l0_2 x3_2).f2) 0 1000 false _ A31.out).mono ?_
      rintro e w' ⟨rfl, ⟨nd, rfl⟩⟩
      refine ⟨_, rfl, ?_⟩
      refine hK.out _ _ (ds3_ BK156) (fun hHeld => ?_)
      clear hK K
      refine nm 71 ?_
      refine pu 14 72 ?_; refine pu 15 73 ?_; refine pu 16 74 ?_; refine pn 17 75 ?_; refine pn 18 76 ?_; refine pn 19 77 ?_; refine pn 20 78 ?_; refine pn 21 79 ?_; refine pn 22 80 ?_; refine pn 23 81 ?_; refine pn 24 82 ?_; refine pn 25 83 ?_
      refine pn 26 84 ?_; refine pn 27 85 ?_; refine pn 28 86 ?_; refine pn 29 87 ?_; refine pn 30 88 ?_; refine pu 31 89 ?_
      refine done_ (done_of HT_.out (by kernel_rfl)) ?_
      try go_wp2
      go_ret
      exact ⟨er, tb HB⟩
     replace H := ipt H
     revert H; refine icd (fun c33b0 H => ?_) fun c33b0 H => ?neg
     case neg =>
      have H' := Aside0.mk H
      clear H
      have hz50 := cs5_ BK152
      have p155 : 0 ≤ (x3_2 : Int) := od
      have q155 : x3_2 < (l0_2.length : Int) := od
      obtain ⟨ad155, e155, hx155_0, hx155_1, hx155_2⟩ := at_T37 HR0_2.out x3_2 p155 q155
      cases e155
      replace hx155_0 := ox HB hx155_0
      replace hx155_1 := ox HB hx155_1
      replace hx155_2 := ox HB hx155_2
      replace p155 := eq_true p155
      replace q155 := eq_true q155
      try go_wp2_with (first | ((with_reducible refine gq 4 rfl ?_); (try (refine gate_guard (by rfl) ?_; dsimp only)); refine bx1 HB BK152 (N := 4) (cs := #[.int .i64 0, .int .i64 0, .int .i64 0]) (t := 37) ?_; clear HB BK152; intro gb156 w51 BK156 GE156 HB NB152_156 NB156_152 BK152; have hnb52 := NB156_152.out; have hnc52 := NB152_156.out; have hz53 := cs3_ BK156))
      have n0_ : Aside0 ((((w51.setCell ⟨gb156, 0, none⟩ (.int .i64 ((rd_T37 l0_2 x3_2).f0))).setCell ⟨gb156, 1, none⟩ (.int .i64 ((rd_T37 l0_2 x3_2).f1))).setCell ⟨gb156, 2, none⟩ (.int .i64 ((rd_T37 l0_2 x3_2).f2))).heap[gb152]? = some (.cells #[.int .i64 a0_0, .int .i64 a0_1, .slice (some ad155) l0_2.length c0_2, .int .i64 a0_3, .slice A0_4 l0_4.length c0_4] 52 (0, 0))) := ⟨bf BK152⟩
      have n1_ : Aside0 ((((w51.setCell ⟨gb156, 0, none⟩ (.int .i64 ((rd_T37 l0_2 x3_2).f0))).setCell ⟨gb156, 1, none⟩ (.int .i64 ((rd_T37 l0_2 x3_2).f1))).setCell ⟨gb156, 2, none⟩ (.int .i64 ((rd_T37 l0_2 x3_2).f2))).heap[gb156]? = some (.cells #[.int .i64 ((rd_T37 l0_2 x3_2).f0), .int .i64 ((rd_T37 l0_2 x3_2).f1), .int .i64 ((rd_T37 l0_2 x3_2).f2)] 37 (0, 0))) := ⟨bfp3 BK156⟩
      have n2_ : Aside0 (Below w.heap.size w (((w51.setCell ⟨gb156, 0, none⟩ (.int .i64 ((rd_T37 l0_2 x3_2).f0))).setCell ⟨gb156, 1, none⟩ (.int .i64 ((rd_T37 l0_2 x3_2).f1))).setCell ⟨gb156, 2, none⟩ (.int .i64 ((rd_T37 l0_2 x3_2).f2)))) := ⟨tb HB⟩
      (try clear BK152)
      (try clear BK156)
      (try clear HB)
      generalize (((w51.setCell ⟨gb156, 0, none⟩ (.int .i64 ((rd_T37 l0_2 x3_2).f0))).setCell ⟨gb156, 1, none⟩ (.int .i64 ((rd_T37 l0_2 x3_2).f1))).setCell ⟨gb156, 2, none⟩ (.int .i64 ((rd_T37 l0_2 x3_2).f2))) = w54 at n0_ n1_ n2_ ⊢
      have BK152 := n0_
      have BK156 := n1_
      have HB := n2_
      clear n0_ n1_ n2_
      replace BK152 := bd BK152
      replace BK156 := bd BK156
      replace HB := Aside0.mk (below_drew1 HB.out)
      refine start_ (n := 32) (S := fun w' => cS3 gb156 (.int .i64 ((rd_T37 l0_2 x3_2).f0)) (.int .i64 ((rd_T37 l0_2 x3_2).f1)) (.int .i64 ((rd_T37 l0_2 x3_2).f2)) w') (ds := []) #[false, false, false, false, false, false, false, false, false, false, false, false, false, false, false, false, false, false, false, false, false, false, false, false, false, false, false, false, false, false, false, false] (by kernel_rfl) rfl rfl (ds3_ BK156) (fun hHeld => ?_); refine with_tabW spec_DescOk.tab9 spec_DescOk.bits9 (fun HT_ HW_ => ?_)
      generalize w54.drew = w55 at BK152 BK156 HB hHeld ⊢
      refine pu 0 58 ?_; refine ta 1 59 ?_
      refine on1 2 (some 60) (fun K hK => ?_)
      refine gS Tryz.func70 #[.int .i64 ((rd_T37 l0_2 x3_2).f0), .int .i64 0, .int .i64 19] ?_
      with_reducible refine (spec_l1In.calls ((rd_T37 l0_2 x3_2).f0) 0 19 true _ A27.out).mono ?_
      rintro e w' ⟨rfl, ⟨nd, rfl⟩⟩
      refine ⟨_, rfl, ?_⟩
      refine hK.out _ _ (ds3_ BK156) (fun hHeld => ?_)
      clear hK K
      refine nm 60 ?_
      refine pu 3 61 ?_; refine pu 4 62 ?_; refine pu 5 63 ?_; refine ta 6 64 ?_
      refine on1 7 (some 65) (fun K hK => ?_)
      refine gS Tryz.func70 #[.int .i64 ((rd_T37 l0_2 x3_2).f1), .int .i64 0, .int .i64 1000] ?_
      with_reducible refine (spec_l1In.calls ((rd_T37 l0_2 x3_2).f1) 0 1000 true _ A29.out).mono ?_
      rintro e w' ⟨rfl, ⟨nd, rfl⟩⟩
      refine ⟨_, rfl, ?_⟩
      refine hK.out _ _ (ds3_ BK156) (fun hHeld => ?_)
      clear hK K
      refine nm 65 ?_
      refine pu 8 66 ?_; refine pu 9 67 ?_; refine pu 10 68 ?_; refine pu 11 69 ?_; refine ta 12 70 ?_
      refine on1 13 (some 71) (fun K hK => ?_)
      refine gS Tryz.func70 #[.int .i64 ((rd_T37 l0_2 x3_2).f2), .int .i64 0, .int .i64 1000] ?_
      with_reducible refine (spec_l1In.calls ((rd_T37 l0_2 x3_2).f2) 0 1000 true _ A31.out).mono ?_
      rintro e w' ⟨rfl, ⟨nd, rfl⟩⟩
      refine ⟨_, rfl, ?_⟩
      refine hK.out _ _ (ds3_ BK156) (fun hHeld => ?_)
      clear hK K
      refine nm 71 ?_
      refine pu 14 72 ?_; refine pu 15 73 ?_; refine pu 16 74 ?_; refine pu 17 75 ?_; refine pu 18 76 ?_; refine pu 19 77 ?_; refine pn 20 78 ?_; refine pn 21 79 ?_; refine pn 22 80 ?_; refine pn 23 81 ?_; refine pn 24 82 ?_; refine pn 25 83 ?_
      refine pn 26 84 ?_; refine pn 27 85 ?_; refine pn 28 86 ?_; refine pn 29 87 ?_; refine pu 30 88 ?_; refine pu 31 89 ?_
      refine done_ (done_of HT_.out (by kernel_rfl)) ?_
      try go_wp2
      go_roundg k2
      case measure => have := HJ13.out; have := HK2.out; omega
      case rel => exact ⟨(wrap64 (x3_2 + 1)), rsd, H', ⟨by have := HJ13.out; have := HK2.out; omega⟩, ⟨by (with_reducible repeat (first | refine blk_drewN ?_ _ | refine blk_drew ?_ | refine blk_alloc ?_ _)); exact BK152.out⟩, ⟨tb HB⟩⟩
     obtain ⟨ji34, hji34⟩ : ∃ j_ : Int, (wrap64 (x3_2 - 1)) = j_ := ⟨_, rfl⟩
     replace H : (if 0 ≤ (ji34) then (if (ji34) < (l0_2.length : Int) then (if ((rd_T37 l0_2 (ji34)).f0) ≥ ((rd_T37 l0_2 x3_2).f0) then (some false) else (spec_DescOk.l0 k2 (wrap64 (x3_2 + 1)) a0_0 a0_1 l0_2 a0_3 l0_4)) else (none)) else (none)) = some r := by first | (rw [hji34] at H; exact H) | (simp only [hji34] at H ⊢; exact H)
     (try rw [hji34] at A27)
     (try rw [hji34] at A29)
     (try rw [hji34] at A31)
     have hji34w : (IntKind.i64.wrap (x3_2 - 1)) = ji34 := (i64_w _).trans hji34
     obtain ⟨c35b0, H⟩ := itd H
     obtain ⟨c36b0, H⟩ := itd H
     revert H; refine icd (fun c37b0 H => ?pos) fun c37b0 H => ?_
     case pos =>
      obtain rfl := oin H
      have hz38 := cs5_ BK152
      have p155 : 0 ≤ (x3_2 : Int) := od
      have q155 : x3_2 < (l0_2.length : Int) := od
      obtain ⟨ad155, e155, hx155_0, hx155_1, hx155_2⟩ := at_T37 HR0_2.out x3_2 p155 q155
      cases e155
      replace hx155_0 := ox HB hx155_0
      replace hx155_1 := ox HB hx155_1
      replace hx155_2 := ox HB hx155_2
      replace p155 := eq_true p155
      replace q155 := eq_true q155
      try go_wp2_with (first | ((with_reducible refine gq 4 rfl ?_); (try (refine gate_guard (by rfl) ?_; dsimp only)); refine bx1 HB BK152 (N := 4) (cs := #[.int .i64 0, .int .i64 0, .int .i64 0]) (t := 37) ?_; clear HB BK152; intro gb156 w39 BK156 GE156 HB NB152_156 NB156_152 BK152; have hnb40 := NB156_152.out; have hnc40 := NB152_156.out; have hz41 := cs3_ BK156))
      have n0_ : Aside0 ((((w39.setCell ⟨gb156, 0, none⟩ (.int .i64 ((rd_T37 l0_2 x3_2).f0))).setCell ⟨gb156, 1, none⟩ (.int .i64 ((rd_T37 l0_2 x3_2).f1))).setCell ⟨gb156, 2, none⟩ (.int .i64 ((rd_T37 l0_2 x3_2).f2))).heap[gb152]? = some (.cells #[.int .i64 a0_0, .int .i64 a0_1, .slice (some ad155) l0_2.length c0_2, .int .i64 a0_3, .slice A0_4 l0_4.length c0_4] 52 (0, 0))) := ⟨bf BK152⟩
      have n1_ : Aside0 ((((w39.setCell ⟨gb156, 0, none⟩ (.int .i64 ((rd_T37 l0_2 x3_2).f0))).setCell ⟨gb156, 1, none⟩ (.int .i64 ((rd_T37 l0_2 x3_2).f1))).setCell ⟨gb156, 2, none⟩ (.int .i64 ((rd_T37 l0_2 x3_2).f2))).heap[gb156]? = some (.cells #[.int .i64 ((rd_T37 l0_2 x3_2).f0), .int .i64 ((rd_T37 l0_2 x3_2).f1), .int .i64 ((rd_T37 l0_2 x3_2).f2)] 37 (0, 0))) := ⟨bfp3 BK156⟩
      have n2_ : Aside0 (Below w.heap.size w (((w39.setCell ⟨gb156, 0, none⟩ (.int .i64 ((rd_T37 l0_2 x3_2).f0))).setCell ⟨gb156, 1, none⟩ (.int .i64 ((rd_T37 l0_2 x3_2).f1))).setCell ⟨gb156, 2, none⟩ (.int .i64 ((rd_T37 l0_2 x3_2).f2)))) := ⟨tb HB⟩
      (try clear BK152)
      (try clear BK156)
      (try clear HB)
      generalize (((w39.setCell ⟨gb156, 0, none⟩ (.int .i64 ((rd_T37 l0_2 x3_2).f0))).setCell ⟨gb156, 1, none⟩ (.int .i64 ((rd_T37 l0_2 x3_2).f1))).setCell ⟨gb156, 2, none⟩ (.int .i64 ((rd_T37 l0_2 x3_2).f2))) = w42 at n0_ n1_ n2_ ⊢
      have BK152 := n0_
      have BK156 := n1_
      have HB := n2_
      clear n0_ n1_ n2_
      replace BK152 := bd BK152
      replace BK156 := bd BK156
      replace HB := Aside0.mk (below_drew1 HB.out)
      have p160 : 0 ≤ ((ji34) : Int) := od
      have q160 : (ji34) < (l0_2.length : Int) := od
      obtain ⟨ad160, e160, hx160⟩ := att37 HR0_2.out (ji34) p160 q160
      have hw160 := hx160
      obtain rfl : ad155 = ad160 := (by injection e160)
      replace hx160 := ox3 HB hx160
      replace p160 := eq_true p160
      replace q160 := eq_true q160
      refine start_ (n := 32) (S := fun w' => cS3 gb156 (.int .i64 ((rd_T37 l0_2 x3_2).f0)) (.int .i64 ((rd_T37 l0_2 x3_2).f1)) (.int .i64 ((rd_T37 l0_2 x3_2).f2)) w' ∧ cS5 gb152 (.int .i64 a0_0) (.int .i64 a0_1) (.slice (some ad155) l0_2.length c0_2) (.int .i64 a0_3) (.slice A0_4 l0_4.length c0_4) w' ∧ eT37 (ad155.add (((ji34)).toNat * 3)) (rd_T37 l0_2 (ji34)) w') (ds := []) #[false, false, false, false, false, false, false, false, false, false, false, false, false, false, false, false, false, false, false, false, false, false, false, false, false, false, false, false, false, false, false, false] (by kernel_rfl) rfl rfl ⟨ds3_ BK156, ds5_ BK152, (ox3 HB hw160 :)⟩ (fun hHeld => ?_); refine with_tabW spec_DescOk.tab9 spec_DescOk.bits9 (fun HT_ HW_ => ?_)
      generalize w42.drew = w43 at BK152 BK156 HB hx160 hHeld ⊢
      refine pu 0 58 ?_; refine ta 1 59 ?_
      refine on1 2 (some 60) (fun K hK => ?_)
      refine gS Tryz.func70 #[.int .i64 ((rd_T37 l0_2 x3_2).f0), .int .i64 0, .int .i64 19] ?_
      with_reducible refine (spec_l1In.calls ((rd_T37 l0_2 x3_2).f0) 0 19 true _ A27.out).mono ?_
      rintro e w' ⟨rfl, ⟨nd, rfl⟩⟩
      refine ⟨_, rfl, ?_⟩
      refine hK.out _ _ ⟨ds3_ BK156, ds5_ BK152, (ox3 HB hw160 :)⟩ (fun hHeld => ?_)
      clear hK K
      refine nm 60 ?_
      refine pu 3 61 ?_; refine pu 4 62 ?_; refine pu 5 63 ?_; refine ta 6 64 ?_
      refine on1 7 (some 65) (fun K hK => ?_)
      refine gS Tryz.func70 #[.int .i64 ((rd_T37 l0_2 x3_2).f1), .int .i64 0, .int .i64 1000] ?_
      with_reducible refine (spec_l1In.calls ((rd_T37 l0_2 x3_2).f1) 0 1000 true _ A29.out).mono ?_
      rintro e w' ⟨rfl, ⟨nd, rfl⟩⟩
      refine ⟨_, rfl, ?_⟩
      refine hK.out _ _ ⟨ds3_ BK156, ds5_ BK152, (ox3 HB hw160 :)⟩ (fun hHeld => ?_)
      clear hK K
      refine nm 65 ?_
      refine pu 8 66 ?_; refine pu 9 67 ?_; refine pu 10 68 ?_; refine pu 11 69 ?_; refine ta 12 70 ?_
      refine on1 13 (some 71) (fun K hK => ?_)
      refine gS Tryz.func70 #[.int .i64 ((rd_T37 l0_2 x3_2).f2), .int .i64 0, .int .i64 1000] ?_
      with_reducible refine (spec_l1In.calls ((rd_T37 l0_2 x3_2).f2) 0 1000 true _ A31.out).mono ?_
      rintro e w' ⟨rfl, ⟨nd, rfl⟩⟩
      refine ⟨_, rfl, ?_⟩
      refine hK.out _ _ ⟨ds3_ BK156, ds5_ BK152, (ox3 HB hw160 :)⟩ (fun hHeld => ?_)
      clear hK K
      refine nm 71 ?_
      refine pu 14 72 ?_; refine pu 15 73 ?_; refine pu 16 74 ?_; refine pu 17 75 ?_; refine pu 18 76 ?_; refine pu 19 77 ?_; refine pu 20 78 ?_; refine pu 22 80 ?_; refine pu 23 81 ?_; refine pu 27 85 ?_; refine ta 21 79 ?_; refine pu 24 82 ?_
      refine pu 25 83 ?_; refine ta 26 84 ?_; refine ta 28 86 ?_; refine pu 29 87 ?_; refine pu 30 88 ?_; refine pu 31 89 ?_
      refine done_ (done_of HT_.out (by kernel_rfl)) ?_
      try go_wp2
      go_ret
      exact ⟨by first | rfl | (simp [errW_none, errW_some] <;> rfl) | (simp only [← hji34]; first | rfl | (simp [errW_none, errW_some] <;> rfl)) | (simp [*, errW_none, errW_some] <;> rfl), tb HB⟩
     have H' := Aside0.mk H
     clear H
     have hz44 := cs5_ BK152
     have p155 : 0 ≤ (x3_2 : Int) := od
     have q155 : x3_2 < (l0_2.length : Int) := od
     obtain ⟨ad155, e155, hx155_0, hx155_1, hx155_2⟩ := at_T37 HR0_2.out x3_2 p155 q155
     cases e155
     replace hx155_0 := ox HB hx155_0
     replace hx155_1 := ox HB hx155_1
     replace hx155_2 := ox HB hx155_2
     replace p155 := eq_true p155
     replace q155 := eq_true q155
     try go_wp2_with (first | ((with_reducible refine gq 4 rfl ?_); (try (refine gate_guard (by rfl) ?_; dsimp only)); refine bx1 HB BK152 (N := 4) (cs := #[.int .i64 0, .int .i64 0, .int .i64 0]) (t := 37) ?_; clear HB BK152; intro gb156 w45 BK156 GE156 HB NB152_156 NB156_152 BK152; have hnb46 := NB156_152.out; have hnc46 := NB152_156.out; have hz47 := cs3_ BK156))
     have n0_ : Aside0 ((((w45.setCell ⟨gb156, 0, none⟩ (.int .i64 ((rd_T37 l0_2 x3_2).f0))).setCell ⟨gb156, 1, none⟩ (.int .i64 ((rd_T37 l0_2 x3_2).f1))).setCell ⟨gb156, 2, none⟩ (.int .i64 ((rd_T37 l0_2 x3_2).f2))).heap[gb152]? = some (.cells #[.int .i64 a0_0, .int .i64 a0_1, .slice (some ad155) l0_2.length c0_2, .int .i64 a0_3, .slice A0_4 l0_4.length c0_4] 52 (0, 0))) := ⟨bf BK152⟩
     have n1_ : Aside0 ((((w45.setCell ⟨gb156, 0, none⟩ (.int .i64 ((rd_T37 l0_2 x3_2).f0))).setCell ⟨gb156, 1, none⟩ (.int .i64 ((rd_T37 l0_2 x3_2).f1))).setCell ⟨gb156, 2, none⟩ (.int .i64 ((rd_T37 l0_2 x3_2).f2))).heap[gb156]? = some (.cells #[.int .i64 ((rd_T37 l0_2 x3_2).f0), .int .i64 ((rd_T37 l0_2 x3_2).f1), .int .i64 ((rd_T37 l0_2 x3_2).f2)] 37 (0, 0))) := ⟨bfp3 BK156⟩
     have n2_ : Aside0 (Below w.heap.size w (((w45.setCell ⟨gb156, 0, none⟩ (.int .i64 ((rd_T37 l0_2 x3_2).f0))).setCell ⟨gb156, 1, none⟩ (.int .i64 ((rd_T37 l0_2 x3_2).f1))).setCell ⟨gb156, 2, none⟩ (.int .i64 ((rd_T37 l0_2 x3_2).f2)))) := ⟨tb HB⟩
     (try clear BK152)
     (try clear BK156)
     (try clear HB)
     generalize (((w45.setCell ⟨gb156, 0, none⟩ (.int .i64 ((rd_T37 l0_2 x3_2).f0))).setCell ⟨gb156, 1, none⟩ (.int .i64 ((rd_T37 l0_2 x3_2).f1))).setCell ⟨gb156, 2, none⟩ (.int .i64 ((rd_T37 l0_2 x3_2).f2))) = w48 at n0_ n1_ n2_ ⊢
     have BK152 := n0_
     have BK156 := n1_
     have HB := n2_
     clear n0_ n1_ n2_
     replace BK152 := bd BK152
     replace BK156 := bd BK156
     replace HB := Aside0.mk (below_drew1 HB.out)
     have p160 : 0 ≤ ((ji34) : Int) := od
     have q160 : (ji34) < (l0_2.length : Int) := od
     obtain ⟨ad160, e160, hx160⟩ := att37 HR0_2.out (ji34) p160 q160
     have hw160 := hx160
     obtain rfl : ad155 = ad160 := (by injection e160)
     replace hx160 := ox3 HB hx160
     replace p160 := eq_true p160
     replace q160 := eq_true q160
     refine start_ (n := 32) (S := fun w' => cS3 gb156 (.int .i64 ((rd_T37 l0_2 x3_2).f0)) (.int .i64 ((rd_T37 l0_2 x3_2).f1)) (.int .i64 ((rd_T37 l0_2 x3_2).f2)) w' ∧ cS5 gb152 (.int .i64 a0_0) (.int .i64 a0_1) (.slice (some ad155) l0_2.length c0_2) (.int .i64 a0_3) (.slice A0_4 l0_4.length c0_4) w' ∧ eT37 (ad155.add (((ji34)).toNat * 3)) (rd_T37 l0_2 (ji34)) w') (ds := []) #[false, false, false, false, false, false, false, false, false, false, false, false, false, false, false, false, false, false, false, false, false, false, false, false, false, false, false, false, false, false, false, false] (by kernel_rfl) rfl rfl ⟨ds3_ BK156, ds5_ BK152, (ox3 HB hw160 :)⟩ (fun hHeld => ?_); refine with_tabW spec_DescOk.tab9 spec_DescOk.bits9 (fun HT_ HW_ => ?_)
     generalize w48.drew = w49 at BK152 BK156 HB hx160 hHeld ⊢
     refine pu 0 58 ?_; refine ta 1 59 ?_
     refine on1 2 (some 60) (fun K hK => ?_)
     refine gS Tryz.func70 #[.int .i64 ((rd_T37 l0_2 x3_2).f0), .int .i64 0, .int .i64 19] ?_
     with_reducible refine (spec_l1In.calls ((rd_T37 l0_2 x3_2).f0) 0 19 true _ A27.out).mono ?_
     rintro e w' ⟨rfl, ⟨nd, rfl⟩⟩
     refine ⟨_, rfl, ?_⟩
     refine hK.out _ _ ⟨ds3_ BK156, ds5_ BK152, (ox3 HB hw160 :)⟩ (fun hHeld => ?_)
     clear hK K
     refine nm 60 ?_
     refine pu 3 61 ?_; refine pu 4 62 ?_; refine pu 5 63 ?_; refine ta 6 64 ?_
     refine on1 7 (some 65) (fun K hK => ?_)
     refine gS Tryz.func70 #[.int .i64 ((rd_T37 l0_2 x3_2).f1), .int .i64 0, .int .i64 1000] ?_
     with_reducible refine (spec_l1In.calls ((rd_T37 l0_2 x3_2).f1) 0 1000 true _ A29.out).mono ?_
     rintro e w' ⟨rfl, ⟨nd, rfl⟩⟩
     refine ⟨_, rfl, ?_⟩
     refine hK.out _ _ ⟨ds3_ BK156, ds5_ BK152, (ox3 HB hw160 :)⟩ (fun hHeld => ?_)
     clear hK K
     refine nm 65 ?_
     refine pu 8 66 ?_; refine pu 9 67 ?_; refine pu 10 68 ?_; refine pu 11 69 ?_; refine ta 12 70 ?_
     refine on1 13 (some 71) (fun K hK => ?_)
     refine gS Tryz.func70 #[.int .i64 ((rd_T37 l0_2 x3_2).f2), .int .i64 0, .int .i64 1000] ?_
     with_reducible refine (spec_l1In.calls ((rd_T37 l0_2 x3_2).f2) 0 1000 true _ A31.out).mono ?_
     rintro e w' ⟨rfl, ⟨nd, rfl⟩⟩
     refine ⟨_, rfl, ?_⟩
     refine hK.out _ _ ⟨ds3_ BK156, ds5_ BK152, (ox3 HB hw160 :)⟩ (fun hHeld => ?_)
     clear hK K
     refine nm 71 ?_
     refine pu 14 72 ?_; refine pu 15 73 ?_; refine pu 16 74 ?_; refine pu 17 75 ?_; refine pu 18 76 ?_; refine pu 19 77 ?_; refine pu 20 78 ?_; refine pu 22 80 ?_; refine pu 23 81 ?_; refine pu 27 85 ?_; refine ta 21 79 ?_; refine pu 24 82 ?_
     refine pu 25 83 ?_; refine ta 26 84 ?_; refine ta 28 86 ?_; refine pu 29 87 ?_; refine pu 30 88 ?_; refine pu 31 89 ?_
     refine done_ (done_of HT_.out (by kernel_rfl)) ?_
     try go_wp2
     go_roundg k2
     case measure => have := HJ13.out; have := HK2.out; omega
     case rel => exact ⟨(wrap64 (x3_2 + 1)), rsd, H', ⟨by have := HJ13.out; have := HK2.out; omega⟩, ⟨by (with_reducible repeat (first | refine blk_drewN ?_ _ | refine blk_drew ?_ | refine blk_alloc ?_ _)); exact BK152.out⟩, ⟨tb HB⟩⟩
def spec_WordOk.f (a0_0 : Int) (a0_1 : Int) (a0_2 : Int) (a1 : Int) : Option (Bool) := if a0_1 = 0 then (if a0_2 = 0 then ((spec_l1In.f a0_0 0 1000).bind fun t162 => (some t162)) else (some false)) else (if a0_0 = 0 then ((spec_l1In.f a0_1 1 a1).bind fun t163 => (if t163 = true then ((spec_l1In.f a0_2 1 1000000).bind fun t164 => (some t164)) else (some false))) else (some false))
set_option maxHeartbeats 8000000 in
set_option maxRecDepth 100000 in
theorem spec_WordOk.calls (a0_0 : Int) (a0_1 : Int) (a0_2 : Int) (a1 : Int) (r : Bool) (w : World) (h : spec_WordOk.f a0_0 a0_1 a0_2 a1 = some r) :
  Calls Tryz.prog 126 #[.agg #[.int .i64 a0_0, .int .i64 a0_1, .int .i64 a0_2], .int .i64 a1] w fun e w' => e = .returned (.bool r) ∧ Below w.heap.size w w' := by
 have hu39 := Tryz.underlying39
 have HB := Aside0.mk (Below.refl w.heap.size w)
 have H := h
 clear h
 unfold spec_WordOk.f at H
 by_cases c3 : a0_1 = 0
 case pos =>
  rw [if_pos c3] at H
  have c3b0 : (a0_1 == 0) = true := beq_iff_eq.mpr c3
  have c3b1 : (a0_1 != 0) = false := bne_eq_false_iff_eq.mpr c3
  clear c3
  by_cases c4 : a0_2 = 0
  case neg =>
   rw [if_neg c4] at H
   have c4b0 : (a0_2 == 0) = false := beq_eq_false_iff_ne.mpr c4
   have c4b1 : (a0_2 != 0) = true := bne_iff_ne.mpr c4
   obtain rfl := oin H
   go_enter Tryz.func126, Tryz.ntmps126
   go_wp2_with (first | ((with_reducible refine gq 2 rfl ?_); refine bx0 HB (N := 2) (t := 39) ?_; clear HB; intro gb161 w8 BK161 GE161 HB; have hz9 := cs3_ BK161))
   go_ret
   exact ⟨er, tb HB⟩
  rw [if_pos c4] at H
  have c4b0 : (a0_2 == 0) = true := beq_iff_eq.mpr c4
  have c4b1 : (a0_2 != 0) = false := bne_eq_false_iff_eq.mpr c4
  clear c4
  obtain ⟨t162, A5, H⟩ := bn H
  try dsimp only at H
  obtain rfl := oin H
  go_enter Tryz.func126, Tryz.ntmps126
  go_wp2_with (first | ((with_reducible refine gq 2 rfl ?_); refine bx0 HB (N := 2) (t := 39) ?_; clear HB; intro gb161 w6 BK161 GE161 HB; have hz7 := cs3_ BK161) | (go_at_call 70; (with_reducible refine (spec_l1In.calls a0_0 0 1000 t162 _ A5.out).mono ?_); rintro e w' ⟨rfl, ⟨nd, rfl⟩⟩))
  go_ret
  exact ⟨er, tb HB⟩
 rw [if_neg c3] at H
 have c3b0 : (a0_1 == 0) = false := beq_eq_false_iff_ne.mpr c3
 have c3b1 : (a0_1 != 0) = true := bne_iff_ne.mpr c3
 by_cases c10 : a0_0 = 0
 case neg =>
  rw [if_neg c10] at H
  have c10b0 : (a0_0 == 0) = false := beq_eq_false_iff_ne.mpr c10
  have c10b1 : (a0_0 != 0) = true := bne_iff_ne.mpr c10
  obtain rfl := oin H
  go_enter Tryz.func126, Tryz.ntmps126
  go_wp2_with (first | ((with_reducible refine gq 2 rfl ?_); refine bx0 HB (N := 2) (t := 39) ?_; clear HB; intro gb161 w18 BK161 GE161 HB; have hz19 := cs3_ BK161))
  go_ret
  exact ⟨er, tb HB⟩
 
 
 rw [if_pos c10] at H
 have c10b0 : (a0_0 == 0) = true := beq_iff_eq.mpr c10
 have c10b1 : (a0_0 != 0) = false := bne_eq_false_iff_eq.mpr c10
 clear c10
 obtain ⟨t163, A11, H⟩ := bn H
 try dsimp only at H
 cases t163
 case false =>
  replace H := ipf H
  obtain rfl := oin H
  go_enter Tryz.func126, Tryz.ntmps126
  go_wp2_with (first | ((with_reducible refine gq 2 rfl ?_); refine bx0 HB (N := 2) (t := 39) ?_; clear HB; intro gb161 w16 BK161 GE161 HB; have hz17 := cs3_ BK161) | (go_at_call 70; (with_reducible refine (spec_l1In.calls a0_1 1 a1 false _ A11.out).mono ?_); rintro e w' ⟨rfl, ⟨nd, rfl⟩⟩))
  go_ret
  exact ⟨er, tb HB⟩
 replace H := ipt H
 obtain ⟨t164, A13, H⟩ := bn H
 try dsimp only at H
 obtain rfl := oin H
 go_enter Tryz.func126, Tryz.ntmps126
 go_wp2_with (first | ((with_reducible refine gq 2 rfl ?_); refine bx0 HB (N := 2) (t := 39) ?_; clear HB; intro gb161 w14 BK161 GE161 HB; have hz15 := cs3_ BK161) | (go_at_call 70; (with_reducible refine (spec_l1In.calls a0_1 1 a1 true _ A11.out).mono ?_); rintro e w' ⟨rfl, ⟨nd, rfl⟩⟩) | (go_at_call 70; (with_reducible refine (spec_l1In.calls a0_2 1 1000000 t164 _ A13.out).mono ?_); rintro e w' ⟨rfl, ⟨nd, rfl⟩⟩))
 go_ret
 exact ⟨er, tb HB⟩
attribute [local go_sem high] eqA132
def spec_l9Thread.l0 : Nat → Int → Int → Int → Int → List (S39) → List (S52) → List (S82) → Int → List (S134) → List Int → List Int → Int → List (S132) → Int → Bool → List (S145) → List (S42) → Option (Bool)
 | 0, _, _, _, _, _, _, _, _, _, _, _, _, _, _, _, _, _ => none
 | k + 1, x1, x6, x7, x8, x215000, x215001, x215002, x215003, x215004, x215005, x215006, x215007, x217000, x217001, x217002, x217003, x217004 => if x8 < (x215004.length : Int) then (if 0 ≤ x8 then (if ((rd_T134 x215004 x8).f0) = x1 then (if ((rd_T134 x215004 x8).f4) ≥ 0 then (spec_l9Thread.l0 k x1 x6 (wrap64 (x7 + 1)) (wrap64 (x8 + 1)) x215000 x215001 x215002 x215003 x215004 x215005 x215006 x215007 x217000 x217001 x217002 x217003 x217004) else (if x217002 = true then (if x8 = x6 then (spec_l9Thread.l0 k x1 x6 x7 (wrap64 (x8 + 1)) x215000 x215001 x215002 x215003 x215004 x215005 x215006 x215007 x217000 x217001 x217002 x217003 x217004) else (some false)) else (some false))) else (spec_l9Thread.l0 k x1 x6 x7 (wrap64 (x8 + 1)) x215000 x215001 x215002 x215003 x215004 x215005 x215006 x215007 x217000 x217001 x217002 x217003 x217004)) else (none)) else (if x7 = x217001 then (if x217002 = true then (if x6 ≥ 0 then (if 0 ≤ x6 then (if x6 < (x215004.length : Int) then (if ((rd_T134 x215004 x6).f4) = (-1) then (if 0 ≤ x217001 then (if x217001 < (x217000.length : Int) then (some (((rd_T134 x215004 x6).f1.f0) == ((rd_T132 x217000 x217001).f0) && (((rd_T134 x215004 x6).f1.f1) == ((rd_T132 x217000 x217001).f1) && (((rd_T134 x215004 x6).f1.f2) == ((rd_T132 x217000 x217001).f2))))) else (none)) else (none)) else (some false)) else (none)) else (none)) else (some false)) else (some true)) else (some false))
def spec_l9Thread.f (k : Nat) (l0_0 : List (S39)) (l0_1 : List (S52)) (l0_2 : List (S82)) (a0_3 : Int) (l0_4 : List (S134)) (l0_5 : List Int) (l0_6 : List Int) (a0_7 : Int) (a1 : Int) : Option (Bool) := if 0 ≤ a1 then (if a1 < (l0_2.length : Int) then ((spec_l9Last.f k l0_0 l0_1 l0_2 a0_3 l0_4 l0_5 l0_6 a0_7 a1).bind fun t217 => (spec_l9Thread.l0 k a1 t217 0 0 l0_0 l0_1 l0_2 a0_3 l0_4 l0_5 l0_6 a0_7 ((rd_T82 l0_2 a1).f0) ((rd_T82 l0_2 a1).f1) ((rd_T82 l0_2 a1).f2) ((rd_T82 l0_2 a1).f3) ((rd_T82 l0_2 a1).f4))) else (none)) else (none)
set_option maxHeartbeats 8000000 in
set_option maxRecDepth 100000 in
theorem spec_l9Thread.calls (k : Nat) (A0_0 : Option Addr) (c0_0 : Nat) (l0_0 : List (S39)) (A0_1 : Option Addr) (c0_1 : Nat) (l0_1 : List (S52)) (A0_2 : Option Addr) (c0_2 : Nat) (l0_2 : List (S82)) (a0_3 : Int) (A0_4 : Option Addr) (c0_4 : Nat) (l0_4 : List (S134)) (A0_5 : Option Addr) (c0_5 : Nat) (l0_5 : List Int) (A0_6 : Option Addr) (c0_6 : Nat) (l0_6 : List Int) (a0_7 : Int) (a1 : Int) (r : Bool) (w : World) (hr0_0 : Kd.C k39 w A0_0 l0_0.length l0_0) (hc0_0 : l0_0.length ≤ c0_0) (hr0_1 : Kd.C k52 w A0_1 l0_1.length l0_1) (hc0_1 : l0_1.length ≤ c0_1) (hr0_2 : Kd.C k82 w A0_2 l0_2.length l0_2) (hc0_2 : l0_2.length ≤ c0_2) (hr0_4 : Kd.C k134 w A0_4 l0_4.length l0_4) (hc0_4 : l0_4.length ≤ c0_4) (hr0_5 : Kd.C (Kd.int .i64) w A0_5 l0_5.length l0_5) (hc0_5 : l0_5.length ≤ c0_5) (hr0_6 : Kd.C (Kd.int .i64) w A0_6 l0_6.length l0_6) (hc0_6 : l0_6.length ≤ c0_6) (h : spec_l9Thread.f k l0_0 l0_1 l0_2 a0_3 l0_4 l0_5 l0_6 a0_7 a1 = some r) :
  Calls Tryz.prog 87 #[.agg #[.slice A0_0 l0_0.length c0_0, .slice A0_1 l0_1.length c0_1, .slice A0_2 l0_2.length c0_2, .int .i64 a0_3, .slice A0_4 l0_4.length c0_4, .slice A0_5 l0_5.length c0_5, .slice A0_6 l0_6.length c0_6, .int .i64 a0_7], .int .i64 a1] w fun e w' => e = .returned (.bool r) ∧ Below w.heap.size w w' := by
 have hu75 := Tryz.underlying75
 have hu82 := Tryz.underlying82
 have hu132 := Tryz.underlying132
 have HR0_0 := Aside0.mk hr0_0
 have HC0_0 := Aside0.mk hc0_0
 clear hr0_0 hc0_0
 have HR0_1 := Aside0.mk hr0_1
 have HC0_1 := Aside0.mk hc0_1
 clear hr0_1 hc0_1
 have HR0_2 := Aside0.mk hr0_2
 have HC0_2 := Aside0.mk hc0_2
 clear hr0_2 hc0_2
 have HR0_4 := Aside0.mk hr0_4
 have HC0_4 := Aside0.mk hc0_4
 clear hr0_4 hc0_4
 have HR0_5 := Aside0.mk hr0_5
 have HC0_5 := Aside0.mk hc0_5
 clear hr0_5 hc0_5
 have HR0_6 := Aside0.mk hr0_6
 have HC0_6 := Aside0.mk hc0_6
 clear hr0_6 hc0_6
 have HB := Aside0.mk (Below.refl w.heap.size w)
 have H := h
 clear h
 unfold spec_l9Thread.f at H
 obtain ⟨c3b0, H⟩ := itd H
 obtain ⟨c4b0, H⟩ := itd H
 obtain ⟨t217, A5, H⟩ := bn H
 try dsimp only at H
 have H' := Aside0.mk H
 clear H
 go_enter Tryz.func87, Tryz.ntmps87
 go_wp2_with (first | ((with_reducible refine gq 2 rfl ?_); refine bx0 HB (N := 2) (t := 75) ?_; clear HB; intro gb214 w6 BK214 GE214 HB; have hz7 := cs8_ BK214; have p215 : 0 ≤ (a1 : Int) := od; have q215 : a1 < (l0_2.length : Int) := od; obtain ⟨ad215, A215_0, c215_0, A215_3, c215_3, A215_4, c215_4, e215, hx215_0, hx215_1, hx215_2, hx215_3, hx215_4, hl215_0, hi215_0, hl215_3, hi215_3, hl215_4, hi215_4⟩ := at_T82 HR0_2.out a1 p215 q215; cases e215; replace hx215_0 := ox HB hx215_0; replace hx215_1 := ox HB hx215_1; replace hx215_2 := ox HB hx215_2; replace hx215_3 := ox HB hx215_3; replace hx215_4 := ox HB hx215_4; have HR215_0 := Aside0.mk hi215_0; have HC215_0 := Aside0.mk hl215_0; clear hi215_0 hl215_0; have HR215_3 := Aside0.mk hi215_3; have HC215_3 := Aside0.mk hl215_3; clear hi215_3 hl215_3; have HR215_4 := Aside0.mk hi215_4; have HC215_4 := Aside0.mk hl215_4; clear hi215_4 hl215_4; replace p215 := eq_true p215; replace q215 := eq_true q215) | ((with_reducible refine gq 5 rfl ?_); refine bx1 HB BK214 (N := 5) (cs := #[.slice none 0 0, .int .i64 0, .bool false, .slice none 0 0, .slice none 0 0]) (t := 82) ?_; clear HB BK214; intro gb216 w8 BK216 GE216 HB NB214_216 NB216_214 BK214; have hnb9 := NB216_214.out; have hnc9 := NB214_216.out; have hz10 := cs5_ BK216; have hz11 := cs8_ BK214) | (go_at_call 143; (with_reducible refine (spec_l9Last.calls k _ _ l0_0 _ _ l0_1 _ _ l0_2 a0_3 _ _ l0_4 _ _ l0_5 _ _ l0_6 a0_7 a1 t217 _ ?side1 HC0_0.out ?side3 HC0_1.out ?side5 HC0_2.out ?side7 HC0_4.out ?side9 HC0_5.out ?side11 HC0_6.out A5.out).mono ?_); (case side1 => exact Kd.C_below HR0_0.out (tb HB)); (case side3 => exact Kd.C_below HR0_1.out (tb HB)); (case side5 => exact Kd.C_below HR0_2.out (tb HB)); (case side7 => exact Kd.C_below HR0_4.out (tb HB)); (case side9 => exact Kd.C_below HR0_5.out (tb HB)); (case side11 => exact Kd.C_below HR0_6.out (tb HB)); rintro e w12 ⟨rfl, hb⟩; replace BK214 := bbf BK214 hb; replace BK216 := bbp5 BK216 hb; replace HB := bs HB hb; (try clear hb)))
 repeat (go_quiet (first | ((with_reducible refine gq 2 rfl ?_); refine bx0 HB (N := 2) (t := 75) ?_; clear HB; intro gb214 w6 BK214 GE214 HB; have hz7 := cs8_ BK214; have p215 : 0 ≤ (a1 : Int) := od; have q215 : a1 < (l0_2.length : Int) := od; obtain ⟨ad215, A215_0, c215_0, A215_3, c215_3, A215_4, c215_4, e215, hx215_0, hx215_1, hx215_2, hx215_3, hx215_4, hl215_0, hi215_0, hl215_3, hi215_3, hl215_4, hi215_4⟩ := at_T82 HR0_2.out a1 p215 q215; cases e215; replace hx215_0 := ox HB hx215_0; replace hx215_1 := ox HB hx215_1; replace hx215_2 := ox HB hx215_2; replace hx215_3 := ox HB hx215_3; replace hx215_4 := ox HB hx215_4; have HR215_0 := Aside0.mk hi215_0; have HC215_0 := Aside0.mk hl215_0; clear hi215_0 hl215_0; have HR215_3 := Aside0.mk hi215_3; have HC215_3 := Aside0.mk hl215_3; clear hi215_3 hl215_3; have HR215_4 := Aside0.mk hi215_4; have HC215_4 := Aside0.mk hl215_4; clear hi215_4 hl215_4; replace p215 := eq_true p215; replace q215 := eq_true q215) | ((with_reducible refine gq 5 rfl ?_); refine bx1 HB BK214 (N := 5) (cs := #[.slice none 0 0, .int .i64 0, .bool false, .slice none 0 0, .slice none 0 0]) (t := 82) ?_; clear HB BK214; intro gb216 w8 BK216 GE216 HB NB214_216 NB216_214 BK214; have hnb9 := NB216_214.out; have hnc9 := NB214_216.out; have hz10 := cs5_ BK216; have hz11 := cs8_ BK214) | (go_at_call 143; (with_reducible refine (spec_l9Last.calls k _ _ l0_0 _ _ l0_1 _ _ l0_2 a0_3 _ _ l0_4 _ _ l0_5 _ _ l0_6 a0_7 a1 t217 _ ?side1 HC0_0.out ?side3 HC0_1.out ?side5 HC0_2.out ?side7 HC0_4.out ?side9 HC0_5.out ?side11 HC0_6.out A5.out).mono ?_); (case side1 => exact Kd.C_below HR0_0.out (tb HB)); (case side3 => exact Kd.C_below HR0_1.out (tb HB)); (case side5 => exact Kd.C_below HR0_2.out (tb HB)); (case side7 => exact Kd.C_below HR0_4.out (tb HB)); (case side9 => exact Kd.C_below HR0_5.out (tb HB)); (case side11 => exact Kd.C_below HR0_6.out (tb HB)); rintro e w12 ⟨rfl, hb⟩; replace BK214 := bbf BK214 hb; replace BK216 := bbp5 BK216 hb; replace HB := bs HB hb; (try clear hb))); try go_wp2_with (first | ((with_reducible refine gq 2 rfl ?_); refine bx0 HB (N := 2) (t := 75) ?_; clear HB; intro gb214 w6 BK214 GE214 HB; have hz7 := cs8_ BK214; have p215 : 0 ≤ (a1 : Int) := od; have q215 : a1 < (l0_2.length : Int) := od; obtain ⟨ad215, A215_0, c215_0, A215_3, c215_3, A215_4, c215_4, e215, hx215_0, hx215_1, hx215_2, hx215_3, hx215_4, hl215_0, hi215_0, hl215_3, hi215_3, hl215_4, hi215_4⟩ := at_T82 HR0_2.out a1 p215 q215; cases e215; replace hx215_0 := ox HB hx215_0; replace hx215_1 := ox HB hx215_1; replace hx215_2 := ox HB hx215_2; replace hx215_3 := ox HB hx215_3; replace hx215_4 := ox HB hx215_4; have HR215_0 := Aside0.mk hi215_0; have HC215_0 := Aside0.mk hl215_0; clear hi215_0 hl215_0; have HR215_3 := Aside0.mk hi215_3; have HC215_3 := Aside0.mk hl215_3; clear hi215_3 hl215_3; have HR215_4 := Aside0.mk hi215_4; have HC215_4 := Aside0.mk hl215_4; clear hi215_4 hl215_4; replace p215 := eq_true p215; replace q215 := eq_true q215) | ((with_reducible refine gq 5 rfl ?_); refine bx1 HB BK214 (N := 5) (cs := #[.slice none 0 0, .int .i64 0, .bool false, .slice none 0 0, .slice none 0 0]) (t := 82) ?_; clear HB BK214; intro gb216 w8 BK216 GE216 HB NB214_216 NB216_214 BK214; have hnb9 := NB216_214.out; have hnc9 := NB214_216.out; have hz10 := cs5_ BK216; have hz11 := cs8_ BK214) | (go_at_call 143; (with_reducible refine (spec_l9Last.calls k _ _ l0_0 _ _ l0_1 _ _ l0_2 a0_3 _ _ l0_4 _ _ l0_5 _ _ l0_6 a0_7 a1 t217 _ ?side1 HC0_0.out ?side3 HC0_1.out ?side5 HC0_2.out ?side7 HC0_4.out ?side9 HC0_5.out ?side11 HC0_6.out A5.out).mono ?_); (case side1 => exact Kd.C_below HR0_0.out (tb HB)); (case side3 => exact Kd.C_below HR0_1.out (tb HB)); (case side5 => exact Kd.C_below HR0_2.out (tb HB)); (case side7 => exact Kd.C_below HR0_4.out (tb HB)); (case side9 => exact Kd.C_below HR0_5.out (tb HB)); (case side11 => exact Kd.C_below HR0_6.out (tb HB)); rintro e w12 ⟨rfl, hb⟩; replace BK214 := bbf BK214 hb; replace BK216 := bbp5 BK216 hb; replace HB := bs HB hb; (try clear hb))))
 go_loopg [7, 8] k (fun kq v7 v8 w' => ∃ (x7_1 : Int) (x8_1 : Int), v7 = .int .i64 x7_1 ∧ v8 = .int .i64 x8_1 ∧ Aside0 (spec_l9Thread.l0 kq a1 t217 x7_1 x8_1 l0_0 l0_1 l0_2 a0_3 l0_4 l0_5 l0_6 a0_7 ((rd_T82 l0_2 a1).f0) ((rd_T82 l0_2 a1).f1) ((rd_T82 l0_2 a1).f2) ((rd_T82 l0_2 a1).f3) ((rd_T82 l0_2 a1).f4) = some r) ∧ Aside0 (kq ≤ k) ∧ Aside0 (w'.heap[gb214]? = some (.cells #[(.slice A0_0 l0_0.length c0_0), (.slice A0_1 l0_1.length c0_1), (.slice (some ad215) l0_2.length c0_2), .int .i64 a0_3, (.slice A0_4 l0_4.length c0_4), (.slice A0_5 l0_5.length c0_5), (.slice A0_6 l0_6.length c0_6), .int .i64 a0_7] 75 (0, 0))) ∧ Aside0 (w'.heap[gb216]? = some (.cells #[(.slice A215_0 ((rd_T82 l0_2 a1).f0).length c215_0), .int .i64 ((rd_T82 l0_2 a1).f1), .bool ((rd_T82 l0_2 a1).f2), (.slice A215_3 ((rd_T82 l0_2 a1).f3).length c215_3), (.slice A215_4 ((rd_T82 l0_2 a1).f4).length c215_4)] 82 (0, 0))) ∧ Aside0 (Below w.heap.size w w'))
 case atStart => exact ⟨(0), (0), rsd, rsd, H', ⟨Nat.le_refl _⟩, ⟨by (with_reducible repeat (first | refine blk_drewN ?_ _ | refine blk_drew ?_ | refine blk_alloc ?_ _)); exact BK214.out⟩, ⟨by (with_reducible repeat (first | refine blk_drewN ?_ _ | refine blk_drew ?_ | refine blk_alloc ?_ _)); exact BK216.out⟩, ⟨tb HB⟩⟩
 case round =>
  clear H'
  try clear hx215_0
  try clear hx215_1
  try clear hx215_2
  try clear hx215_3
  try clear hx215_4
  obtain ⟨x7_1, x8_1, rfl, rfl, HA, HK1, BK214, BK216, HB⟩ := hrel
  cases gk with
  | zero => exact absurd HA.out (by simp [spec_l9Thread.l0])
  | succ k1 =>
   have H := HA.out
   clear HA
   simp only [spec_l9Thread.l0] at H
   revert H; refine icd (fun c13b0 H => ?_) fun c13b0 H => ?neg
   case neg =>
    by_cases c32 : x7_1 = ((rd_T82 l0_2 a1).f1)
    case neg =>
     rw [if_neg c32] at H
     have c32b0 : (x7_1 == ((rd_T82 l0_2 a1).f1)) = false := beq_eq_false_iff_ne.mpr c32
     have c32b1 : (x7_1 != ((rd_T82 l0_2 a1).f1)) = true := bne_iff_ne.mpr c32
     obtain rfl := oin H
     have hnb52 := NB214_216.out
     have hnc52 := NB216_214.out
     have hz53 := cs8_ BK214
     have hz54 := cs5_ BK216
     go_wp2
     repeat (go_quiet (fail); try go_wp2)
     go_ret
     exact ⟨er, tb HB⟩
    rw [if_pos c32] at H
    have c32b0 : (x7_1 == ((rd_T82 l0_2 a1).f1)) = true := beq_iff_eq.mpr c32
    have c32b1 : (x7_1 != ((rd_T82 l0_2 a1).f1)) = false := bne_eq_false_iff_eq.mpr c32
    clear c32
    by_cases c33 : ((rd_T82 l0_2 a1).f2) = true
    case neg =>
     rw [if_neg c33] at H
     have c33b0 : ((rd_T82 l0_2 a1).f2) = false := by simpa using c33
     clear c33
     obtain rfl := oin H
     have hnb49 := NB214_216.out
     have hnc49 := NB216_214.out
     have hz50 := cs8_ BK214
     have hz51 := cs5_ BK216
     go_wp2
     repeat (go_quiet (fail); try go_wp2)
     go_ret
     exact ⟨er, tb HB⟩
    rw [if_pos c33] at H
    have C33A := Aside0.mk c33
    clear c33
    revert H; refine icd (fun c34b0 H => ?_) fun c34b0 H => ?neg
    case neg =>
     obtain rfl := oin H
     have hnb46 := NB214_216.out
     have hnc46 := NB216_214.out
     have hz47 := cs8_ BK214
     have hcz48_0 : wr.cell? ⟨gb216, 0, none⟩ = some (.slice A215_0 ((rd_T82 l0_2 a1).f0).length c215_0) := cz BK216 0
     have hcz48_1 : wr.cell? ⟨gb216, 1, none⟩ = some (.int .i64 ((rd_T82 l0_2 a1).f1)) := cz BK216 1
     have hcz48_2 : wr.cell? ⟨gb216, 2, none⟩ = some (.bool true) := by rw [← C33A.out]; exact cz BK216 2
     have hcz48_3 : wr.cell? ⟨gb216, 3, none⟩ = some (.slice A215_3 ((rd_T82 l0_2 a1).f3).length c215_3) := cz BK216 3
     have hcz48_4 : wr.cell? ⟨gb216, 4, none⟩ = some (.slice A215_4 ((rd_T82 l0_2 a1).f4).length c215_4) := cz BK216 4
     have hfz48_0 := blk_frozen BK216.out 0
     have hfz48_1 := blk_frozen BK216.out 1
     have hfz48_2 := blk_frozen BK216.out 2
     have hfz48_3 := blk_frozen BK216.out 3
     have hfz48_4 := blk_frozen BK216.out 4
     go_wp2
     repeat (go_quiet (fail); try go_wp2)
     go_ret
     exact ⟨er, tb HB⟩
    obtain ⟨c35b0, H⟩ := itd H
    obtain ⟨c36b0, H⟩ := itd H
    by_cases c37 : ((rd_T134 l0_4 t217).f4) = (-1)
    case neg =>
     rw [if_neg c37] at H
     have c37b0 : (((rd_T134 l0_4 t217).f4) == (-1)) = false := beq_eq_false_iff_ne.mpr c37
     have c37b1 : (((rd_T134 l0_4 t217).f4) != (-1)) = true := bne_iff_ne.mpr c37
     obtain rfl := oin H
     have hnb43 := NB214_216.out
     have hnc43 := NB216_214.out
     have hz44 := cs8_ BK214
     have hcz45_0 : wr.cell? ⟨gb216, 0, none⟩ = some (.slice A215_0 ((rd_T82 l0_2 a1).f0).length c215_0) := cz BK216 0
     have hcz45_1 : wr.cell? ⟨gb216, 1, none⟩ = some (.int .i64 ((rd_T82 l0_2 a1).f1)) := cz BK216 1
     have hcz45_2 : wr.cell? ⟨gb216, 2, none⟩ = some (.bool true) := by rw [← C33A.out]; exact cz BK216 2
     have hcz45_3 : wr.cell? ⟨gb216, 3, none⟩ = some (.slice A215_3 ((rd_T82 l0_2 a1).f3).length c215_3) := cz BK216 3
     have hcz45_4 : wr.cell? ⟨gb216, 4, none⟩ = some (.slice A215_4 ((rd_T82 l0_2 a1).f4).length c215_4) := cz BK216 4
     have hfz45_0 := blk_frozen BK216.out 0
     have hfz45_1 := blk_frozen BK216.out 1
     have hfz45_2 := blk_frozen BK216.out 2
     have hfz45_3 := blk_frozen BK216.out 3
     have hfz45_4 := blk_frozen BK216.out 4
     have p218 : 0 ≤ (t217 : Int) := od
     have q218 : t217 < (l0_4.length : Int) := od
     obtain ⟨ad218, A218_8, c218_8, e218, hx218, hl218_8, hi218_8⟩ := att134 HR0_4.out t217 p218 q218
     cases e218
     replace hx218 := ox9 HB hx218
     have HR218_8 := Aside0.mk hi218_8
     have HC218_8 := Aside0.mk hl218_8
     clear hi218_8 hl218_8
     replace p218 := eq_true p218
     replace q218 := eq_true q218
     go_wp2
     repeat (go_quiet (fail); try go_wp2)
     go_ret
     exact ⟨er, tb HB⟩
    rw [if_pos c37] at H
    have c37b0 : (((rd_T134 l0_4 t217).f4) == (-1)) = true := beq_iff_eq.mpr c37
    have c37b1 : (((rd_T134 l0_4 t217).f4) != (-1)) = false := bne_eq_false_iff_eq.mpr c37
    clear c37
    obtain ⟨c38b0, H⟩ := itd H
    obtain ⟨c39b0, H⟩ := itd H
    obtain rfl := oin H
    have hnb40 := NB214_216.out
    have hnc40 := NB216_214.out
    have hz41 := cs8_ BK214
    have hcz42_0 : wr.cell? ⟨gb216, 0, none⟩ = some (.slice A215_0 ((rd_T82 l0_2 a1).f0).length c215_0) := cz BK216 0
    have hcz42_1 : wr.cell? ⟨gb216, 1, none⟩ = some (.int .i64 ((rd_T82 l0_2 a1).f1)) := cz BK216 1
    have hcz42_2 : wr.cell? ⟨gb216, 2, none⟩ = some (.bool true) := by rw [← C33A.out]; exact cz BK216 2
    have hcz42_3 : wr.cell? ⟨gb216, 3, none⟩ = some (.slice A215_3 ((rd_T82 l0_2 a1).f3).length c215_3) := cz BK216 3
    have hcz42_4 : wr.cell? ⟨gb216, 4, none⟩ = some (.slice A215_4 ((rd_T82 l0_2 a1).f4).length c215_4) := cz BK216 4
    have hfz42_0 := blk_frozen BK216.out 0
    have hfz42_1 := blk_frozen BK216.out 1
    have hfz42_2 := blk_frozen BK216.out 2
    have hfz42_3 := blk_frozen BK216.out 3
    have hfz42_4 := blk_frozen BK216.out 4
    have p218 : 0 ≤ (t217 : Int) := od
    have q218 : t217 < (l0_4.length : Int) := od
    obtain ⟨ad218, A218_8, c218_8, e218, hx218_0, hx218_1, hx218_2, hx218_3, hx218_4, hx218_5, hx218_6, hx218_7, hx218_8, hl218_8, hi218_8⟩ := at_T134 HR0_4.out t217 p218 q218
    cases e218
    replace hx218_0 := ox HB hx218_0
    replace hx218_1 := ox HB hx218_1
    replace hx218_2 := ox HB hx218_2
    replace hx218_3 := ox HB hx218_3
    replace hx218_4 := ox HB hx218_4
    replace hx218_5 := ox HB hx218_5
    replace hx218_6 := ox HB hx218_6
    replace hx218_7 := ox HB hx218_7
    replace hx218_8 := ox HB hx218_8
    have HR218_8 := Aside0.mk hi218_8
    have HC218_8 := Aside0.mk hl218_8
    clear hi218_8 hl218_8
    replace p218 := eq_true p218
    replace q218 := eq_true q218
    have p219 : 0 ≤ (t217 : Int) := od
    have q219 : t217 < (l0_4.length : Int) := od
    obtain ⟨ad219, A219_8, c219_8, e219, hx219_0, hx219_1, hx219_2, hx219_3, hx219_4, hx219_5, hx219_6, hx219_7, hx219_8, hl219_8, hi219_8⟩ := at_T134 HR0_4.out t217 p219 q219
    obtain rfl : ad218 = ad219 := (by injection e219)
    replace hx219_0 := ox HB hx219_0
    replace hx219_1 := ox HB hx219_1
    replace hx219_2 := ox HB hx219_2
    replace hx219_3 := ox HB hx219_3
    replace hx219_4 := ox HB hx219_4
    replace hx219_5 := ox HB hx219_5
    replace hx219_6 := ox HB hx219_6
    replace hx219_7 := ox HB hx219_7
    replace hx219_8 := ox HB hx219_8
    have HR219_8 := Aside0.mk hi219_8
    have HC219_8 := Aside0.mk hl219_8
    clear hi219_8 hl219_8
    replace p219 := eq_true p219
    replace q219 := eq_true q219
    have ea_ := Option.some.inj (hx218_8.symm.trans hx219_8)
    injection ea_ with ea_ en_ ec_
    subst ea_
    subst ec_
    clear en_
    have p220 : 0 ≤ (((rd_T82 l0_2 a1).f1) : Int) := od
    have q220 : ((rd_T82 l0_2 a1).f1) < (((rd_T82 l0_2 a1).f0).length : Int) := od
    obtain ⟨ad220, e220, hx220⟩ := att132 HR215_0.out ((rd_T82 l0_2 a1).f1) p220 q220
    cases e220
    replace hx220 := ox3 HB hx220
    replace p220 := eq_true p220
    replace q220 := eq_true q220
    go_wp2
    repeat (go_quiet (fail); try go_wp2)
    go_ret
    exact ⟨er, tb HB⟩
   obtain ⟨c14b0, H⟩ := itd H
   by_cases c15 : ((rd_T134 l0_4 x8_1).f0) = a1
   case neg =>
    rw [if_neg c15] at H
    have c15b0 : (((rd_T134 l0_4 x8_1).f0) == a1) = false := beq_eq_false_iff_ne.mpr c15
    have c15b1 : (((rd_T134 l0_4 x8_1).f0) != a1) = true := bne_iff_ne.mpr c15
    have H' := Aside0.mk H
    clear H
    have hnb30 := NB214_216.out
    have hnc30 := NB216_214.out
    have hz31 := cs8_ BK214
    have p221 : 0 ≤ (x8_1 : Int) := od
    have q221 : x8_1 < (l0_4.length : Int) := od
    obtain ⟨ad221, A221_8, c221_8, e221, hx221, hl221_8, hi221_8⟩ := att134 HR0_4.out x8_1 p221 q221
    cases e221
    replace hx221 := ox9 HB hx221
    have HR221_8 := Aside0.mk hi221_8
    have HC221_8 := Aside0.mk hl221_8
    clear hi221_8 hl221_8
    replace p221 := eq_true p221
    replace q221 := eq_true q221
    go_wp2
    repeat (go_quiet (fail); try go_wp2)
    go_roundg k1
    case measure => have := HK1.out; omega
    case rel => exact ⟨(x7_1), (wrap64 (x8_1 + 1)), rsd, rsd, H', ⟨by have := HK1.out; omega⟩, ⟨by (with_reducible repeat (first | refine blk_drewN ?_ _ | refine blk_drew ?_ | refine blk_alloc ?_ _)); exact BK214.out⟩, ⟨by (with_reducible repeat (first | refine blk_drewN ?_ _ | refine blk_drew ?_ | refine blk_alloc ?_ _)); exact BK216.out⟩, ⟨tb HB⟩⟩
   rw [if_pos c15] at H
   have c15b0 : (((rd_T134 l0_4 x8_1).f0) == a1) = true := beq_iff_eq.mpr c15
   have c15b1 : (((rd_T134 l0_4 x8_1).f0) != a1) = false := bne_eq_false_iff_eq.mpr c15
   clear c15
   revert H; refine icd (fun c16b0 H => ?pos) fun c16b0 H => ?_
   case pos =>
    have H' := Aside0.mk H
    clear H
    have hnb17 := NB214_216.out
    have hnc17 := NB216_214.out
    have hz18 := cs8_ BK214
    have p221 : 0 ≤ (x8_1 : Int) := od
    have q221 : x8_1 < (l0_4.length : Int) := od
    obtain ⟨ad221, A221_8, c221_8, e221, hx221_0, hx221_1, hx221_2, hx221_3, hx221_4, hx221_5, hx221_6, hx221_7, hx221_8, hl221_8, hi221_8⟩ := at_T134 HR0_4.out x8_1 p221 q221
    cases e221
    replace hx221_0 := ox HB hx221_0
    replace hx221_1 := ox HB hx221_1
    replace hx221_2 := ox HB hx221_2
    replace hx221_3 := ox HB hx221_3
    replace hx221_4 := ox HB hx221_4
    replace hx221_5 := ox HB hx221_5
    replace hx221_6 := ox HB hx221_6
    replace hx221_7 := ox HB hx221_7
    replace hx221_8 := ox HB hx221_8
    have HR221_8 := Aside0.mk hi221_8
    have HC221_8 := Aside0.mk hl221_8
    clear hi221_8 hl221_8
    replace p221 := eq_true p221
    replace q221 := eq_true q221
    have p222 : 0 ≤ (x8_1 : Int) := od
    have q222 : x8_1 < (l0_4.length : Int) := od
    obtain ⟨ad222, A222_8, c222_8, e222, hx222_0, hx222_1, hx222_2, hx222_3, hx222_4, hx222_5, hx222_6, hx222_7, hx222_8, hl222_8, hi222_8⟩ := at_T134 HR0_4.out x8_1 p222 q222
    obtain rfl : ad221 = ad222 := (by injection e222)
    replace hx222_0 := ox HB hx222_0
    replace hx222_1 := ox HB hx222_1
    replace hx222_2 := ox HB hx222_2
    replace hx222_3 := ox HB hx222_3
    replace hx222_4 := ox HB hx222_4
    replace hx222_5 := ox HB hx222_5
    replace hx222_6 := ox HB hx222_6
    replace hx222_7 := ox HB hx222_7
    replace hx222_8 := ox HB hx222_8
    have HR222_8 := Aside0.mk hi222_8
    have HC222_8 := Aside0.mk hl222_8
    clear hi222_8 hl222_8
    replace p222 := eq_true p222
    replace q222 := eq_true q222
    have ea_ := Option.some.inj (hx221_8.symm.trans hx222_8)
    injection ea_ with ea_ en_ ec_
    subst ea_
    subst ec_
    clear en_
    go_wp2
    repeat (go_quiet (fail); try go_wp2)
    go_roundg k1
    case measure => have := HK1.out; omega
    case rel => exact ⟨(wrap64 (x7_1 + 1)), (wrap64 (x8_1 + 1)), rsd, rsd, H', ⟨by have := HK1.out; omega⟩, ⟨by (with_reducible repeat (first | refine blk_drewN ?_ _ | refine blk_drew ?_ | refine blk_alloc ?_ _)); exact BK214.out⟩, ⟨by (with_reducible repeat (first | refine blk_drewN ?_ _ | refine blk_drew ?_ | refine blk_alloc ?_ _)); exact BK216.out⟩, ⟨tb HB⟩⟩
   by_cases c19 : ((rd_T82 l0_2 a1).f2) = true
   case neg =>
    rw [if_neg c19] at H
    have c19b0 : ((rd_T82 l0_2 a1).f2) = false := by simpa using c19
    clear c19
    obtain rfl := oin H
    have hnb27 := NB214_216.out
    have hnc27 := NB216_214.out
    have hz28 := cs8_ BK214
    have p221 : 0 ≤ (x8_1 : Int) := od
    have q221 : x8_1 < (l0_4.length : Int) := od
    obtain ⟨ad221, A221_8, c221_8, e221, hx221_0, hx221_1, hx221_2, hx221_3, hx221_4, hx221_5, hx221_6, hx221_7, hx221_8, hl221_8, hi221_8⟩ := at_T134 HR0_4.out x8_1 p221 q221
    cases e221
    replace hx221_0 := ox HB hx221_0
    replace hx221_1 := ox HB hx221_1
    replace hx221_2 := ox HB hx221_2
    replace hx221_3 := ox HB hx221_3
    replace hx221_4 := ox HB hx221_4
    replace hx221_5 := ox HB hx221_5
    replace hx221_6 := ox HB hx221_6
    replace hx221_7 := ox HB hx221_7
    replace hx221_8 := ox HB hx221_8
    have HR221_8 := Aside0.mk hi221_8
    have HC221_8 := Aside0.mk hl221_8
    clear hi221_8 hl221_8
    replace p221 := eq_true p221
    replace q221 := eq_true q221
    have p222 : 0 ≤ (x8_1 : Int) := od
    have q222 : x8_1 < (l0_4.length : Int) := od
    obtain ⟨ad222, A222_8, c222_8, e222, hx222_0, hx222_1, hx222_2, hx222_3, hx222_4, hx222_5, hx222_6, hx222_7, hx222_8, hl222_8, hi222_8⟩ := at_T134 HR0_4.out x8_1 p222 q222
    obtain rfl : ad221 = ad222 := (by injection e222)
    replace hx222_0 := ox HB hx222_0
    replace hx222_1 := ox HB hx222_1
    replace hx222_2 := ox HB hx222_2
    replace hx222_3 := ox HB hx222_3
    replace hx222_4 := ox HB hx222_4
    replace hx222_5 := ox HB hx222_5
    replace hx222_6 := ox HB hx222_6
    replace hx222_7 := ox HB hx222_7
    replace hx222_8 := ox HB hx222_8
    have HR222_8 := Aside0.mk hi222_8
    have HC222_8 := Aside0.mk hl222_8
    clear hi222_8 hl222_8
    replace p222 := eq_true p222
    replace q222 := eq_true q222
    have ea_ := Option.some.inj (hx221_8.symm.trans hx222_8)
    injection ea_ with ea_ en_ ec_
    subst ea_
    subst ec_
    clear en_
    have hz29 := cs5_ BK216
    go_wp2
    repeat (go_quiet (fail); try go_wp2)
    go_ret
    exact ⟨er, tb HB⟩
   rw [if_pos c19] at H
   have C19A := Aside0.mk c19
   clear c19
   by_cases c20 : x8_1 = t217
   case neg =>
    rw [if_neg c20] at H
    have c20b0 : (x8_1 == t217) = false := beq_eq_false_iff_ne.mpr c20
    have c20b1 : (x8_1 != t217) = true := bne_iff_ne.mpr c20
    obtain rfl := oin H
    have hnb24 := NB214_216.out
    have hnc24 := NB216_214.out
    have hz25 := cs8_ BK214
    have p221 : 0 ≤ (x8_1 : Int) := od
    have q221 : x8_1 < (l0_4.length : Int) := od
    obtain ⟨ad221, A221_8, c221_8, e221, hx221_0, hx221_1, hx221_2, hx221_3, hx221_4, hx221_5, hx221_6, hx221_7, hx221_8, hl221_8, hi221_8⟩ := at_T134 HR0_4.out x8_1 p221 q221
    cases e221
    replace hx221_0 := ox HB hx221_0
    replace hx221_1 := ox HB hx221_1
    replace hx221_2 := ox HB hx221_2
    replace hx221_3 := ox HB hx221_3
    replace hx221_4 := ox HB hx221_4
    replace hx221_5 := ox HB hx221_5
    replace hx221_6 := ox HB hx221_6
    replace hx221_7 := ox HB hx221_7
    replace hx221_8 := ox HB hx221_8
    have HR221_8 := Aside0.mk hi221_8
    have HC221_8 := Aside0.mk hl221_8
    clear hi221_8 hl221_8
    replace p221 := eq_true p221
    replace q221 := eq_true q221
    have p222 : 0 ≤ (x8_1 : Int) := od
    have q222 : x8_1 < (l0_4.length : Int) := od
    obtain ⟨ad222, A222_8, c222_8, e222, hx222_0, hx222_1, hx222_2, hx222_3, hx222_4, hx222_5, hx222_6, hx222_7, hx222_8, hl222_8, hi222_8⟩ := at_T134 HR0_4.out x8_1 p222 q222
    obtain rfl : ad221 = ad222 := (by injection e222)
    replace hx222_0 := ox HB hx222_0
    replace hx222_1 := ox HB hx222_1
    replace hx222_2 := ox HB hx222_2
    replace hx222_3 := ox HB hx222_3
    replace hx222_4 := ox HB hx222_4
    replace hx222_5 := ox HB hx222_5
    replace hx222_6 := ox HB hx222_6
    replace hx222_7 := ox HB hx222_7
    replace hx222_8 := ox HB hx222_8
    have HR222_8 := Aside0.mk hi222_8
    have HC222_8 := Aside0.mk hl222_8
    clear hi222_8 hl222_8
    replace p222 := eq_true p222
    replace q222 := eq_true q222
    have ea_ := Option.some.inj (hx221_8.symm.trans hx222_8)
    injection ea_ with ea_ en_ ec_
    subst ea_
    subst ec_
    clear en_
    have hcz26_0 : wr.cell? ⟨gb216, 0, none⟩ = some (.slice A215_0 ((rd_T82 l0_2 a1).f0).length c215_0) := cz BK216 0
    have hcz26_1 : wr.cell? ⟨gb216, 1, none⟩ = some (.int .i64 ((rd_T82 l0_2 a1).f1)) := cz BK216 1
    have hcz26_2 : wr.cell? ⟨gb216, 2, none⟩ = some (.bool true) := by rw [← C19A.out]; exact cz BK216 2
    have hcz26_3 : wr.cell? ⟨gb216, 3, none⟩ = some (.slice A215_3 ((rd_T82 l0_2 a1).f3).length c215_3) := cz BK216 3
    have hcz26_4 : wr.cell? ⟨gb216, 4, none⟩ = some (.slice A215_4 ((rd_T82 l0_2 a1).f4).length c215_4) := cz BK216 4
    have hfz26_0 := blk_frozen BK216.out 0
    have hfz26_1 := blk_frozen BK216.out 1
    have hfz26_2 := blk_frozen BK216.out 2
    have hfz26_3 := blk_frozen BK216.out 3
    have hfz26_4 := blk_frozen BK216.out 4
    go_wp2
    repeat (go_quiet (fail); try go_wp2)
    go_ret
    exact ⟨er, tb HB⟩
   rw [if_pos c20] at H
   have c20b0 : (x8_1 == t217) = true := beq_iff_eq.mpr c20
   have c20b1 : (x8_1 != t217) = false := bne_eq_false_iff_eq.mpr c20
   clear c20
   have H' := Aside0.mk H
   clear H
   have hnb21 := NB214_216.out
   have hnc21 := NB216_214.out
   have hz22 := cs8_ BK214
   have p221 : 0 ≤ (x8_1 : Int) := od
   have q221 : x8_1 < (l0_4.length : Int) := od
   obtain ⟨ad221, A221_8, c221_8, e221, hx221_0, hx221_1, hx221_2, hx221_3, hx221_4, hx221_5, hx221_6, hx221_7, hx221_8, hl221_8, hi221_8⟩ := at_T134 HR0_4.out x8_1 p221 q221
   cases e221
   replace hx221_0 := ox HB hx221_0
   replace hx221_1 := ox HB hx221_1
   replace hx221_2 := ox HB hx221_2
   replace hx221_3 := ox HB hx221_3
   replace hx221_4 := ox HB hx221_4
   replace hx221_5 := ox HB hx221_5
   replace hx221_6 := ox HB hx221_6
   replace hx221_7 := ox HB hx221_7
   replace hx221_8 := ox HB hx221_8
   have HR221_8 := Aside0.mk hi221_8
   have HC221_8 := Aside0.mk hl221_8
   clear hi221_8 hl221_8
   replace p221 := eq_true p221
   replace q221 := eq_true q221
   have p222 : 0 ≤ (x8_1 : Int) := od
   have q222 : x8_1 < (l0_4.length : Int) := od
   obtain ⟨ad222, A222_8, c222_8, e222, hx222_0, hx222_1, hx222_2, hx222_3, hx222_4, hx222_5, hx222_6, hx222_7, hx222_8, hl222_8, hi222_8⟩ := at_T134 HR0_4.out x8_1 p222 q222
   obtain rfl : ad221 = ad222 := (by injection e222)
   replace hx222_0 := ox HB hx222_0
   replace hx222_1 := ox HB hx222_1
   replace hx222_2 := ox HB hx222_2
   replace hx222_3 := ox HB hx222_3
   replace hx222_4 := ox HB hx222_4
   replace hx222_5 := ox HB hx222_5
   replace hx222_6 := ox HB hx222_6
   replace hx222_7 := ox HB hx222_7
   replace hx222_8 := ox HB hx222_8
   have HR222_8 := Aside0.mk hi222_8
   have HC222_8 := Aside0.mk hl222_8
   clear hi222_8 hl222_8
   replace p222 := eq_true p222
   replace q222 := eq_true q222
   have ea_ := Option.some.inj (hx221_8.symm.trans hx222_8)
   injection ea_ with ea_ en_ ec_
   subst ea_
   subst ec_
   clear en_
   have hcz23_0 : wr.cell? ⟨gb216, 0, none⟩ = some (.slice A215_0 ((rd_T82 l0_2 a1).f0).length c215_0) := cz BK216 0
   have hcz23_1 : wr.cell? ⟨gb216, 1, none⟩ = some (.int .i64 ((rd_T82 l0_2 a1).f1)) := cz BK216 1
   have hcz23_2 : wr.cell? ⟨gb216, 2, none⟩ = some (.bool true) := by rw [← C19A.out]; exact cz BK216 2
   have hcz23_3 : wr.cell? ⟨gb216, 3, none⟩ = some (.slice A215_3 ((rd_T82 l0_2 a1).f3).length c215_3) := cz BK216 3
   have hcz23_4 : wr.cell? ⟨gb216, 4, none⟩ = some (.slice A215_4 ((rd_T82 l0_2 a1).f4).length c215_4) := cz BK216 4
   have hfz23_0 := blk_frozen BK216.out 0
   have hfz23_1 := blk_frozen BK216.out 1
   have hfz23_2 := blk_frozen BK216.out 2
   have hfz23_3 := blk_frozen BK216.out 3
   have hfz23_4 := blk_frozen BK216.out 4
   go_wp2
   repeat (go_quiet (fail); try go_wp2)
   go_roundg k1
   case measure => have := HK1.out; omega
   case rel => exact ⟨(x7_1), (wrap64 (x8_1 + 1)), rsd, rsd, H', ⟨by have := HK1.out; omega⟩, ⟨by (with_reducible repeat (first | refine blk_drewN ?_ _ | refine blk_drew ?_ | refine blk_alloc ?_ _)); exact BK214.out⟩, ⟨by (with_reducible repeat (first | refine blk_drewN ?_ _ | refine blk_drew ?_ | refine blk_alloc ?_ _)); exact BK216.out⟩, ⟨tb HB⟩⟩
def impl_isWordNum.f (a0 : Int) : Option (Bool) := (impl_from.f a0 0 1000).bind fun t417 => (some t417)
set_option maxHeartbeats 8000000 in
set_option maxRecDepth 100000 in
theorem impl_isWordNum.calls (a0 : Int) (r : Bool) (w : World) (h : impl_isWordNum.f a0 = some r) :
  Calls Tryz.prog 115 #[.int .i64 a0] w fun e w' => e = .returned (.bool r) ∧ Drawn0 w w' := by
 have H := h
 clear h
 unfold impl_isWordNum.f at H
 obtain ⟨t417, A2, H⟩ := bn H
 try dsimp only at H
 obtain rfl := oin H
 go_enter Tryz.func115, Tryz.ntmps115
 go_wp2_with (first | ((with_reducible refine gf 62 rfl ?_); refine gL 4 Tryz.func62 #[.int .i64 a0, .int .i64 0, .int .i64 1000] ?_; (with_reducible refine (impl_from.calls a0 0 1000 t417 _ A2.out).mono ?_); rintro e w' ⟨rfl, ⟨nd, rfl⟩⟩; refine ⟨_, rfl, ?_⟩))
 go_ret
 exact ⟨rsd, by repeat (first | exact Drawn0.refl _ | apply Drawn0.step)⟩
end Go.Proofs.YtopikhjcbcpiaaaGreat.Q
section
namespace Go.Proofs.YtopikhjcbcpiaaaGreat.Q
open Go.RowKit Go.Proofs.YtopikhjcbcpiaaaGreatW.PrintWords Go.Proofs.YtopikhjcbcpiaaaGreatW.PrintLast Go.Proofs.YtopikhjcbcpiaaaGreatW.PrintMore
def impl_ThreadOk_3.f (x0 x1 x2 x3 a1 : Int) : Option Bool := (impl_from.f x0 0 (wrap64 (a1 - 1))).bind fun t1 => if t1 = true then (impl_from.f x1 1 1000000).bind fun t2 => if t2 = true then (impl_from.f x2 0 20).bind fun t3 => if t3 = true then (impl_from.f x3 0 20).bind fun t4 => some (!t4) else some true else some true else some true
set_option maxHeartbeats 4000000 in
set_option maxRecDepth 100000 in
theorem impl_ThreadOk_3_test (g1 : Nat) (x0 x1 x2 x3 a1 : Int) (b : Bool) (w : World) (hg1 : w.heap[g1]? = some (.cells #[.int .i64 a1] 3 (0, 0))) (h : impl_ThreadOk_3.f x0 x1 x2 x3 a1 = some b) :
    Calls Tryz.prog 117 #[.agg #[.int .i64 x0, .int .i64 x1, .int .i64 x2, .int .i64 x3], .pointer (some ⟨g1, 0, none⟩)] w fun e w' => e = .returned (.bool b) ∧ Below w.heap.size w w' := by
  have huE := Tryz.underlying42
  have HG := Aside0.mk hg1
  clear hg1
  unfold impl_ThreadOk_3.f at h
  obtain ⟨t1, e1, h⟩ := Option.bind_eq_some_iff.mp h
  have E1 := Aside0.mk e1
  clear e1
  cases t1 with
  | false =>
    simp only [Bool.false_eq_true, if_false, Option.some.injEq] at h
    subst h
    go_enter Tryz.func117, Tryz.ntmps117
    go_wp2_with (first | ((with_reducible refine gate_dst (N := 2) rfl ?_); refine box_event ?hg (N := 2) ?hd (cs := #[.int .i64 x0, .int .i64 x1, .int .i64 x2, .int .i64 x3]) (t := 42) ?hr ?_; (case hd => rfl); (case hg => rfl); (case hr => first | (go_simp; done) | (go_simp; rfl)); intro gb hg_ w2 hbox hb; have HB := Aside0.mk hb; have hc_ : w2.cell? ⟨g1, 0, none⟩ = some (.int .i64 a1) := (blk_cell (blk_below HG.out hb) 0).trans rfl; have hz0 : w2.cell? ⟨gb, 0, none⟩ = some (.int .i64 x0) := (blk_cell hbox 0).trans rfl; have hz1 : w2.cell? ⟨gb, 1, none⟩ = some (.int .i64 x1) := (blk_cell hbox 1).trans rfl; have hz2 : w2.cell? ⟨gb, 2, none⟩ = some (.int .i64 x2) := (blk_cell hbox 2).trans rfl; have hz3 : w2.cell? ⟨gb, 3, none⟩ = some (.int .i64 x3) := (blk_cell hbox 3).trans rfl; clear hb hg_ hbox) | (go_at_call 62; (with_reducible refine (impl_from.calls x0 0 (wrap64 (a1 - 1)) false _ E1.out).mono ?_); rintro e w' ⟨rfl, ⟨nd, rfl⟩⟩))
    go_ret
    exact ⟨by first | rfl | (simp; done) | (simp [*]; done), by repeat (first | (with_reducible first | exact HB.out | apply below_alloc | apply pw_below_drewN | apply below_drew1) | exact HB.out)⟩
  | true =>
    simp only [if_true] at h
    obtain ⟨t2, e2, h⟩ := Option.bind_eq_some_iff.mp h
    have E2 := Aside0.mk e2
    clear e2
    cases t2 with
    | false =>
      simp only [Bool.false_eq_true, if_false, Option.some.injEq] at h
      subst h
      go_enter Tryz.func117, Tryz.ntmps117
      go_wp2_with (first | ((with_reducible refine gate_dst (N := 2) rfl ?_); refine box_event ?hg (N := 2) ?hd (cs := #[.int .i64 x0, .int .i64 x1, .int .i64 x2, .int .i64 x3]) (t := 42) ?hr ?_; (case hd => rfl); (case hg => rfl); (case hr => first | (go_simp; done) | (go_simp; rfl)); intro gb hg_ w2 hbox hb; have HB := Aside0.mk hb; have hc_ : w2.cell? ⟨g1, 0, none⟩ = some (.int .i64 a1) := (blk_cell (blk_below HG.out hb) 0).trans rfl; have hz0 : w2.cell? ⟨gb, 0, none⟩ = some (.int .i64 x0) := (blk_cell hbox 0).trans rfl; have hz1 : w2.cell? ⟨gb, 1, none⟩ = some (.int .i64 x1) := (blk_cell hbox 1).trans rfl; have hz2 : w2.cell? ⟨gb, 2, none⟩ = some (.int .i64 x2) := (blk_cell hbox 2).trans rfl; have hz3 : w2.cell? ⟨gb, 3, none⟩ = some (.int .i64 x3) := (blk_cell hbox 3).trans rfl; clear hb hg_ hbox) | (go_at_call 62; (with_reducible refine (impl_from.calls x0 0 (wrap64 (a1 - 1)) true _ E1.out).mono ?_); rintro e w' ⟨rfl, ⟨nd, rfl⟩⟩) | (go_at_call 62; (with_reducible refine (impl_from.calls x1 1 1000000 false _ E2.out).mono ?_); rintro e w' ⟨rfl, ⟨nd, rfl⟩⟩))
      go_ret
      exact ⟨by first | rfl | (simp; done) | (simp [*]; done), by repeat (first | (with_reducible first | exact HB.out | apply below_alloc | apply pw_below_drewN | apply below_drew1) | exact HB.out)⟩
    | true =>
      simp only [if_true] at h
      obtain ⟨t3, e3, h⟩ := Option.bind_eq_some_iff.mp h
      have E3 := Aside0.mk e3
      clear e3
      cases t3 with
      | false =>
        simp only [Bool.false_eq_true, if_false, Option.some.injEq] at h
        subst h
        go_enter Tryz.func117, Tryz.ntmps117
        go_wp2_with (first | ((with_reducible refine gate_dst (N := 2) rfl ?_); refine box_event ?hg (N := 2) ?hd (cs := #[.int .i64 x0, .int .i64 x1, .int .i64 x2, .int .i64 x3]) (t := 42) ?hr ?_; (case hd => rfl); (case hg => rfl); (case hr => first | (go_simp; done) | (go_simp; rfl)); intro gb hg_ w2 hbox hb; have HB := Aside0.mk hb; have hc_ : w2.cell? ⟨g1, 0, none⟩ = some (.int .i64 a1) := (blk_cell (blk_below HG.out hb) 0).trans rfl; have hz0 : w2.cell? ⟨gb, 0, none⟩ = some (.int .i64 x0) := (blk_cell hbox 0).trans rfl; have hz1 : w2.cell? ⟨gb, 1, none⟩ = some (.int .i64 x1) := (blk_cell hbox 1).trans rfl; have hz2 : w2.cell? ⟨gb, 2, none⟩ = some (.int .i64 x2) := (blk_cell hbox 2).trans rfl; have hz3 : w2.cell? ⟨gb, 3, none⟩ = some (.int .i64 x3) := (blk_cell hbox 3).trans rfl; clear hb hg_ hbox) | (go_at_call 62; (with_reducible refine (impl_from.calls x0 0 (wrap64 (a1 - 1)) true _ E1.out).mono ?_); rintro e w' ⟨rfl, ⟨nd, rfl⟩⟩) | (go_at_call 62; (with_reducible refine (impl_from.calls x1 1 1000000 true _ E2.out).mono ?_); rintro e w' ⟨rfl, ⟨nd, rfl⟩⟩) | (go_at_call 62; (with_reducible refine (impl_from.calls x2 0 20 false _ E3.out).mono ?_); rintro e w' ⟨rfl, ⟨nd, rfl⟩⟩))
        go_ret
        exact ⟨by first | rfl | (simp; done) | (simp [*]; done), by repeat (first | (with_reducible first | exact HB.out | apply below_alloc | apply pw_below_drewN | apply below_drew1) | exact HB.out)⟩
      | true =>
        simp only [if_true] at h
        obtain ⟨t4, e4, h⟩ := Option.bind_eq_some_iff.mp h
        have E4 := Aside0.mk e4
        clear e4
        cases t4 with
        | true =>
          obtain rfl := Option.some.inj h
          clear h
          go_enter Tryz.func117, Tryz.ntmps117
          go_wp2_with (first | ((with_reducible refine gate_dst (N := 2) rfl ?_); refine box_event ?hg (N := 2) ?hd (cs := #[.int .i64 x0, .int .i64 x1, .int .i64 x2, .int .i64 x3]) (t := 42) ?hr ?_; (case hd => rfl); (case hg => rfl); (case hr => first | (go_simp; done) | (go_simp; rfl)); intro gb hg_ w2 hbox hb; have HB := Aside0.mk hb; have hc_ : w2.cell? ⟨g1, 0, none⟩ = some (.int .i64 a1) := (blk_cell (blk_below HG.out hb) 0).trans rfl; have hz0 : w2.cell? ⟨gb, 0, none⟩ = some (.int .i64 x0) := (blk_cell hbox 0).trans rfl; have hz1 : w2.cell? ⟨gb, 1, none⟩ = some (.int .i64 x1) := (blk_cell hbox 1).trans rfl; have hz2 : w2.cell? ⟨gb, 2, none⟩ = some (.int .i64 x2) := (blk_cell hbox 2).trans rfl; have hz3 : w2.cell? ⟨gb, 3, none⟩ = some (.int .i64 x3) := (blk_cell hbox 3).trans rfl; clear hb hg_ hbox) | (go_at_call 62; (with_reducible refine (impl_from.calls x0 0 (wrap64 (a1 - 1)) true _ E1.out).mono ?_); rintro e w' ⟨rfl, ⟨nd, rfl⟩⟩) | (go_at_call 62; (with_reducible refine (impl_from.calls x1 1 1000000 true _ E2.out).mono ?_); rintro e w' ⟨rfl, ⟨nd, rfl⟩⟩) | (go_at_call 62; (with_reducible refine (impl_from.calls x2 0 20 true _ E3.out).mono ?_); rintro e w' ⟨rfl, ⟨nd, rfl⟩⟩) | (go_at_call 62; (with_reducible refine (impl_from.calls x3 0 20 true _ E4.out).mono ?_); rintro e w' ⟨rfl, ⟨nd, rfl⟩⟩))
          go_ret
          exact ⟨by first | rfl | (simp; done) | (simp [*]; done), by repeat (first | (with_reducible first | exact HB.out | apply below_alloc | apply pw_below_drewN | apply below_drew1) | exact HB.out)⟩
        | false =>
          obtain rfl := Option.some.inj h
          clear h
          go_enter Tryz.func117, Tryz.ntmps117
          go_wp2_with (first | ((with_reducible refine gate_dst (N := 2) rfl ?_); refine box_event ?hg (N := 2) ?hd (cs := #[.int .i64 x0, .int .i64 x1, .int .i64 x2, .int .i64 x3]) (t := 42) ?hr ?_; (case hd => rfl); (case hg => rfl); (case hr => first | (go_simp; done) | (go_simp; rfl)); intro gb hg_ w2 hbox hb; have HB := Aside0.mk hb; have hc_ : w2.cell? ⟨g1, 0, none⟩ = some (.int .i64 a1) := (blk_cell (blk_below HG.out hb) 0).trans rfl; have hz0 : w2.cell? ⟨gb, 0, none⟩ = some (.int .i64 x0) := (blk_cell hbox 0).trans rfl; have hz1 : w2.cell? ⟨gb, 1, none⟩ = some (.int .i64 x1) := (blk_cell hbox 1).trans rfl; have hz2 : w2.cell? ⟨gb, 2, none⟩ = some (.int .i64 x2) := (blk_cell hbox 2).trans rfl; have hz3 : w2.cell? ⟨gb, 3, none⟩ = some (.int .i64 x3) := (blk_cell hbox 3).trans rfl; clear hb hg_ hbox) | (go_at_call 62; (with_reducible refine (impl_from.calls x0 0 (wrap64 (a1 - 1)) true _ E1.out).mono ?_); rintro e w' ⟨rfl, ⟨nd, rfl⟩⟩) | (go_at_call 62; (with_reducible refine (impl_from.calls x1 1 1000000 true _ E2.out).mono ?_); rintro e w' ⟨rfl, ⟨nd, rfl⟩⟩) | (go_at_call 62; (with_reducible refine (impl_from.calls x2 0 20 true _ E3.out).mono ?_); rintro e w' ⟨rfl, ⟨nd, rfl⟩⟩) | (go_at_call 62; (with_reducible refine (impl_from.calls x3 0 20 false _ E4.out).mono ?_); rintro e w' ⟨rfl, ⟨nd, rfl⟩⟩))
          go_ret
          exact ⟨by first | rfl | (simp; done) | (simp [*]; done), by repeat (first | (with_reducible first | exact HB.out | apply below_alloc | apply pw_below_drewN | apply below_drew1) | exact HB.out)⟩
end Go.Proofs.YtopikhjcbcpiaaaGreat.Q
end
namespace Go.Proofs.YtopikhjcbcpiaaaGreat.Q
open Go.RowKit Go.Proofs.YtopikhjcbcpiaaaGreatW.PrintWords Go.Proofs.YtopikhjcbcpiaaaGreatW.PrintLast Go.Proofs.YtopikhjcbcpiaaaGreatW.PrintMore
attribute [local go_sem] max2_int min2_int max_two min_two max_three min_three max_four min_four   -- for this text's walks alone
set_option linter.unusedVariables false
set_option linter.unusedSimpArgs false
def impl_ValOk.f (a0 : Int) : Option (Bool) := (impl_from.f a0 1 6).bind fun t446 => (some t446)
set_option maxHeartbeats 8000000 in
set_option maxRecDepth 100000 in
theorem impl_ValOk.calls (a0 : Int) (r : Bool) (w : World) (h : impl_ValOk.f a0 = some r) :
  Calls Tryz.prog 148 #[.int .i64 a0] w fun e w' => e = .returned (.bool r) ∧ Drawn0 w w' := by
 have H := h
 clear h
 unfold impl_ValOk.f at H
 obtain ⟨t446, A2, H⟩ := bn H
 try dsimp only at H
 obtain rfl := oin H
 go_enter Tryz.func148, Tryz.ntmps148
 go_wp2_with (first | ((with_reducible refine gf 62 rfl ?_); refine gL 4 Tryz.func62 #[.int .i64 a0, .int .i64 1, .int .i64 6] ?_; (with_reducible refine (impl_from.calls a0 1 6 t446 _ A2.out).mono ?_); rintro e w' ⟨rfl, ⟨nd, rfl⟩⟩; refine ⟨_, rfl, ?_⟩))
 go_ret
 exact ⟨rsd, by repeat (first | exact Drawn0.refl _ | apply Drawn0.step)⟩
def impl_KeyOk.f (a0 : Int) : Option (Bool) := (impl_from.f a0 0 3).bind fun t447 => (some t447)
set_option maxHeartbeats 8000000 in
set_option maxRecDepth 100000 in
theorem impl_KeyOk.calls (a0 : Int) (r : Bool) (w : World) (h : impl_KeyOk.f a0 = some r) :
  Calls Tryz.prog 150 #[.int .i64 a0] w fun e w' => e = .returned (.bool r) ∧ Drawn0 w w' := by
 have H := h
 clear h
 unfold impl_KeyOk.f at H
 obtain ⟨t447, A2, H⟩ := bn H
 try dsimp only at H
 obtain rfl := oin H
 go_enter Tryz.func150, Tryz.ntmps150
 go_wp2_with (first | ((with_reducible refine gf 62 rfl ?_); refine gL 4 Tryz.func62 #[.int .i64 a0, .int .i64 0, .int .i64 3] ?_; (with_reducible refine (impl_from.calls a0 0 3 t447 _ A2.out).mono ?_); rintro e w' ⟨rfl, ⟨nd, rfl⟩⟩; refine ⟨_, rfl, ?_⟩))
 go_ret
 exact ⟨rsd, by repeat (first | exact Drawn0.refl _ | apply Drawn0.step)⟩
def impl_isClass.f (a0 : Int) : Option (Bool) := (impl_from.f a0 0 2).bind fun t448 => (some t448)
set_option maxHeartbeats 8000000 in
set_option maxRecDepth 100000 in
theorem impl_isClass.calls (a0 : Int) (r : Bool) (w : World) (h : impl_isClass.f a0 = some r) :
  Calls Tryz.prog 151 #[.int .i64 a0] w fun e w' => e = .returned (.bool r) ∧ Drawn0 w w' := by
 have H := h
 clear h
 unfold impl_isClass.f at H
 obtain ⟨t448, A2, H⟩ := bn H
 try dsimp only at H
 obtain rfl := oin H
 go_enter Tryz.func151, Tryz.ntmps151
 go_wp2_with (first | ((with_reducible refine gf 62 rfl ?_); refine gL 4 Tryz.func62 #[.int .i64 a0, .int .i64 0, .int .i64 2] ?_; (with_reducible refine (impl_from.calls a0 0 2 t448 _ A2.out).mono ?_); rintro e w' ⟨rfl, ⟨nd, rfl⟩⟩; refine ⟨_, rfl, ?_⟩))
 go_ret
 exact ⟨rsd, by repeat (first | exact Drawn0.refl _ | apply Drawn0.step)⟩
def impl_isPlace.f (a0 : Int) : Option (Bool) := (impl_from.f a0 0 19).bind fun t416 => (some t416)
set_option maxHeartbeats 8000000 in
set_option maxRecDepth 100000 in
theorem impl_isPlace.calls (a0 : Int) (r : Bool) (w : World) (h : impl_isPlace.f a0 = some r) :
  Calls Tryz.prog 114 #[.int .i64 a0] w fun e w' => e = .returned (.bool r) ∧ Drawn0 w w' := by
 have H := h
 clear h
 unfold impl_isPlace.f at H
 obtain ⟨t416, A2, H⟩ := bn H
 try dsimp only at H
 obtain rfl := oin H
 go_enter Tryz.func114, Tryz.ntmps114
 go_wp2_with (first | ((with_reducible refine gf 62 rfl ?_); refine gL 4 Tryz.func62 #[.int .i64 a0, .int .i64 0, .int .i64 19] ?_; (with_reducible refine (impl_from.calls a0 0 19 t416 _ A2.out).mono ?_); rintro e w' ⟨rfl, ⟨nd, rfl⟩⟩; refine ⟨_, rfl, ?_⟩))
 go_ret
 exact ⟨rsd, by repeat (first | exact Drawn0.refl _ | apply Drawn0.step)⟩
def slices_Contains_int_int.f (k : Nat) (l0 : List Int) (a1 : Int) : Option (Bool) := (slices_Index_int_int.f k l0 a1).bind fun t467 => (some (decide (t467 ≥ 0)))
set_option maxHeartbeats 8000000 in
set_option maxRecDepth 100000 in
theorem slices_Contains_int_int.calls (k : Nat) (A0 : Option Addr) (c0 : Nat) (l0 : List Int) (a1 : Int) (r : Bool) (w : World) (hr0 : Kd.C (Kd.int .i64) w A0 l0.length l0) (hc0 : l0.length ≤ c0) (h : slices_Contains_int_int.f k l0 a1 = some r) :
  Calls Tryz.prog 149 #[.slice A0 l0.length c0, .int .i64 a1] w fun e w' => e = .returned (.bool r) ∧ Drawn0 w w' := by
 have HR0 := Aside0.mk hr0
 have HC0 := Aside0.mk hc0
 clear hr0 hc0
 have H := h
 clear h
 unfold slices_Contains_int_int.f at H
 obtain ⟨t467, A3, H⟩ := bn H
 try dsimp only at H
 obtain rfl := oin H
 go_enter Tryz.func149, Tryz.ntmps149
 go_wp2_with (first | ((with_reducible refine gf 181 rfl ?_); refine gL 7 Tryz.func181 #[.slice A0 l0.length c0, .int .i64 a1] ?_; (with_reducible refine (slices_Index_int_int.calls k _ _ l0 a1 t467 _ ?side1 HC0.out A3.out).mono ?_); (case side1 => repeat (first | exact HR0.out | (with_reducible refine Kd.C_alloc ?_ _) | (with_reducible refine Kd.C_drewN ?_ _) | (with_reducible refine Kd.C_drew ?_))); rintro e w' ⟨rfl, ⟨nd, rfl⟩⟩; refine ⟨_, rfl, ?_⟩))
 go_ret
 exact ⟨rsd, by repeat (first | exact Drawn0.refl _ | apply Drawn0.step)⟩
attribute [local go_sem high] eqA132
def impl_callsOk.l0 : Nat → Int → Int → Int → Int → List (S134) → Int → Int → List (S39) → List (S52) → List (S82) → Int → List (S134) → List Int → List Int → Int → List (S132) → Int → Bool → List (S145) → List (S42) → Option (Bool)
 | 0, _, _, _, _, _, _, _, _, _, _, _, _, _, _, _, _, _, _, _, _ => none
 | k + 1, x1, x6, x7, x8, x17, x18, x19, x475000, x475001, x475002, x475003, x475004, x475005, x475006, x475007, x477000, x477001, x477002, x477003, x477004 => if x19 < x18 then (if 0 ≤ x19 then (if x19 < (x17.length : Int) then (if ((rd_T134 x17 x19).f0) = x1 then (if ((rd_T134 x17 x19).f4) ≥ 0 then (impl_callsOk.l0 k x1 x19 (wrap64 (x7 + 1)) x8 x17 x18 (wrap64 (x19 + 1)) x475000 x475001 x475002 x475003 x475004 x475005 x475006 x475007 x477000 x477001 x477002 x477003 x477004) else (impl_callsOk.l0 k x1 x19 x7 (wrap64 (x8 + 1)) x17 x18 (wrap64 (x19 + 1)) x475000 x475001 x475002 x475003 x475004 x475005 x475006 x475007 x477000 x477001 x477002 x477003 x477004)) else (impl_callsOk.l0 k x1 x6 x7 x8 x17 x18 (wrap64 (x19 + 1)) x475000 x475001 x475002 x475003 x475004 x475005 x475006 x475007 x477000 x477001 x477002 x477003 x477004)) else (none)) else (none)) else (if x7 = x477001 then (if x477002 = true then (if x6 ≥ 0 then (if x8 = 1 then (if 0 ≤ x6 then (if x6 < (x475004.length : Int) then (if ((rd_T134 x475004 x6).f4) = (-1) then (if 0 ≤ x477001 then (if x477001 < (x477000.length : Int) then (some (((rd_T134 x475004 x6).f1.f0) == ((rd_T132 x477000 x477001).f0) && (((rd_T134 x475004 x6).f1.f1) == ((rd_T132 x477000 x477001).f1) && (((rd_T134 x475004 x6).f1.f2) == ((rd_T132 x477000 x477001).f2))))) else (none)) else (none)) else (some false)) else (none)) else (none)) else (some false)) else (some false)) else (some (x8 == 0))) else (some false))
def impl_callsOk.f (k : Nat) (l0_0 : List (S39)) (l0_1 : List (S52)) (l0_2 : List (S82)) (a0_3 : Int) (l0_4 : List (S134)) (l0_5 : List Int) (l0_6 : List Int) (a0_7 : Int) (a1 : Int) : Option (Bool) := if 0 ≤ a1 then (if a1 < (l0_2.length : Int) then (impl_callsOk.l0 k a1 (-1) 0 0 l0_4 (l0_4.length : Int) 0 l0_0 l0_1 l0_2 a0_3 l0_4 l0_5 l0_6 a0_7 ((rd_T82 l0_2 a1).f0) ((rd_T82 l0_2 a1).f1) ((rd_T82 l0_2 a1).f2) ((rd_T82 l0_2 a1).f3) ((rd_T82 l0_2 a1).f4)) else (none)) else (none)
set_option maxHeartbeats 8000000 in
set_option maxRecDepth 100000 in
theorem impl_callsOk.calls (k : Nat) (A0_0 : Option Addr) (c0_0 : Nat) (l0_0 : List (S39)) (A0_1 : Option Addr) (c0_1 : Nat) (l0_1 : List (S52)) (A0_2 : Option Addr) (c0_2 : Nat) (l0_2 : List (S82)) (a0_3 : Int) (A0_4 : Option Addr) (c0_4 : Nat) (l0_4 : List (S134)) (A0_5 : Option Addr) (c0_5 : Nat) (l0_5 : List Int) (A0_6 : Option Addr) (c0_6 : Nat) (l0_6 : List Int) (a0_7 : Int) (a1 : Int) (r : Bool) (w : World) (hr0_0 : Kd.C k39 w A0_0 l0_0.length l0_0) (hc0_0 : l0_0.length ≤ c0_0) (hr0_1 : Kd.C k52 w A0_1 l0_1.length l0_1) (hc0_1 : l0_1.length ≤ c0_1) (hr0_2 : Kd.C k82 w A0_2 l0_2.length l0_2) (hc0_2 : l0_2.length ≤ c0_2) (hr0_4 : Kd.C k134 w A0_4 l0_4.length l0_4) (hc0_4 : l0_4.length ≤ c0_4) (hr0_5 : Kd.C (Kd.int .i64) w A0_5 l0_5.length l0_5) (hc0_5 : l0_5.length ≤ c0_5) (hr0_6 : Kd.C (Kd.int .i64) w A0_6 l0_6.length l0_6) (hc0_6 : l0_6.length ≤ c0_6) (h : impl_callsOk.f k l0_0 l0_1 l0_2 a0_3 l0_4 l0_5 l0_6 a0_7 a1 = some r) :
  Calls Tryz.prog 96 #[.agg #[.slice A0_0 l0_0.length c0_0, .slice A0_1 l0_1.length c0_1, .slice A0_2 l0_2.length c0_2, .int .i64 a0_3, .slice A0_4 l0_4.length c0_4, .slice A0_5 l0_5.length c0_5, .slice A0_6 l0_6.length c0_6, .int .i64 a0_7], .int .i64 a1] w fun e w' => e = .returned (.bool r) ∧ Below w.heap.size w w' := by
 have hu75 := Tryz.underlying75
 have hu82 := Tryz.underlying82
 have hu134 := Tryz.underlying134
 have hu132 := Tryz.underlying132
 have HR0_0 := Aside0.mk hr0_0
 have HC0_0 := Aside0.mk hc0_0
 clear hr0_0 hc0_0
 have HR0_1 := Aside0.mk hr0_1
 have HC0_1 := Aside0.mk hc0_1
 clear hr0_1 hc0_1
 have HR0_2 := Aside0.mk hr0_2
 have HC0_2 := Aside0.mk hc0_2
 clear hr0_2 hc0_2
 have HR0_4 := Aside0.mk hr0_4
 have HC0_4 := Aside0.mk hc0_4
 clear hr0_4 hc0_4
 have HR0_5 := Aside0.mk hr0_5
 have HC0_5 := Aside0.mk hc0_5
 clear hr0_5 hc0_5
 have HR0_6 := Aside0.mk hr0_6
 have HC0_6 := Aside0.mk hc0_6
 clear hr0_6 hc0_6
 have HB := Aside0.mk (Below.refl w.heap.size w)
 have H := h
 clear h
 unfold impl_callsOk.f at H
 obtain ⟨c3b0, H⟩ := itd H
 obtain ⟨c4b0, H⟩ := itd H
 have H' := Aside0.mk H
 clear H
 go_enter Tryz.func96, Tryz.ntmps96
 go_wp2_with (first | ((with_reducible refine gq 2 rfl ?_); refine bx0 HB (N := 2) (t := 75) ?_; clear HB; intro gb474 w5 BK474 GE474 HB; have hz6 := cs8_ BK474; have p475 : 0 ≤ (a1 : Int) := od; have q475 : a1 < (l0_2.length : Int) := od; obtain ⟨ad475, A475_0, c475_0, A475_3, c475_3, A475_4, c475_4, e475, hx475_0, hx475_1, hx475_2, hx475_3, hx475_4, hl475_0, hi475_0, hl475_3, hi475_3, hl475_4, hi475_4⟩ := at_T82 HR0_2.out a1 p475 q475; cases e475; replace hx475_0 := ox HB hx475_0; replace hx475_1 := ox HB hx475_1; replace hx475_2 := ox HB hx475_2; replace hx475_3 := ox HB hx475_3; replace hx475_4 := ox HB hx475_4; have HR475_0 := Aside0.mk hi475_0; have HC475_0 := Aside0.mk hl475_0; clear hi475_0 hl475_0; have HR475_3 := Aside0.mk hi475_3; have HC475_3 := Aside0.mk hl475_3; clear hi475_3 hl475_3; have HR475_4 := Aside0.mk hi475_4; have HC475_4 := Aside0.mk hl475_4; clear hi475_4 hl475_4; replace p475 := eq_true p475; replace q475 := eq_true q475) | ((with_reducible refine gq 5 rfl ?_); refine bx1 HB BK474 (N := 5) (cs := #[.slice none 0 0, .int .i64 0, .bool false, .slice none 0 0, .slice none 0 0]) (t := 82) ?_; clear HB BK474; intro gb476 w7 BK476 GE476 HB NB474_476 NB476_474 BK474; have hnb8 := NB476_474.out; have hnc8 := NB474_476.out; have hz9 := cs5_ BK476; have hz10 := cs8_ BK474))
 repeat (go_quiet (first | ((with_reducible refine gq 2 rfl ?_); refine bx0 HB (N := 2) (t := 75) ?_; clear HB; intro gb474 w5 BK474 GE474 HB; have hz6 := cs8_ BK474; have p475 : 0 ≤ (a1 : Int) := od; have q475 : a1 < (l0_2.length : Int) := od; obtain ⟨ad475, A475_0, c475_0, A475_3, c475_3, A475_4, c475_4, e475, hx475_0, hx475_1, hx475_2, hx475_3, hx475_4, hl475_0, hi475_0, hl475_3, hi475_3, hl475_4, hi475_4⟩ := at_T82 HR0_2.out a1 p475 q475; cases e475; replace hx475_0 := ox HB hx475_0; replace hx475_1 := ox HB hx475_1; replace hx475_2 := ox HB hx475_2; replace hx475_3 := ox HB hx475_3; replace hx475_4 := ox HB hx475_4; have HR475_0 := Aside0.mk hi475_0; have HC475_0 := Aside0.mk hl475_0; clear hi475_0 hl475_0; have HR475_3 := Aside0.mk hi475_3; have HC475_3 := Aside0.mk hl475_3; clear hi475_3 hl475_3; have HR475_4 := Aside0.mk hi475_4; have HC475_4 := Aside0.mk hl475_4; clear hi475_4 hl475_4; replace p475 := eq_true p475; replace q475 := eq_true q475) | ((with_reducible refine gq 5 rfl ?_); refine bx1 HB BK474 (N := 5) (cs := #[.slice none 0 0, .int .i64 0, .bool false, .slice none 0 0, .slice none 0 0]) (t := 82) ?_; clear HB BK474; intro gb476 w7 BK476 GE476 HB NB474_476 NB476_474 BK474; have hnb8 := NB476_474.out; have hnc8 := NB474_476.out; have hz9 := cs5_ BK476; have hz10 := cs8_ BK474)); try go_wp2_with (first | ((with_reducible refine gq 2 rfl ?_); refine bx0 HB (N := 2) (t := 75) ?_; clear HB; intro gb474 w5 BK474 GE474 HB; have hz6 := cs8_ BK474; have p475 : 0 ≤ (a1 : Int) := od; have q475 : a1 < (l0_2.length : Int) := od; obtain ⟨ad475, A475_0, c475_0, A475_3, c475_3, A475_4, c475_4, e475, hx475_0, hx475_1, hx475_2, hx475_3, hx475_4, hl475_0, hi475_0, hl475_3, hi475_3, hl475_4, hi475_4⟩ := at_T82 HR0_2.out a1 p475 q475; cases e475; replace hx475_0 := ox HB hx475_0; replace hx475_1 := ox HB hx475_1; replace hx475_2 := ox HB hx475_2; replace hx475_3 := ox HB hx475_3; replace hx475_4 := ox HB hx475_4; have HR475_0 := Aside0.mk hi475_0; have HC475_0 := Aside0.mk hl475_0; clear hi475_0 hl475_0; have HR475_3 := Aside0.mk hi475_3; have HC475_3 := Aside0.mk hl475_3; clear hi475_3 hl475_3; have HR475_4 := Aside0.mk hi475_4; have HC475_4 := Aside0.mk hl475_4; clear hi475_4 hl475_4; replace p475 := eq_true p475; replace q475 := eq_true q475) | ((with_reducible refine gq 5 rfl ?_); refine bx1 HB BK474 (N := 5) (cs := #[.slice none 0 0, .int .i64 0, .bool false, .slice none 0 0, .slice none 0 0]) (t := 82) ?_; clear HB BK474; intro gb476 w7 BK476 GE476 HB NB474_476 NB476_474 BK474; have hnb8 := NB476_474.out; have hnc8 := NB474_476.out; have hz9 := cs5_ BK476; have hz10 := cs8_ BK474)))
 go_loopg [6, 7, 8, 19] k (fun kq v6 v7 v8 v19 w' => ∃ (x6_1 : Int) (x7_1 : Int) (x8_1 : Int) (x19_1 : Int), v6 = .int .i64 x6_1 ∧ v7 = .int .i64 x7_1 ∧ v8 = .int .i64 x8_1 ∧ v19 = .int .i64 x19_1 ∧ Aside0 (impl_callsOk.l0 kq a1 x6_1 x7_1 x8_1 l0_4 (l0_4.length : Int) x19_1 l0_0 l0_1 l0_2 a0_3 l0_4 l0_5 l0_6 a0_7 ((rd_T82 l0_2 a1).f0) ((rd_T82 l0_2 a1).f1) ((rd_T82 l0_2 a1).f2) ((rd_T82 l0_2 a1).f3) ((rd_T82 l0_2 a1).f4) = some r) ∧ Aside0 (kq ≤ k) ∧ Aside0 (w'.heap[gb474]? = some (.cells #[(.slice A0_0 l0_0.length c0_0), (.slice A0_1 l0_1.length c0_1), (.slice (some ad475) l0_2.length c0_2), .int .i64 a0_3, (.slice A0_4 l0_4.length c0_4), (.slice A0_5 l0_5.length c0_5), (.slice A0_6 l0_6.length c0_6), .int .i64 a0_7] 75 (0, 0))) ∧ Aside0 (w'.heap[gb476]? = some (.cells #[(.slice A475_0 ((rd_T82 l0_2 a1).f0).length c475_0), .int .i64 ((rd_T82 l0_2 a1).f1), .bool ((rd_T82 l0_2 a1).f2), (.slice A475_3 ((rd_T82 l0_2 a1).f3).length c475_3), (.slice A475_4 ((rd_T82 l0_2 a1).f4).length c475_4)] 82 (0, 0))) ∧ Aside0 (Below w.heap.size w w'))
 case atStart => exact ⟨((-1)), (0), (0), (0), rsd, rsd, rsd, rsd, H', ⟨Nat.le_refl _⟩, ⟨bf BK474⟩, ⟨bfp5 BK476⟩, ⟨tb HB⟩⟩
 case round =>
  clear H'
  try clear hx475_0
  try clear hx475_1
  try clear hx475_2
  try clear hx475_3
  try clear hx475_4
  obtain ⟨x6_1, x7_1, x8_1, x19_1, rfl, rfl, rfl, rfl, HA, HK1, BK474, BK476, HB⟩ := hrel
  cases gk with
  | zero => exact absurd HA.out (by simp [impl_callsOk.l0])
  | succ k1 =>
   have H := HA.out
   clear HA
   simp only [impl_callsOk.l0] at H
   revert H; refine icd (fun c11b0 H => ?pos) fun c11b0 H => ?_
   case pos =>
    obtain ⟨c12b0, H⟩ := itd H
    obtain ⟨c13b0, H⟩ := itd H
    by_cases c14 : ((rd_T134 l0_4 x19_1).f0) = a1
    case neg =>
     rw [if_neg c14] at H
     have c14b0 : (((rd_T134 l0_4 x19_1).f0) == a1) = false := beq_eq_false_iff_ne.mpr c14
     have c14b1 : (((rd_T134 l0_4 x19_1).f0) != a1) = true := bne_iff_ne.mpr c14
     have H' := Aside0.mk H
     clear H
     have p477 : 0 ≤ (x19_1 : Int) := od
     have q477 : x19_1 < (l0_4.length : Int) := od
     obtain ⟨ad477, A477_8, c477_8, e477, hx477, hl477_8, hi477_8⟩ := att134 HR0_4.out x19_1 p477 q477
     cases e477
     replace hx477 := ox9 HB hx477
     have HR477_8 := Aside0.mk hi477_8
     have HC477_8 := Aside0.mk hl477_8
     clear hi477_8 hl477_8
     replace p477 := eq_true p477
     replace q477 := eq_true q477
     go_wp2_with (first | ((with_reducible refine gq 10 rfl ?_); refine bx2 HB BK474 BK476 (N := 10) (cs := #[.int .i64 0, .int .i64 0, .int .i64 0, .int .i64 0, .int .i64 0, .int .i64 0, .int .i64 0, .int .i64 0, .slice none 0 0]) (t := 134) ?_; clear HB BK474 BK476; intro gb478 w24 BK478 GE478 HB NB474_478 NB478_474 BK474 NB476_478 NB478_476 BK476; have hnb25 := NB478_474.out; have hnc25 := NB474_478.out; have hnb26 := NB478_476.out; have hnc26 := NB476_478.out; have hz27 := cs9_ BK478))
     repeat (go_quiet (first | ((with_reducible refine gq 10 rfl ?_); refine bx2 HB BK474 BK476 (N := 10) (cs := #[.int .i64 0, .int .i64 0, .int .i64 0, .int .i64 0, .int .i64 0, .int .i64 0, .int .i64 0, .int .i64 0, .slice none 0 0]) (t := 134) ?_; clear HB BK474 BK476; intro gb478 w24 BK478 GE478 HB NB474_478 NB478_474 BK474 NB476_478 NB478_476 BK476; have hnb25 := NB478_474.out; have hnc25 := NB474_478.out; have hnb26 := NB478_476.out; have hnc26 := NB476_478.out; have hz27 := cs9_ BK478)); try go_wp2_with (first | ((with_reducible refine gq 10 rfl ?_); refine bx2 HB BK474 BK476 (N := 10) (cs := #[.int .i64 0, .int .i64 0, .int .i64 0, .int .i64 0, .int .i64 0, .int .i64 0, .int .i64 0, .int .i64 0, .slice none 0 0]) (t := 134) ?_; clear HB BK474 BK476; intro gb478 w24 BK478 GE478 HB NB474_478 NB478_474 BK474 NB476_478 NB478_476 BK476; have hnb25 := NB478_474.out; have hnc25 := NB474_478.out; have hnb26 := NB478_476.out; have hnc26 := NB476_478.out; have hz27 := cs9_ BK478)))
     go_roundg k1
     case measure => have := HK1.out; omega
     case rel => exact ⟨(x6_1), (x7_1), (x8_1), (wrap64 (x19_1 + 1)), rsd, rsd, rsd, rsd, H', ⟨by have := HK1.out; omega⟩, ⟨bf BK474⟩, ⟨bf BK476⟩, ⟨tb HB⟩⟩
    rw [if_pos c14] at H
    have c14b0 : (((rd_T134 l0_4 x19_1).f0) == a1) = true := beq_iff_eq.mpr c14
    have c14b1 : (((rd_T134 l0_4 x19_1).f0) != a1) = false := bne_eq_false_iff_eq.mpr c14
    clear c14
    revert H; refine icd (fun c15b0 H => ?_) fun c15b0 H => ?neg
    case neg =>
     have H' := Aside0.mk H
     clear H
     have p477 : 0 ≤ (x19_1 : Int) := od
     have q477 : x19_1 < (l0_4.length : Int) := od
     obtain ⟨ad477, A477_8, c477_8, e477, hx477_0, hx477_1, hx477_2, hx477_3, hx477_4, hx477_5, hx477_6, hx477_7, hx477_8, hl477_8, hi477_8⟩ := at_T134 HR0_4.out x19_1 p477 q477
     cases e477
     replace hx477_0 := ox HB hx477_0
     replace hx477_1 := ox HB hx477_1
     replace hx477_2 := ox HB hx477_2
     replace hx477_3 := ox HB hx477_3
     replace hx477_4 := ox HB hx477_4
     replace hx477_5 := ox HB hx477_5
     replace hx477_6 := ox HB hx477_6
     replace hx477_7 := ox HB hx477_7
     replace hx477_8 := ox HB hx477_8
     have HR477_8 := Aside0.mk hi477_8
     have HC477_8 := Aside0.mk hl477_8
     clear hi477_8 hl477_8
     replace p477 := eq_true p477
     replace q477 := eq_true q477
     go_wp2_with (first | ((with_reducible refine gq 10 rfl ?_); refine bx2 HB BK474 BK476 (N := 10) (cs := #[.int .i64 0, .int .i64 0, .int .i64 0, .int .i64 0, .int .i64 0, .int .i64 0, .int .i64 0, .int .i64 0, .slice none 0 0]) (t := 134) ?_; clear HB BK474 BK476; intro gb478 w20 BK478 GE478 HB NB474_478 NB478_474 BK474 NB476_478 NB478_476 BK476; have hnb21 := NB478_474.out; have hnc21 := NB474_478.out; have hnb22 := NB478_476.out; have hnc22 := NB476_478.out; have hz23 := cs9_ BK478))
     repeat (go_quiet (first | ((with_reducible refine gq 10 rfl ?_); refine bx2 HB BK474 BK476 (N := 10) (cs := #[.int .i64 0, .int .i64 0, .int .i64 0, .int .i64 0, .int .i64 0, .int .i64 0, .int .i64 0, .int .i64 0, .slice none 0 0]) (t := 134) ?_; clear HB BK474 BK476; intro gb478 w20 BK478 GE478 HB NB474_478 NB478_474 BK474 NB476_478 NB478_476 BK476; have hnb21 := NB478_474.out; have hnc21 := NB474_478.out; have hnb22 := NB478_476.out; have hnc22 := NB476_478.out; have hz23 := cs9_ BK478)); try go_wp2_with (first | ((with_reducible refine gq 10 rfl ?_); refine bx2 HB BK474 BK476 (N := 10) (cs := #[.int .i64 0, .int .i64 0, .int .i64 0, .int .i64 0, .int .i64 0, .int .i64 0, .int .i64 0, .int .i64 0, .slice none 0 0]) (t := 134) ?_; clear HB BK474 BK476; intro gb478 w20 BK478 GE478 HB NB474_478 NB478_474 BK474 NB476_478 NB478_476 BK476; have hnb21 := NB478_474.out; have hnc21 := NB474_478.out; have hnb22 := NB478_476.out; have hnc22 := NB476_478.out; have hz23 := cs9_ BK478)))
     go_roundg k1
     case measure => have := HK1.out; omega
     case rel => exact ⟨(x19_1), (x7_1), (wrap64 (x8_1 + 1)), (wrap64 (x19_1 + 1)), rsd, rsd, rsd, rsd, H', ⟨by have := HK1.out; omega⟩, ⟨bf BK474⟩, ⟨bf BK476⟩, ⟨tb HB⟩⟩
    have H' := Aside0.mk H
    clear H
    have p477 : 0 ≤ (x19_1 : Int) := od
    have q477 : x19_1 < (l0_4.length : Int) := od
    obtain ⟨ad477, A477_8, c477_8, e477, hx477_0, hx477_1, hx477_2, hx477_3, hx477_4, hx477_5, hx477_6, hx477_7, hx477_8, hl477_8, hi477_8⟩ := at_T134 HR0_4.out x19_1 p477 q477
    cases e477
    replace hx477_0 := ox HB hx477_0
    replace hx477_1 := ox HB hx477_1
    replace hx477_2 := ox HB hx477_2
    replace hx477_3 := ox HB hx477_3
    replace hx477_4 := ox HB hx477_4
    replace hx477_5 := ox HB hx477_5
    replace hx477_6 := ox HB hx477_6
    replace hx477_7 := ox HB hx477_7
    replace hx477_8 := ox HB hx477_8
    have HR477_8 := Aside0.mk hi477_8
    have HC477_8 := Aside0.mk hl477_8
    clear hi477_8 hl477_8
    replace p477 := eq_true p477
    replace q477 := eq_true q477
    go_wp2_with (first | ((with_reducible refine gq 10 rfl ?_); refine bx2 HB BK474 BK476 (N := 10) (cs := #[.int .i64 0, .int .i64 0, .int .i64 0, .int .i64 0, .int .i64 0, .int .i64 0, .int .i64 0, .int .i64 0, .slice none 0 0]) (t := 134) ?_; clear HB BK474 BK476; intro gb478 w16 BK478 GE478 HB NB474_478 NB478_474 BK474 NB476_478 NB478_476 BK476; have hnb17 := NB478_474.out; have hnc17 := NB474_478.out; have hnb18 := NB478_476.out; have hnc18 := NB476_478.out; have hz19 := cs9_ BK478))
    repeat (go_quiet (first | ((with_reducible refine gq 10 rfl ?_); refine bx2 HB BK474 BK476 (N := 10) (cs := #[.int .i64 0, .int .i64 0, .int .i64 0, .int .i64 0, .int .i64 0, .int .i64 0, .int .i64 0, .int .i64 0, .slice none 0 0]) (t := 134) ?_; clear HB BK474 BK476; intro gb478 w16 BK478 GE478 HB NB474_478 NB478_474 BK474 NB476_478 NB478_476 BK476; have hnb17 := NB478_474.out; have hnc17 := NB474_478.out; have hnb18 := NB478_476.out; have hnc18 := NB476_478.out; have hz19 := cs9_ BK478)); try go_wp2_with (first | ((with_reducible refine gq 10 rfl ?_); refine bx2 HB BK474 BK476 (N := 10) (cs := #[.int .i64 0, .int .i64 0, .int .i64 0, .int .i64 0, .int .i64 0, .int .i64 0, .int .i64 0, .int .i64 0, .slice none 0 0]) (t := 134) ?_; clear HB BK474 BK476; intro gb478 w16 BK478 GE478 HB NB474_478 NB478_474 BK474 NB476_478 NB478_476 BK476; have hnb17 := NB478_474.out; have hnc17 := NB474_478.out; have hnb18 := NB478_476.out; have hnc18 := NB476_478.out; have hz19 := cs9_ BK478)))
    go_roundg k1
    case measure => have := HK1.out; omega
    case rel => exact ⟨(x19_1), (wrap64 (x7_1 + 1)), (x8_1), (wrap64 (x19_1 + 1)), rsd, rsd, rsd, rsd, H', ⟨by have := HK1.out; omega⟩, ⟨bf BK474⟩, ⟨bf BK476⟩, ⟨tb HB⟩⟩
   by_cases c28 : x7_1 = ((rd_T82 l0_2 a1).f1)
   case neg =>
    rw [if_neg c28] at H
    have c28b0 : (x7_1 == ((rd_T82 l0_2 a1).f1)) = false := beq_eq_false_iff_ne.mpr c28
    have c28b1 : (x7_1 != ((rd_T82 l0_2 a1).f1)) = true := bne_iff_ne.mpr c28
    obtain rfl := oin H
    have hnb49 := NB476_474.out
    have hnc49 := NB474_476.out
    have hz50 := cs5_ BK476
    go_wp2
    repeat (go_quiet (fail); try go_wp2)
    go_ret
    exact ⟨er, tb HB⟩
   rw [if_pos c28] at H
   have c28b0 : (x7_1 == ((rd_T82 l0_2 a1).f1)) = true := beq_iff_eq.mpr c28
   have c28b1 : (x7_1 != ((rd_T82 l0_2 a1).f1)) = false := bne_eq_false_iff_eq.mpr c28
   clear c28
   by_cases c29 : ((rd_T82 l0_2 a1).f2) = true
   case neg =>
    rw [if_neg c29] at H
    have c29b0 : ((rd_T82 l0_2 a1).f2) = false := by simpa using c29
    clear c29
    obtain rfl := oin H
    have hnb47 := NB476_474.out
    have hnc47 := NB474_476.out
    have hz48 := cs5_ BK476
    go_wp2
    repeat (go_quiet (fail); try go_wp2)
    go_ret
    exact ⟨er, tb HB⟩
   rw [if_pos c29] at H
   have c29b0 : ((rd_T82 l0_2 a1).f2) = true := c29
   clear c29
   revert H; refine icd (fun c30b0 H => ?_) fun c30b0 H => ?neg
   case neg =>
    obtain rfl := oin H
    have hnb45 := NB476_474.out
    have hnc45 := NB474_476.out
    have hz46 := cs5_ BK476
    go_wp2
    repeat (go_quiet (fail); try go_wp2)
    go_ret
    exact ⟨er, tb HB⟩
   by_cases c31 : x8_1 = 1
   case neg =>
    rw [if_neg c31] at H
    have c31b0 : (x8_1 == 1) = false := beq_eq_false_iff_ne.mpr c31
    have c31b1 : (x8_1 != 1) = true := bne_iff_ne.mpr c31
    obtain rfl := oin H
    have hnb43 := NB476_474.out
    have hnc43 := NB474_476.out
    have hz44 := cs5_ BK476
    go_wp2
    repeat (go_quiet (fail); try go_wp2)
    go_ret
    exact ⟨er, tb HB⟩
   rw [if_pos c31] at H
   have c31b0 : (x8_1 == 1) = true := beq_iff_eq.mpr c31
   have c31b1 : (x8_1 != 1) = false := bne_eq_false_iff_eq.mpr c31
   clear c31
   obtain ⟨c32b0, H⟩ := itd H
   obtain ⟨c33b0, H⟩ := itd H
   by_cases c34 : ((rd_T134 l0_4 x6_1).f4) = (-1)
   case neg =>
    rw [if_neg c34] at H
    have c34b0 : (((rd_T134 l0_4 x6_1).f4) == (-1)) = false := beq_eq_false_iff_ne.mpr c34
    have c34b1 : (((rd_T134 l0_4 x6_1).f4) != (-1)) = true := bne_iff_ne.mpr c34
    obtain rfl := oin H
    have hnb40 := NB476_474.out
    have hnc40 := NB474_476.out
    have hz41 := cs5_ BK476
    have hz42 := cs8_ BK474
    have p479 : 0 ≤ (x6_1 : Int) := od
    have q479 : x6_1 < (l0_4.length : Int) := od
    obtain ⟨ad479, A479_8, c479_8, e479, hx479, hl479_8, hi479_8⟩ := att134 HR0_4.out x6_1 p479 q479
    cases e479
    replace hx479 := ox9 HB hx479
    have HR479_8 := Aside0.mk hi479_8
    have HC479_8 := Aside0.mk hl479_8
    clear hi479_8 hl479_8
    replace p479 := eq_true p479
    replace q479 := eq_true q479
    go_wp2
    repeat (go_quiet (fail); try go_wp2)
    go_ret
    exact ⟨er, tb HB⟩
   rw [if_pos c34] at H
   have c34b0 : (((rd_T134 l0_4 x6_1).f4) == (-1)) = true := beq_iff_eq.mpr c34
   have c34b1 : (((rd_T134 l0_4 x6_1).f4) != (-1)) = false := bne_eq_false_iff_eq.mpr c34
   clear c34
   obtain ⟨c35b0, H⟩ := itd H
   obtain ⟨c36b0, H⟩ := itd H
   obtain rfl := oin H
   have hnb37 := NB476_474.out
   have hnc37 := NB474_476.out
   have hz38 := cs5_ BK476
   have hz39 := cs8_ BK474
   have p479 : 0 ≤ (x6_1 : Int) := od
   have q479 : x6_1 < (l0_4.length : Int) := od
   obtain ⟨ad479, A479_8, c479_8, e479, hx479_0, hx479_1, hx479_2, hx479_3, hx479_4, hx479_5, hx479_6, hx479_7, hx479_8, hl479_8, hi479_8⟩ := at_T134 HR0_4.out x6_1 p479 q479
   cases e479
   replace hx479_0 := ox HB hx479_0
   replace hx479_1 := ox HB hx479_1
   replace hx479_2 := ox HB hx479_2
   replace hx479_3 := ox HB hx479_3
   replace hx479_4 := ox HB hx479_4
   replace hx479_5 := ox HB hx479_5
   replace hx479_6 := ox HB hx479_6
   replace hx479_7 := ox HB hx479_7
   replace hx479_8 := ox HB hx479_8
   have HR479_8 := Aside0.mk hi479_8
   have HC479_8 := Aside0.mk hl479_8
   clear hi479_8 hl479_8
   replace p479 := eq_true p479
   replace q479 := eq_true q479
   have p480 : 0 ≤ (x6_1 : Int) := od
   have q480 : x6_1 < (l0_4.length : Int) := od
   obtain ⟨ad480, A480_8, c480_8, e480, hx480_0, hx480_1, hx480_2, hx480_3, hx480_4, hx480_5, hx480_6, hx480_7, hx480_8, hl480_8, hi480_8⟩ := at_T134 HR0_4.out x6_1 p480 q480
   obtain rfl : ad479 = ad480 := (by injection e480)
   replace hx480_0 := ox HB hx480_0
   replace hx480_1 := ox HB hx480_1
   replace hx480_2 := ox HB hx480_2
   replace hx480_3 := ox HB hx480_3
   replace hx480_4 := ox HB hx480_4
   replace hx480_5 := ox HB hx480_5
   replace hx480_6 := ox HB hx480_6
   replace hx480_7 := ox HB hx480_7
   replace hx480_8 := ox HB hx480_8
   have HR480_8 := Aside0.mk hi480_8
   have HC480_8 := Aside0.mk hl480_8
   clear hi480_8 hl480_8
   replace p480 := eq_true p480
   replace q480 := eq_true q480
   have ea_ := Option.some.inj (hx479_8.symm.trans hx480_8)
   injection ea_ with ea_ en_ ec_
   subst ea_
   subst ec_
   clear en_
   have p481 : 0 ≤ (((rd_T82 l0_2 a1).f1) : Int) := od
   have q481 : ((rd_T82 l0_2 a1).f1) < (((rd_T82 l0_2 a1).f0).length : Int) := od
   obtain ⟨ad481, e481, hx481⟩ := att132 HR475_0.out ((rd_T82 l0_2 a1).f1) p481 q481
   cases e481
   replace hx481 := ox3 HB hx481
   replace p481 := eq_true p481
   replace q481 := eq_true q481
   go_wp2
   repeat (go_quiet (fail); try go_wp2)
   go_ret
   exact ⟨er, tb HB⟩
end Go.Proofs.YtopikhjcbcpiaaaGreat.Q
section
namespace Go.Proofs.YtopikhjcbcpiaaaGreat.Q
open Go.RowKit Go.Proofs.YtopikhjcbcpiaaaGreatW.PrintWords Go.Proofs.YtopikhjcbcpiaaaGreatW.PrintLast Go.Proofs.YtopikhjcbcpiaaaGreatW.PrintMore
set_option linter.unusedVariables false
def TimeAt (w : World) (g : Nat) (a : Int) : Prop := ∃ v0 v1 v2 v4 v5 v6 v7 : Value, w.heap[g]? = some (.cells #[v0, v1, v2, .int .i64 a, v4, v5, v6, v7] 75 (0, 0))
theorem TimeAt.of {w : World} {g : Nat} {a : Int} {v0 v1 v2 v4 v5 v6 v7 : Value} (h : w.heap[g]? = some (.cells #[v0, v1, v2, .int .i64 a, v4, v5, v6, v7] 75 (0, 0))) : TimeAt w g a := ⟨v0, v1, v2, v4, v5, v6, v7, h⟩
def impl_MachineOk_1.f (x0 x1 x2 x3 x4 x5 x6 x7 : Int) (x8 : List Int) (a1 : Int) (a2 : Int) : Option Bool := if a1 = -1 then some true else impl_from.f a1 x4 a2
set_option maxHeartbeats 4000000 in
set_option maxRecDepth 100000 in
theorem impl_MachineOk_1.calls (x0 x1 x2 x3 x4 x5 x6 x7 : Int) (A8 : Option Addr) (c8 : Nat) (x8 : List Int) (a1 : Int) (g1 : Nat) (a2 : Int) (b : Bool) (w : World) (hr8 : Kd.C (Kd.int .i64) w A8 x8.length x8) (hc8 : x8.length ≤ c8) (hg1 : TimeAt w g1 a2) (h : impl_MachineOk_1.f x0 x1 x2 x3 x4 x5 x6 x7 x8 a1 a2 = some b) :
    Calls Tryz.prog 94 #[.agg #[.int .i64 x0, .int .i64 x1, .int .i64 x2, .int .i64 x3, .int .i64 x4, .int .i64 x5, .int .i64 x6, .int .i64 x7, .slice A8 x8.length c8], .int .i64 a1, .pointer (some ⟨g1, 0, none⟩)] w fun e w' => e = .returned (.bool b) ∧ Below w.heap.size w w' := by
  have huE := Tryz.underlying134
  obtain ⟨v0, v1, v2, v4, v5, v6, v7, hg1⟩ := hg1
  have HG := Aside0.mk hg1
  clear hg1 hr8 hc8
  unfold impl_MachineOk_1.f at h
  by_cases c : a1 = -1
  · rw [if_pos c] at h
    obtain rfl := Option.some.inj h
    have cb : (a1 == -1) = true := beq_iff_eq.2 c
    clear c h
    go_enter Tryz.func94, Tryz.ntmps94
    go_wp2_with (first | ((with_reducible refine gate_dst (N := 3) rfl ?_); refine box_event ?hg (N := 3) ?hd (cs := #[.int .i64 x0, .int .i64 x1, .int .i64 x2, .int .i64 x3, .int .i64 x4, .int .i64 x5, .int .i64 x6, .int .i64 x7, .slice A8 x8.length c8]) (t := 134) ?hr ?_; (case hd => rfl); (case hg => rfl); (case hr => first | (go_simp; done) | (go_simp; rfl)); intro gb hg_ w2 hbox hb; have HB := Aside0.mk hb; clear hb hg_ hbox))
    go_ret
    exact ⟨rfl, HB.out⟩
  · rw [if_neg c] at h
    have cb : (a1 == -1) = false := beq_eq_false_iff_ne.2 c
    have E := Aside0.mk h
    clear c h
    go_enter Tryz.func94, Tryz.ntmps94
    go_wp2_with (first | ((with_reducible refine gate_dst (N := 3) rfl ?_); refine box_event ?hg (N := 3) ?hd (cs := #[.int .i64 x0, .int .i64 x1, .int .i64 x2, .int .i64 x3, .int .i64 x4, .int .i64 x5, .int .i64 x6, .int .i64 x7, .slice A8 x8.length c8]) (t := 134) ?hr ?_; (case hd => rfl); (case hg => rfl); (case hr => first | (go_simp; done) | (go_simp; rfl)); intro gb hg_ w2 hbox hb; have HB := Aside0.mk hb; have hc_ : w2.cell? ⟨g1, 3, none⟩ = some (.int .i64 a2) := (blk_cell (blk_below HG.out hb) 3).trans rfl; have hz4 : w2.cell? ⟨gb, 4, none⟩ = some (.int .i64 x4) := (blk_cell hbox 4).trans rfl; clear hb hg_ hbox) | (go_at_call 62; (with_reducible refine (impl_from.calls a1 x4 a2 b _ E.out).mono ?_); rintro e w' ⟨rfl, ⟨nd, rfl⟩⟩))
    go_ret
    exact ⟨by first | rfl | (simp; done) | (simp [*]; done), by repeat (first | (with_reducible first | exact HB.out | apply below_alloc | apply pw_below_drewN | apply below_drew1) | exact HB.out)⟩
end Go.Proofs.YtopikhjcbcpiaaaGreat.Q
end
namespace Go.Proofs.YtopikhjcbcpiaaaGreat.Q
open Go.RowKit Go.Proofs.YtopikhjcbcpiaaaGreatW.PrintWords Go.Proofs.YtopikhjcbcpiaaaGreatW.PrintLast Go.Proofs.YtopikhjcbcpiaaaGreatW.PrintMore
attribute [local go_sem] max2_int min2_int max_two min_two max_three min_three max_four min_four   -- for this text's walks alone
set_option linter.unusedVariables false
set_option linter.unusedSimpArgs false
def impl_Finished_1.f (l0_0 : List (S132)) (a0_1 : Int) (a0_2 : Bool) (l0_3 : List (S145)) (l0_4 : List (S42)) : Option (Bool) := (impl_ThreadDone.f l0_0 a0_1 a0_2 l0_3 l0_4).bind fun t648 => (some (!t648))
set_option maxHeartbeats 8000000 in
set_option maxRecDepth 100000 in
theorem impl_Finished_1.calls (A0_0 : Option Addr) (c0_0 : Nat) (l0_0 : List (S132)) (a0_1 : Int) (a0_2 : Bool) (A0_3 : Option Addr) (c0_3 : Nat) (l0_3 : List (S145)) (A0_4 : Option Addr) (c0_4 : Nat) (l0_4 : List (S42)) (r : Bool) (w : World) (hr0_0 : Kd.C k132 w A0_0 l0_0.length l0_0) (hc0_0 : l0_0.length ≤ c0_0) (hr0_3 : Kd.C k145 w A0_3 l0_3.length l0_3) (hc0_3 : l0_3.length ≤ c0_3) (hr0_4 : Kd.C k42 w A0_4 l0_4.length l0_4) (hc0_4 : l0_4.length ≤ c0_4) (h : impl_Finished_1.f l0_0 a0_1 a0_2 l0_3 l0_4 = some r) :
  Calls Tryz.prog 104 #[.agg #[.slice A0_0 l0_0.length c0_0, .int .i64 a0_1, .bool a0_2, .slice A0_3 l0_3.length c0_3, .slice A0_4 l0_4.length c0_4]] w fun e w' => e = .returned (.bool r) ∧ Below w.heap.size w w' := by
 have hu82 := Tryz.underlying82
 have HR0_0 := Aside0.mk hr0_0
 have HC0_0 := Aside0.mk hc0_0
 clear hr0_0 hc0_0
 have HR0_3 := Aside0.mk hr0_3
 have HC0_3 := Aside0.mk hc0_3
 clear hr0_3 hc0_3
 have HR0_4 := Aside0.mk hr0_4
 have HC0_4 := Aside0.mk hc0_4
 clear hr0_4 hc0_4
 have HB := Aside0.mk (Below.refl w.heap.size w)
 have H := h
 clear h
 unfold impl_Finished_1.f at H
 obtain ⟨t648, A2, H⟩ := bn H
 try dsimp only at H
 obtain rfl := oin H
 go_enter Tryz.func104, Tryz.ntmps104
 go_wp2_with (first | ((with_reducible refine gq 1 rfl ?_); refine bx0 HB (N := 1) (t := 82) ?_; clear HB; intro gb647 w3 BK647 GE647 HB; have hz4 := cs5_ BK647) | ((with_reducible refine gf 51 rfl ?_); refine gL 4 Tryz.func51 #[.agg #[.slice A0_0 l0_0.length c0_0, .int .i64 a0_1, .bool a0_2, .slice A0_3 l0_3.length c0_3, .slice A0_4 l0_4.length c0_4]] ?_; (with_reducible refine (impl_ThreadDone.calls _ _ l0_0 a0_1 a0_2 _ _ l0_3 _ _ l0_4 t648 _ (kc HR0_0 HB) HC0_0.out (kc HR0_3 HB) HC0_3.out (kc HR0_4 HB) HC0_4.out A2.out).mono ?_); rintro e w5 ⟨rfl, hb⟩; refine ⟨_, rfl, ?_⟩; replace BK647 := bb BK647 hb; replace HB := bs HB hb; (try clear hb)))
 go_ret
 exact ⟨er, tb HB⟩
end Go.Proofs.YtopikhjcbcpiaaaGreat.Q
section
namespace Go.Proofs.YtopikhjcbcpiaaaGreat.Q
open Go.RowKit Go.Proofs.YtopikhjcbcpiaaaGreatW.PrintWords Go.Proofs.YtopikhjcbcpiaaaGreatX
structure S62 where
  f0 : List S207
  f1 : List S201
def k62 : Kd S62 := Kd.iso (Kd.pair (Kd.slice 207 k207) (Kd.slice 201 k201)) (fun x : S62 => (x.f0, x.f1))
theorem k62_open {w : World} {x : S62} {cs : List Value} (h : k62.K w x cs) : ∃ A0 c0 A1 c1, cs = [.slice A0 x.f0.length c0, .slice A1 x.f1.length c1] ∧ x.f0.length ≤ c0 ∧ k207.C w A0 x.f0.length x.f0 ∧ x.f1.length ≤ c1 ∧ k201.C w A1 x.f1.length x.f1 := by
  obtain ⟨_, _, rfl, ⟨A0, c0, rfl, l0, g0⟩, ⟨A1, c1, rfl, l1, g1⟩⟩ := h
  exact ⟨A0, c0, A1, c1, rfl, l0, g0, l1, g1⟩
structure S66 where
  f0 : List Int
  f1 : Int
def k66 : Kd S66 := Kd.iso (Kd.pair (Kd.slice 3 (Kd.int .i64)) (Kd.int .i64)) (fun x : S66 => (x.f0, x.f1))
theorem k66_open {w : World} {x : S66} {cs : List Value} (h : k66.K w x cs) : ∃ A0 c0, cs = [.slice A0 x.f0.length c0, .int .i64 x.f1] ∧ x.f0.length ≤ c0 ∧ (Kd.int .i64).C w A0 x.f0.length x.f0 := by
  obtain ⟨_, _, rfl, ⟨A0, c0, rfl, l0, g0⟩, rfl⟩ := h
  exact ⟨A0, c0, rfl, l0, g0⟩
structure S68 where
  f0 : S62
  f1 : List S171
  f2 : Int
  f3 : List S176
  f4 : List Int
  f5 : S66
def k68 : Kd S68 := Kd.iso (Kd.pair k62 (Kd.pair (Kd.slice 171 k171) (Kd.pair (Kd.int .i64) (Kd.pair (Kd.slice 176 k176) (Kd.pair (Kd.slice 3 (Kd.int .i64)) k66))))) (fun x : S68 => (x.f0, x.f1, x.f2, x.f3, x.f4, x.f5))
theorem k68_open {w : World} {x : S68} {cs : List Value} (h : k68.K w x cs) : ∃ A0 c0 A1 c1 A2 c2 A4 c4 A5 c5 A6 c6, cs = [.slice A0 x.f0.f0.length c0, .slice A1 x.f0.f1.length c1, .slice A2 x.f1.length c2, .int .i64 x.f2, .slice A4 x.f3.length c4, .slice A5 x.f4.length c5, .slice A6 x.f5.f0.length c6, .int .i64 x.f5.f1] ∧ x.f0.f0.length ≤ c0 ∧ k207.C w A0 x.f0.f0.length x.f0.f0 ∧ x.f0.f1.length ≤ c1 ∧ k201.C w A1 x.f0.f1.length x.f0.f1 ∧ x.f1.length ≤ c2 ∧ k171.C w A2 x.f1.length x.f1 ∧ x.f3.length ≤ c4 ∧ k176.C w A4 x.f3.length x.f3 ∧ x.f4.length ≤ c5 ∧ (Kd.int .i64).C w A5 x.f4.length x.f4 ∧ x.f5.f0.length ≤ c6 ∧ (Kd.int .i64).C w A6 x.f5.f0.length x.f5.f0 := by
  obtain ⟨_, _, rfl, s0, ⟨_, _, rfl, ⟨A2, c2, rfl, l2, g2⟩, ⟨_, _, rfl, rfl, ⟨_, _, rfl, ⟨A4, c4, rfl, l4, g4⟩, ⟨_, _, rfl, ⟨A5, c5, rfl, l5, g5⟩, s6⟩⟩⟩⟩⟩ := h
  obtain ⟨A0, c0, A1, c1, rfl, l0, g0, l1, g1⟩ := k62_open s0
  obtain ⟨A6, c6, rfl, l6, g6⟩ := k66_open s6
  exact ⟨A0, c0, A1, c1, A2, c2, A4, c4, A5, c5, A6, c6, rfl, l0, g0, l1, g1, l2, g2, l4, g4, l5, g5, l6, g6⟩
def ok207 (x : S207) : Prop := (Lit.int .i64 x.f0).wf = true ∧ (Lit.int .i64 x.f1).wf = true ∧ (Lit.int .i64 x.f2).wf = true
theorem opens207 {H : Type} {enc : TypeId × Value → H} {W : World} : Opens enc Tryz.prog W k207 207 ok207 :=
  Opens.struct (g := fun a => ⟨a.1, a.2.1, a.2.2⟩) (fun a => rfl) Tryz.underlying207 (by kernel_rfl) (OpensFs.cons rfl (Opens.int Tryz.underlying3 (by kernel_rfl)) (OpensFs.cons rfl (Opens.int Tryz.underlying3 (by kernel_rfl)) (OpensFs.last rfl (Opens.int Tryz.underlying3 (by kernel_rfl)))))
def ok236 (x : S236) : Prop := (Lit.int .i64 x.f0).wf = true ∧ (Lit.int .i64 x.f1).wf = true ∧ (Lit.int .i64 x.f2).wf = true
theorem opens236 {H : Type} {enc : TypeId × Value → H} {W : World} : Opens enc Tryz.prog W k236 236 ok236 :=
  Opens.struct (g := fun a => ⟨a.1, a.2.1, a.2.2⟩) (fun a => rfl) Tryz.underlying236 (by kernel_rfl) (OpensFs.cons rfl (Opens.int Tryz.underlying3 (by kernel_rfl)) (OpensFs.cons rfl (Opens.int Tryz.underlying3 (by kernel_rfl)) (OpensFs.last rfl (Opens.int Tryz.underlying3 (by kernel_rfl)))))
def ok174 (x : S174) : Prop := (Lit.int .i64 x.f0).wf = true ∧ (x.f1.length ≤ 9223372036854775807 ∧ ∀ a ∈ x.f1, (Lit.int .i64 a).wf = true)
theorem opens174 {H : Type} {enc : TypeId × Value → H} {W : World} : Opens enc Tryz.prog W k174 174 ok174 :=
  Opens.struct (g := fun a => ⟨a.1, a.2⟩) (fun a => rfl) Tryz.underlying174 (by kernel_rfl) (OpensFs.cons rfl (Opens.int Tryz.underlying3 (by kernel_rfl)) (OpensFs.last rfl (Opens.slice Tryz.underlying29 (by kernel_rfl) (Opens.int Tryz.underlying3 (by kernel_rfl)))))
def ok201 (x : S201) : Prop := (Lit.int .i64 x.f0).wf = true ∧ (Lit.int .i64 x.f1).wf = true ∧ (x.f2.length ≤ 9223372036854775807 ∧ ∀ a ∈ x.f2, ok236 a) ∧ ok174 x.f3
theorem opens201 {H : Type} {enc : TypeId × Value → H} {W : World} : Opens enc Tryz.prog W k201 201 ok201 :=
  Opens.struct (g := fun a => ⟨a.1, a.2.1, a.2.2.1, a.2.2.2⟩) (fun a => rfl) Tryz.underlying201 (by kernel_rfl) (OpensFs.cons rfl (Opens.int Tryz.underlying3 (by kernel_rfl)) (OpensFs.cons rfl (Opens.int Tryz.underlying3 (by kernel_rfl)) (OpensFs.cons rfl (Opens.slice Tryz.underlying199 (by kernel_rfl) opens236) (OpensFs.last rfl opens174))))
def ok173 (x : S173) : Prop := (Lit.int .i64 x.f0).wf = true ∧ (Lit.int .i64 x.f1).wf = true ∧ (Lit.int .i64 x.f2).wf = true
theorem opens173 {H : Type} {enc : TypeId × Value → H} {W : World} : Opens enc Tryz.prog W k173 173 ok173 :=
  Opens.struct (g := fun a => ⟨a.1, a.2.1, a.2.2⟩) (fun a => rfl) Tryz.underlying173 (by kernel_rfl) (OpensFs.cons rfl (Opens.int Tryz.underlying3 (by kernel_rfl)) (OpensFs.cons rfl (Opens.int Tryz.underlying3 (by kernel_rfl)) (OpensFs.last rfl (Opens.int Tryz.underlying3 (by kernel_rfl)))))
def ok224 (x : S224) : Prop := (Lit.int .i64 x.f0).wf = true ∧ (Lit.int .i64 x.f1).wf = true
theorem opens224 {H : Type} {enc : TypeId × Value → H} {W : World} : Opens enc Tryz.prog W k224 224 ok224 :=
  Opens.struct (g := fun a => ⟨a.1, a.2⟩) (fun a => rfl) Tryz.underlying224 (by kernel_rfl) (OpensFs.cons rfl (Opens.int Tryz.underlying3 (by kernel_rfl)) (OpensFs.last rfl (Opens.int Tryz.underlying3 (by kernel_rfl))))
def ok226 (x : S226) : Prop := (Lit.int .i64 x.f0).wf = true ∧ (Lit.int .i64 x.f1).wf = true ∧ (Lit.int .i64 x.f2).wf = true ∧ (Lit.int .i64 x.f3).wf = true
theorem opens226 {H : Type} {enc : TypeId × Value → H} {W : World} : Opens enc Tryz.prog W k226 226 ok226 :=
  Opens.struct (g := fun a => ⟨a.1, a.2.1, a.2.2.1, a.2.2.2⟩) (fun a => rfl) Tryz.underlying226 (by kernel_rfl) (OpensFs.cons rfl (Opens.int Tryz.underlying3 (by kernel_rfl)) (OpensFs.cons rfl (Opens.int Tryz.underlying3 (by kernel_rfl)) (OpensFs.cons rfl (Opens.int Tryz.underlying3 (by kernel_rfl)) (OpensFs.last rfl (Opens.int Tryz.underlying3 (by kernel_rfl))))))
def ok171 (x : S171) : Prop := (x.f0.length ≤ 9223372036854775807 ∧ ∀ a ∈ x.f0, ok173 a) ∧ (Lit.int .i64 x.f1).wf = true ∧ True ∧ (x.f3.length ≤ 9223372036854775807 ∧ ∀ a ∈ x.f3, ok224 a) ∧ (x.f4.length ≤ 9223372036854775807 ∧ ∀ a ∈ x.f4, ok226 a)
theorem opens171 {H : Type} {enc : TypeId × Value → H} {W : World} : Opens enc Tryz.prog W k171 171 ok171 :=
  Opens.struct (g := fun a => ⟨a.1, a.2.1, a.2.2.1, a.2.2.2.1, a.2.2.2.2⟩) (fun a => rfl) Tryz.underlying171 (by kernel_rfl) (OpensFs.cons rfl (Opens.slice Tryz.underlying167 (by kernel_rfl) opens173) (OpensFs.cons rfl (Opens.int Tryz.underlying3 (by kernel_rfl)) (OpensFs.cons rfl (Opens.bool Tryz.underlying4 (by kernel_rfl)) (OpensFs.cons rfl (Opens.slice Tryz.underlying168 (by kernel_rfl) opens224) (OpensFs.last rfl (Opens.slice Tryz.underlying169 (by kernel_rfl) opens226))))))
def ok176 (x : S176) : Prop := (Lit.int .i64 x.f0).wf = true ∧ ok173 x.f1 ∧ (Lit.int .i64 x.f2).wf = true ∧ (Lit.int .i64 x.f3).wf = true ∧ (Lit.int .i64 x.f4).wf = true ∧ ok174 x.f5
theorem opens176 {H : Type} {enc : TypeId × Value → H} {W : World} : Opens enc Tryz.prog W k176 176 ok176 :=
  Opens.struct (g := fun a => ⟨a.1, a.2.1, a.2.2.1, a.2.2.2.1, a.2.2.2.2.1, a.2.2.2.2.2⟩) (fun a => rfl) Tryz.underlying176 (by kernel_rfl) (OpensFs.cons rfl (Opens.int Tryz.underlying3 (by kernel_rfl)) (OpensFs.cons rfl opens173 (OpensFs.cons rfl (Opens.int Tryz.underlying3 (by kernel_rfl)) (OpensFs.cons rfl (Opens.int Tryz.underlying3 (by kernel_rfl)) (OpensFs.cons rfl (Opens.int Tryz.underlying3 (by kernel_rfl)) (OpensFs.last rfl opens174))))))
def ok62 (x : S62) : Prop := (x.f0.length ≤ 9223372036854775807 ∧ ∀ a ∈ x.f0, ok207 a) ∧ (x.f1.length ≤ 9223372036854775807 ∧ ∀ a ∈ x.f1, ok201 a)
theorem opens62 {H : Type} {enc : TypeId × Value → H} {W : World} : Opens enc Tryz.prog W k62 62 ok62 :=
  Opens.struct (g := fun a => ⟨a.1, a.2⟩) (fun a => rfl) Tryz.underlying62 (by kernel_rfl) (OpensFs.cons rfl (Opens.slice Tryz.underlying59 (by kernel_rfl) opens207) (OpensFs.last rfl (Opens.slice Tryz.underlying60 (by kernel_rfl) opens201)))
def ok66 (x : S66) : Prop := (x.f0.length ≤ 9223372036854775807 ∧ ∀ a ∈ x.f0, (Lit.int .i64 a).wf = true) ∧ (Lit.int .i64 x.f1).wf = true
theorem opens66 {H : Type} {enc : TypeId × Value → H} {W : World} : Opens enc Tryz.prog W k66 66 ok66 :=
  Opens.struct (g := fun a => ⟨a.1, a.2⟩) (fun a => rfl) Tryz.underlying66 (by kernel_rfl) (OpensFs.cons rfl (Opens.slice Tryz.underlying29 (by kernel_rfl) (Opens.int Tryz.underlying3 (by kernel_rfl))) (OpensFs.last rfl (Opens.int Tryz.underlying3 (by kernel_rfl))))
def ok68 (x : S68) : Prop := ok62 x.f0 ∧ (x.f1.length ≤ 9223372036854775807 ∧ ∀ a ∈ x.f1, ok171 a) ∧ (Lit.int .i64 x.f2).wf = true ∧ (x.f3.length ≤ 9223372036854775807 ∧ ∀ a ∈ x.f3, ok176 a) ∧ (x.f4.length ≤ 9223372036854775807 ∧ ∀ a ∈ x.f4, (Lit.int .i64 a).wf = true) ∧ ok66 x.f5
theorem opens68 {H : Type} {enc : TypeId × Value → H} {W : World} : Opens enc Tryz.prog W k68 68 ok68 :=
  Opens.struct (g := fun a => ⟨a.1, a.2.1, a.2.2.1, a.2.2.2.1, a.2.2.2.2.1, a.2.2.2.2.2⟩) (fun a => rfl) Tryz.underlying68 (by kernel_rfl) (OpensFs.cons rfl opens62 (OpensFs.cons rfl (Opens.slice Tryz.underlying63 (by kernel_rfl) opens171) (OpensFs.cons rfl (Opens.int Tryz.underlying3 (by kernel_rfl)) (OpensFs.cons rfl (Opens.slice Tryz.underlying64 (by kernel_rfl) opens176) (OpensFs.cons rfl (Opens.slice Tryz.underlying29 (by kernel_rfl) (Opens.int Tryz.underlying3 (by kernel_rfl))) (OpensFs.last rfl opens66))))))
end Go.Proofs.YtopikhjcbcpiaaaGreat.Q
end
section
namespace Go.Proofs.YtopikhjcbcpiaaaGreat.Q
open Go.RowKit Go.Proofs.YtopikhjcbcpiaaaGreatW.PrintWords Go.Proofs.YtopikhjcbcpiaaaGreatX
theorem szIntS (l : List Int) (a : Int) (h0 : 0 ≤ a) (h1 : a ≤ 1048576) (hl : l.length ≤ 9223372036854775807) : laws_szIntS.f l a = some (if a < l.length then -1 else a - l.length) := by
  unfold laws_szIntS.f
  rw [wrap_in (by omega) (by omega)]
  by_cases h : a < l.length
  · rw [if_pos (by omega), if_pos h]
  · rw [if_neg (by omega), if_neg h]
theorem ev_toIntS (l : List Int) (hl : l.length ≤ 1048576) : Ev (fun k => laws_toIntS.f k l) l := by
  unfold laws_toIntS.f
  refine ev_pos (by omega) (ev_pos (by omega) ?_)
  refine ev_to (ev_fill (g := fun k acc i => laws_toIntS.l0 k l acc i) (l := l) (cv := fun x => x) (za := 0) ?_ ?_ _ (by simp)) (by simp)
  · intro acc i r hi hacc h
    refine Ev.step (fun k => ?_) h
    simp only [laws_toIntS.l0]
    rw [if_pos (by omega), if_pos (by omega), if_pos (by omega), wrap_succ hi (by omega)]
    rfl
  · intro acc hacc
    refine ev_succ (fun k => ?_)
    simp only [laws_toIntS.l0]
    rw [if_neg (by omega)]
theorem ev_eqIntS (l : List Int) (hl : l.length ≤ 1048576) : Ev (fun k => laws_eqIntS.f k l l) true := by
  unfold laws_eqIntS.f
  refine ev_pos rfl ?_
  refine ev_down (g := fun k i => laws_eqIntS.l0 k l l i) (R := fun _ => true) (n := l.length) ?_ 0 (by omega)
  intro i hi h
  by_cases hlt : i < l.length
  · refine Ev.step (fun k => ?_) (h hlt)
    simp only [laws_eqIntS.l0]
    rw [if_pos (by omega), if_pos (by omega), if_pos (by omega), if_pos trivial, wrap_succ hlt (by omega)]
  · refine ev_succ (fun k => ?_)
    simp only [laws_eqIntS.l0]
    rw [if_neg (by omega)]
end Go.Proofs.YtopikhjcbcpiaaaGreat.Q
end
