/- Part 7 of the steps by which the law is shown: what each function of the program, of the reference and of the law computes. No condition. -/
import Derived.Test.YtopikhjcbcpiaaaGreatFin0
import Derived.Test.YtopikhjcbcpiaaaGreatFin1
import Derived.Test.YtopikhjcbcpiaaaGreatFin2
import Derived.Test.YtopikhjcbcpiaaaGreatFin3
import Derived.Test.YtopikhjcbcpiaaaGreatFin4
namespace Go.Proofs.YtopikhjcbcpiaaaGreat.Q
open Go.RowKit Go.Proofs.YtopikhjcbcpiaaaGreatW.PrintWords Go.Proofs.YtopikhjcbcpiaaaGreatW.PrintLast Go.Proofs.YtopikhjcbcpiaaaGreatW.PrintMore
attribute [local go_sem] max2_int min2_int max_two min_two max_three min_three max_four min_four   -- for this text's walks alone
set_option linter.unusedVariables false
set_option linter.unusedSimpArgs false
def impl_DescOk.l0 : Nat → List (S37) → Int → Int → Int → Int → List (S37) → Int → List Int → Option (Bool)
 | 0, _, _, _, _, _, _, _, _ => none
 | k + 1, x31, x32, x33, x419000, x419001, x419002, x419003, x419004 => if x33 < x32 then (if 0 ≤ x33 then (if x33 < (x31.length : Int) then ((impl_isPlace.f ((rd_T37 x31 x33).f0)).bind fun t423 => (if t423 = true then ((impl_isWordNum.f ((rd_T37 x31 x33).f1)).bind fun t424 => (if t424 = true then ((impl_isWordNum.f ((rd_T37 x31 x33).f2)).bind fun t425 => (if t425 = true then (if x33 > 0 then (if 0 ≤ (wrap64 (x33 - 1)) then (if (wrap64 (x33 - 1)) < (x419002.length : Int) then (if ((rd_T37 x419002 (wrap64 (x33 - 1))).f0) ≥ ((rd_T37 x31 x33).f0) then (some false) else (impl_DescOk.l0 k x31 x32 (wrap64 (x33 + 1)) x419000 x419001 x419002 x419003 x419004)) else (none)) else (none)) else (impl_DescOk.l0 k x31 x32 (wrap64 (x33 + 1)) x419000 x419001 x419002 x419003 x419004)) else (some false))) else (some false))) else (some false))) else (none)) else (none)) else ((impl_from.f x419000 1 1000000).bind fun t419 => (if t419 = true then ((impl_from.f x419001 1 3).bind fun t420 => (if t420 = true then (some (decide ((x419002.length : Int) ≤ 20))) else (some false))) else (some false)))
def impl_DescOk.f (k : Nat) (a0_0 : Int) (a0_1 : Int) (l0_2 : List (S37)) (a0_3 : Int) (l0_4 : List Int) : Option (Bool) := if a0_0 = 0 then (if a0_1 = 0 then (if (l0_2.length : Int) = 0 then (if a0_3 = 0 then (some ((l0_4.length : Int) == 0)) else (some false)) else (some false)) else (some false)) else (impl_DescOk.l0 k l0_2 (l0_2.length : Int) 0 a0_0 a0_1 l0_2 a0_3 l0_4)
theorem impl_DescOk.mono_l : ∀ k, (∀ y0 y1 y2 y3 y4 y5 y6 y7, LeO (impl_DescOk.l0 k y0 y1 y2 y3 y4 y5 y6 y7) (impl_DescOk.l0 (k + 1) y0 y1 y2 y3 y4 y5 y6 y7))
 | 0 => fun _ _ _ _ _ _ _ _ r h => by simp [impl_DescOk.l0] at h
 | k + 1 => by
  have ih0 := impl_DescOk.mono_l k
  ·intro y0 y1 y2 y3 y4 y5 y6 y7
   unfold impl_DescOk.l0
   repeat' first
   | (with_reducible exact ih0 _ _ _ _ _ _ _ _)
   | (with_reducible exact LeO.refl _)
   | (with_reducible exact LeO.none _)
   | (with_reducible refine LeO.ite ?_ ?_)
   | (with_reducible refine LeO.bind ?_ (fun _ => ?_))
   | exact ih0 _ _ _ _ _ _ _ _
   | exact LeO.none _
   | refine LeO.ite ?_ ?_
   | refine LeO.bind ?_ (fun _ => ?_)
theorem impl_DescOk.mono : ∀ a0 a1 a2 a3 a4 k, LeO (impl_DescOk.f k a0 a1 a2 a3 a4) (impl_DescOk.f (k + 1) a0 a1 a2 a3 a4) := by
 intro a0 a1 a2 a3 a4 k
 have ih0 := impl_DescOk.mono_l k
 unfold impl_DescOk.f
 repeat' first
   | (with_reducible exact ih0 _ _ _ _ _ _ _ _)
   | (with_reducible exact LeO.refl _)
   | (with_reducible exact LeO.none _)
   | (with_reducible refine LeO.ite ?_ ?_)
   | (with_reducible refine LeO.bind ?_ (fun _ => ?_))
   | exact ih0 _ _ _ _ _ _ _ _
   | exact LeO.none _
   | refine LeO.ite ?_ ?_
   | refine LeO.bind ?_ (fun _ => ?_)
def impl_DescOk.T6 : Bool × List (List Nat × List Nat) := (true, [([], []), ([0], [0]), ([1], [1]), ([2], [2]), ([3, 2], [3]), ([4], [4]), ([5, 4], [4, 5]), ([6, 4, 4], [4, 6]), ([7, 4], [4, 7]), ([4, 8], [4, 8]), ([9, 7], [9]), ([10], [10]), ([11, 10], [10, 11]), ([12, 10, 10], [10, 12]), ([13, 10], [10, 13]), ([10, 14], [10, 14]), ([15, 13], [15]), ([16], [16]), ([17, 16], [16, 17]), ([18, 16, 16], [16, 18]), ([19], [19]), ([20, 19], [19, 20]), ([19], [19]), ([22, 19], [19, 22]), ([21, 23, 19], [19, 21, 23]), ([24, 19], [19, 24]), ([25, 19], [19, 25]), ([19], [19]), ([27, 19], [19, 27]), ([26, 28, 19], [19, 26, 28]), ([19, 29, 16], [16, 19, 29]), ([16, 30], [16, 30])])
def impl_DescOk.B6 : List Nat := [0, 1, 3, 7, 15, 31, 63, 127, 255, 511, 1023, 2047, 4095, 8191, 16383, 32767, 65535, 131071, 262143, 524287, 1048575, 2097151, 1048575, 5242879, 16777215, 33554431, 67108863, 1048575, 135266303, 536870911, 1073741823, 2147483647]
theorem impl_DescOk.tab6 : rtab .any (opsOf Tryz.f78 6) = impl_DescOk.T6 := by kernel_rfl
theorem impl_DescOk.bits6 : waitsOk impl_DescOk.T6.2 impl_DescOk.B6 = true := by kernel_rfl
set_option maxHeartbeats 8000000 in
set_option maxRecDepth 100000 in
theorem impl_DescOk.calls (k : Nat) (a0_0 : Int) (a0_1 : Int) (A0_2 : Option Addr) (c0_2 : Nat) (l0_2 : List (S37)) (a0_3 : Int) (A0_4 : Option Addr) (c0_4 : Nat) (l0_4 : List Int) (r : Bool) (w : World) (hr0_2 : Kd.C k37 w A0_2 l0_2.length l0_2) (hc0_2 : l0_2.length ≤ c0_2) (hr0_4 : Kd.C (Kd.int .i64) w A0_4 l0_4.length l0_4) (hc0_4 : l0_4.length ≤ c0_4) (h : impl_DescOk.f k a0_0 a0_1 l0_2 a0_3 l0_4 = some r) :
  Calls Tryz.prog 78 #[.agg #[.int .i64 a0_0, .int .i64 a0_1, .slice A0_2 l0_2.length c0_2, .int .i64 a0_3, .slice A0_4 l0_4.length c0_4]] w fun e w' => e = .returned (.bool r) ∧ Below w.heap.size w w' := by
 have hu52 := Tryz.underlying52
 have hu37 := Tryz.underlying37
 have HR0_2 := Aside0.mk hr0_2
 have HC0_2 := Aside0.mk hc0_2
 clear hr0_2 hc0_2
 have HR0_4 := Aside0.mk hr0_4
 have HC0_4 := Aside0.mk hc0_4
 clear hr0_4 hc0_4
 have HB := Aside0.mk (Below.refl w.heap.size w)
 have H := h
 clear h
 unfold impl_DescOk.f at H
 by_cases c2 : a0_0 = 0
 case pos =>
  rw [if_pos c2] at H
  have c2b0 : (a0_0 == 0) = true := beq_iff_eq.mpr c2
  have c2b1 : (a0_0 != 0) = false := bne_eq_false_iff_eq.mpr c2
  clear c2
  by_cases c3 : a0_1 = 0
  case neg =>
   rw [if_neg c3] at H
   have c3b0 : (a0_1 == 0) = false := beq_eq_false_iff_ne.mpr c3
   have c3b1 : (a0_1 != 0) = true := bne_iff_ne.mpr c3
   obtain rfl := oin H
   go_enter Tryz.func78, Tryz.ntmps78
   go_wp2_with (first | ((with_reducible refine gq 1 rfl ?_); (try (refine gate_guard (by rfl) ?_; dsimp only)); refine bx0 HB (N := 1) (t := 52) ?_; clear HB; intro gb418 w12 BK418 GE418 HB; have hz13 := cs5_ BK418))
   go_ret
   exact ⟨er, tb HB⟩
  rw [if_pos c3] at H
  have c3b0 : (a0_1 == 0) = true := beq_iff_eq.mpr c3
  have c3b1 : (a0_1 != 0) = false := bne_eq_false_iff_eq.mpr c3
  clear c3
  by_cases c4 : (l0_2.length : Int) = 0
  case neg =>
   rw [if_neg c4] at H
   have c4b0 : ((l0_2.length : Int) == 0) = false := beq_eq_false_iff_ne.mpr c4
   have c4b1 : ((l0_2.length : Int) != 0) = true := bne_iff_ne.mpr c4
   have c4b2 : ¬ (l0_2 = []) := fun h_ => c4 (by rw [h_]; rfl)
   obtain rfl := oin H
   go_enter Tryz.func78, Tryz.ntmps78
   go_wp2_with (first | ((with_reducible refine gq 1 rfl ?_); (try (refine gate_guard (by rfl) ?_; dsimp only)); refine bx0 HB (N := 1) (t := 52) ?_; clear HB; intro gb418 w10 BK418 GE418 HB; have hz11 := cs5_ BK418))
   go_ret
   exact ⟨er, tb HB⟩
  rw [if_pos c4] at H
  have c4b0 : ((l0_2.length : Int) == 0) = true := beq_iff_eq.mpr c4
  have c4b1 : ((l0_2.length : Int) != 0) = false := bne_eq_false_iff_eq.mpr c4
  clear c4
  by_cases c5 : a0_3 = 0
  case neg =>
   rw [if_neg c5] at H
   have c5b0 : (a0_3 == 0) = false := beq_eq_false_iff_ne.mpr c5
   have c5b1 : (a0_3 != 0) = true := bne_iff_ne.mpr c5
   obtain rfl := oin H
   go_enter Tryz.func78, Tryz.ntmps78
   go_wp2_with (first | ((with_reducible refine gq 1 rfl ?_); (try (refine gate_guard (by rfl) ?_; dsimp only)); refine bx0 HB (N := 1) (t := 52) ?_; clear HB; intro gb418 w8 BK418 GE418 HB; have hz9 := cs5_ BK418))
   go_ret
   exact ⟨er, tb HB⟩
  rw [if_pos c5] at H
  have c5b0 : (a0_3 == 0) = true := beq_iff_eq.mpr c5
  have c5b1 : (a0_3 != 0) = false := bne_eq_false_iff_eq.mpr c5
  clear c5
  obtain rfl := oin H
  go_enter Tryz.func78, Tryz.ntmps78
  go_wp2_with (first | ((with_reducible refine gq 1 rfl ?_); (try (refine gate_guard (by rfl) ?_; dsimp only)); refine bx0 HB (N := 1) (t := 52) ?_; clear HB; intro gb418 w6 BK418 GE418 HB; have hz7 := cs5_ BK418))
  go_ret
  exact ⟨er, tb HB⟩
 rw [if_neg c2] at H
 have c2b0 : (a0_0 == 0) = false := beq_eq_false_iff_ne.mpr c2
 have c2b1 : (a0_0 != 0) = true := bne_iff_ne.mpr c2
 have H' := Aside0.mk H
 clear H
 go_enter Tryz.func78, Tryz.ntmps78
 go_wp2_with (first | ((with_reducible refine gq 1 rfl ?_); (try (refine gate_guard (by rfl) ?_; dsimp only)); refine bx0 HB (N := 1) (t := 52) ?_; clear HB; intro gb418 w14 BK418 GE418 HB; have hz15 := cs5_ BK418))
 go_loopg [33] k (fun kq v33 w' => ∃ (x33_1 : Int), v33 = .int .i64 x33_1 ∧ Aside0 (impl_DescOk.l0 kq l0_2 (l0_2.length : Int) x33_1 a0_0 a0_1 l0_2 a0_3 l0_4 = some r) ∧ Aside0 (kq ≤ k) ∧ Aside0 (w'.heap[gb418]? = some (.cells #[.int .i64 a0_0, .int .i64 a0_1, (.slice A0_2 l0_2.length c0_2), .int .i64 a0_3, (.slice A0_4 l0_4.length c0_4)] 52 (0, 0))) ∧ Aside0 (Below w.heap.size w w'))
 case atStart => exact ⟨(0), rsd, H', ⟨Nat.le_refl _⟩, ⟨by (with_reducible repeat (first | refine blk_drewN ?_ _ | refine blk_drew ?_ | refine blk_alloc ?_ _)); exact BK418.out⟩, ⟨tb HB⟩⟩
 case round =>
  clear H'
  obtain ⟨x33_1, rfl, HA, HK1, BK418, HB⟩ := hrel
  cases gk with
  | zero => exact absurd HA.out (by simp [impl_DescOk.l0])
  | succ k1 =>
   have H := HA.out
   clear HA
   simp only [impl_DescOk.l0] at H
   revert H; refine icd (fun c16b0 H => ?_) fun c16b0 H => ?neg
   case neg =>
    obtain ⟨t419, A60, H⟩ := bn H
    try dsimp only at H
    cases t419
    case false =>
     replace H := ipf H
     obtain rfl := oin H
     have hz66 := cs5_ BK418
     go_wp2_with (first | ((with_reducible refine gf 62 rfl ?_); refine gL 73 Tryz.func62 #[.int .i64 a0_0, .int .i64 1, .int .i64 1000000] ?_; (with_reducible refine (impl_from.calls a0_0 1 1000000 false _ A60.out).mono ?_); rintro e w' ⟨rfl, ⟨nd, rfl⟩⟩; refine ⟨_, rfl, ?_⟩))
     go_ret
     exact ⟨er, tb HB⟩
    replace H := ipt H
    obtain ⟨t420, A62, H⟩ := bn H
    try dsimp only at H
    cases t420
    case true =>
     replace H := ipt H
     obtain rfl := oin H
     have hz64 := cs5_ BK418
     go_wp2_with (first | ((with_reducible refine gf 62 rfl ?_); refine gL 73 Tryz.func62 #[.int .i64 a0_0, .int .i64 1, .int .i64 1000000] ?_; (with_reducible refine (impl_from.calls a0_0 1 1000000 true _ A60.out).mono ?_); rintro e w' ⟨rfl, ⟨nd, rfl⟩⟩; refine ⟨_, rfl, ?_⟩) | (go_at_call 62; (with_reducible refine (impl_from.calls a0_1 1 3 true _ A62.out).mono ?_); rintro e w' ⟨rfl, ⟨nd, rfl⟩⟩))
     go_ret
     exact ⟨er, tb HB⟩
    replace H := ipf H
    obtain rfl := oin H
    have hz65 := cs5_ BK418
    go_wp2_with (first | ((with_reducible refine gf 62 rfl ?_); refine gL 73 Tryz.func62 #[.int .i64 a0_0, .int .i64 1, .int .i64 1000000] ?_; (with_reducible refine (impl_from.calls a0_0 1 1000000 true _ A60.out).mono ?_); rintro e w' ⟨rfl, ⟨nd, rfl⟩⟩; refine ⟨_, rfl, ?_⟩) | (go_at_call 62; (with_reducible refine (impl_from.calls a0_1 1 3 false _ A62.out).mono ?_); rintro e w' ⟨rfl, ⟨nd, rfl⟩⟩))
    go_ret
    exact ⟨er, tb HB⟩
   obtain ⟨c17b0, H⟩ := itd H
   obtain ⟨c18b0, H⟩ := itd H
   obtain ⟨t423, A19, H⟩ := bn H
   try dsimp only at H
   cases t423
   case false =>
    replace H := ipf H
    obtain rfl := oin H
    have p421 : 0 ≤ (x33_1 : Int) := od
    have q421 : x33_1 < (l0_2.length : Int) := od
    obtain ⟨ad421, e421, hx421⟩ := att37 HR0_2.out x33_1 p421 q421
    cases e421
    replace hx421 := ox3 HB hx421
    replace p421 := eq_true p421
    replace q421 := eq_true q421
    try go_wp2_with (first | ((with_reducible refine gq 4 rfl ?_); (try (refine gate_guard (by rfl) ?_; dsimp only)); refine bx1 HB BK418 (N := 4) (cs := #[.int .i64 0, .int .i64 0, .int .i64 0]) (t := 37) ?_; clear HB BK418; intro gb422 w55 BK422 GE422 HB NB418_422 NB422_418 BK418; have hnb56 := NB422_418.out; have hnc56 := NB418_422.out; have hz57 := cs3_ BK422))
    have n0_ : Aside0 ((((w55.setCell ⟨gb422, 0, none⟩ (.int .i64 ((rd_T37 l0_2 x33_1).f0))).setCell ⟨gb422, 1, none⟩ (.int .i64 ((rd_T37 l0_2 x33_1).f1))).setCell ⟨gb422, 2, none⟩ (.int .i64 ((rd_T37 l0_2 x33_1).f2))).heap[gb418]? = some (.cells #[.int .i64 a0_0, .int .i64 a0_1, .slice (some ad421) l0_2.length c0_2, .int .i64 a0_3, .slice A0_4 l0_4.length c0_4] 52 (0, 0))) := ⟨bf BK418⟩
    have n1_ : Aside0 ((((w55.setCell ⟨gb422, 0, none⟩ (.int .i64 ((rd_T37 l0_2 x33_1).f0))).setCell ⟨gb422, 1, none⟩ (.int .i64 ((rd_T37 l0_2 x33_1).f1))).setCell ⟨gb422, 2, none⟩ (.int .i64 ((rd_T37 l0_2 x33_1).f2))).heap[gb422]? = some (.cells #[.int .i64 ((rd_T37 l0_2 x33_1).f0), .int .i64 ((rd_T37 l0_2 x33_1).f1), .int .i64 ((rd_T37 l0_2 x33_1).f2)] 37 (0, 0))) := ⟨bfp3 BK422⟩
    have n2_ : Aside0 (Below w.heap.size w (((w55.setCell ⟨gb422, 0, none⟩ (.int .i64 ((rd_T37 l0_2 x33_1).f0))).setCell ⟨gb422, 1, none⟩ (.int .i64 ((rd_T37 l0_2 x33_1).f1))).setCell ⟨gb422, 2, none⟩ (.int .i64 ((rd_T37 l0_2 x33_1).f2)))) := ⟨tb HB⟩
    (try clear BK418)
    (try clear BK422)
    (try clear HB)
    generalize (((w55.setCell ⟨gb422, 0, none⟩ (.int .i64 ((rd_T37 l0_2 x33_1).f0))).setCell ⟨gb422, 1, none⟩ (.int .i64 ((rd_T37 l0_2 x33_1).f1))).setCell ⟨gb422, 2, none⟩ (.int .i64 ((rd_T37 l0_2 x33_1).f2))) = w58 at n0_ n1_ n2_ ⊢
    have BK418 := n0_
    have BK422 := n1_
    have HB := n2_
    clear n0_ n1_ n2_
    replace BK418 := bd BK418
    replace BK422 := bd BK422
    replace HB := Aside0.mk (below_drew1 HB.out)
    refine start_ (n := 32) (S := fun w' => cS3 gb422 (.int .i64 ((rd_T37 l0_2 x33_1).f0)) (.int .i64 ((rd_T37 l0_2 x33_1).f1)) (.int .i64 ((rd_T37 l0_2 x33_1).f2)) w') (ds := []) #[false, false, false, false, false, false, false, false, false, false, false, false, false, false, false, false, false, false, false, false, false, false, false, false, false, false, false, false, false, false, false, false] (by kernel_rfl) rfl rfl (ds3_ BK422) (fun hHeld => ?_); refine with_tabW impl_DescOk.tab6 impl_DescOk.bits6 (fun HT_ HW_ => ?_)
    generalize w58.drew = w59 at BK418 BK422 HB hHeld ⊢
    refine pu 0 38 ?_; refine ta 1 39 ?_
    refine on1 2 (some 40) (fun K hK => ?_)
    refine gS Tryz.func114 #[.int .i64 ((rd_T37 l0_2 x33_1).f0)] ?_
    with_reducible refine (impl_isPlace.calls ((rd_T37 l0_2 x33_1).f0) false _ A19.out).mono ?_
    rintro e w' ⟨rfl, ⟨nd, rfl⟩⟩
    refine ⟨_, rfl, ?_⟩
    refine hK.out _ _ (ds3_ BK422) (fun hHeld => ?_)
    clear hK K
    refine nm 40 ?_
    refine pu 3 41 ?_; refine pu 4 42 ?_; refine pn 5 43 ?_; refine pn 6 44 ?_; refine pn 7 45 ?_; refine pn 8 46 ?_; refine pu 9 47 ?_; refine pu 10 48 ?_; refine pn 11 49 ?_; refine pn 12 50 ?_; refine pn 13 51 ?_; refine pn 14 52 ?_
    refine pu 15 53 ?_; refine pu 16 54 ?_; refine pn 17 55 ?_; refine pn 18 56 ?_; refine pn 19 57 ?_; refine pn 20 58 ?_; refine pn 21 59 ?_; refine pn 22 60 ?_; refine pn 23 61 ?_; refine pn 24 62 ?_; refine pn 25 63 ?_; refine pn 26 64 ?_
    refine pn 27 65 ?_; refine pn 28 66 ?_; refine pn 29 67 ?_; refine pn 30 68 ?_; refine pu 31 69 ?_
    refine done_ (done_of HT_.out (by kernel_rfl)) ?_
    try go_wp2
    go_ret
    exact ⟨er, tb HB⟩
   replace H := ipt H
   obtain ⟨t424, A21, H⟩ := bn H
   try dsimp only at H
   cases t424
   case false =>
    replace H := ipf H
    obtain rfl := oin H
    have p421 : 0 ≤ (x33_1 : Int) := od
    have q421 : x33_1 < (l0_2.length : Int) := od
    obtain ⟨ad421, e421, hx421_0, hx421_1, hx421_2⟩ := at_T37 HR0_2.out x33_1 p421 q421
    cases e421
    replace hx421_0 := ox HB hx421_0
    replace hx421_1 := ox HB hx421_1
    replace hx421_2 := ox HB hx421_2
    replace p421 := eq_true p421
    replace q421 := eq_true q421
    try go_wp2_with (first | ((with_reducible refine gq 4 rfl ?_); (try (refine gate_guard (by rfl) ?_; dsimp only)); refine bx1 HB BK418 (N := 4) (cs := #[.int .i64 0, .int .i64 0, .int .i64 0]) (t := 37) ?_; clear HB BK418; intro gb422 w50 BK422 GE422 HB NB418_422 NB422_418 BK418; have hnb51 := NB422_418.out; have hnc51 := NB418_422.out; have hz52 := cs3_ BK422))
    have n0_ : Aside0 ((((w50.setCell ⟨gb422, 0, none⟩ (.int .i64 ((rd_T37 l0_2 x33_1).f0))).setCell ⟨gb422, 1, none⟩ (.int .i64 ((rd_T37 l0_2 x33_1).f1))).setCell ⟨gb422, 2, none⟩ (.int .i64 ((rd_T37 l0_2 x33_1).f2))).heap[gb418]? = some (.cells #[.int .i64 a0_0, .int .i64 a0_1, .slice (some ad421) l0_2.length c0_2, .int .i64 a0_3, .slice A0_4 l0_4.length c0_4] 52 (0, 0))) := ⟨bf BK418⟩
    have n1_ : Aside0 ((((w50.setCell ⟨gb422, 0, none⟩ (.int .i64 ((rd_T37 l0_2 x33_1).f0))).setCell ⟨gb422, 1, none⟩ (.int .i64 ((rd_T37 l0_2 x33_1).f1))).setCell ⟨gb422, 2, none⟩ (.int .i64 ((rd_T37 l0_2 x33_1).f2))).heap[gb422]? = some (.cells #[.int .i64 ((rd_T37 l0_2 x33_1).f0), .int .i64 ((rd_T37 l0_2 x33_1).f1), .int .i64 ((rd_T37 l0_2 x33_1).f2)] 37 (0, 0))) := ⟨bfp3 BK422⟩
    have n2_ : Aside0 (Below w.heap.size w (((w50.setCell ⟨gb422, 0, none⟩ (.int .i64 ((rd_T37 l0_2 x33_1).f0))).setCell ⟨gb422, 1, none⟩ (.int .i64 ((rd_T37 l0_2 x33_1).f1))).setCell ⟨gb422, 2, none⟩ (.int .i64 ((rd_T37 l0_2 x33_1).f2)))) := ⟨tb HB⟩
    (try clear BK418)
    (try clear BK422)
    (try clear HB)
    generalize (((w50.setCell ⟨gb422, 0, none⟩ (.int .i64 ((rd_T37 l0_2 x33_1).f0))).setCell ⟨gb422, 1, none⟩ (.int .i64 ((rd_T37 l0_2 x33_1).f1))).setCell ⟨gb422, 2, none⟩ (.int .i64 ((rd_T37 l0_2 x33_1).f2))) = w53 at n0_ n1_ n2_ ⊢
    have BK418 := n0_
    have BK422 := n1_
    have HB := n2_
    clear n0_ n1_ n2_
    replace BK418 := bd BK418
    replace BK422 := bd BK422
    replace HB := Aside0.mk (below_drew1 HB.out)
    refine start_ (n := 32) (S := fun w' => cS3 gb422 (.int .i64 ((rd_T37 l0_2 x33_1).f0)) (.int .i64 ((rd_T37 l0_2 x33_1).f1)) (.int .i64 ((rd_T37 l0_2 x33_1).f2)) w') (ds := []) #[false, false, false, false, false, false, false, false, false, false, false, false, false, false, false, false, false, false, false, false, false, false, false, false, false, false, false, false, false, false, false, false] (by kernel_rfl) rfl rfl (ds3_ BK422) (fun hHeld => ?_); refine with_tabW impl_DescOk.tab6 impl_DescOk.bits6 (fun HT_ HW_ => ?_)
    generalize w53.drew = w54 at BK418 BK422 HB hHeld ⊢
    refine pu 0 38 ?_; refine ta 1 39 ?_
    refine on1 2 (some 40) (fun K hK => ?_)
    refine gS Tryz.func114 #[.int .i64 ((rd_T37 l0_2 x33_1).f0)] ?_
    with_reducible refine (impl_isPlace.calls ((rd_T37 l0_2 x33_1).f0) true _ A19.out).mono ?_
    rintro e w' ⟨rfl, ⟨nd, rfl⟩⟩
    refine ⟨_, rfl, ?_⟩
    refine hK.out _ _ (ds3_ BK422) (fun hHeld => ?_)
    clear hK K
    refine nm 40 ?_
    refine pu 3 41 ?_; refine pu 4 42 ?_; refine pu 5 43 ?_; refine ta 6 44 ?_
    refine on1 7 (some 45) (fun K hK => ?_)
    refine gS Tryz.func115 #[.int .i64 ((rd_T37 l0_2 x33_1).f1)] ?_
    with_reducible refine (impl_isWordNum.calls ((rd_T37 l0_2 x33_1).f1) false _ A21.out).mono ?_
    rintro e w' ⟨rfl, ⟨nd, rfl⟩⟩
    refine ⟨_, rfl, ?_⟩
    refine hK.out _ _ (ds3_ BK422) (fun hHeld => ?_)
    clear hK K
    refine nm 45 ?_
    refine pu 8 46 ?_; refine pu 9 47 ?_; refine pu 10 48 ?_; refine pn 11 49 ?_; refine pn 12 50 ?_; refine pn 13 51 ?_; refine pn 14 52 ?_; refine pu 15 53 ?_; refine pu 16 54 ?_; refine pn 17 55 ?_; refine pn 18 56 ?_; refine pn 19 57 ?_
    refine pn 20 58 ?_; refine pn 21 59 ?_; refine pn 22 60 ?_; refine pn 23 61 ?_; refine pn 24 62 ?_; refine pn 25 63 ?_; refine pn 26 64 ?_; refine pn 27 65 ?_; refine pn 28 66 ?_; refine pn 29 67 ?_; refine pn 30 68 ?_; refine pu 31 69 ?_
    refine done_ (done_of HT_.out (by kernel_rfl)) ?_
    try go_wp2
    go_ret
    exact ⟨er, tb HB⟩
   replace H := ipt H
   obtain ⟨t425, A23, H⟩ := bn H
   try dsimp only at H
   cases t425
   case false =>
    replace H := ipf H
    obtain rfl := oin H
    have p421 : 0 ≤ (x33_1 : Int) := od
    have q421 : x33_1 < (l0_2.length : Int) := od
    obtain ⟨ad421, e421, hx421_0, hx421_1, hx421_2⟩ := at_T37 HR0_2.out x33_1 p421 q421
    cases e421
    replace hx421_0 := ox HB hx421_0
    replace hx421_1 := ox HB hx421_1
    replace hx421_2 := ox HB hx421_2
    replace p421 := eq_true p421
    replace q421 := eq_true q421
    try go_wp2_with (first | ((with_reducible refine gq 4 rfl ?_); (try (refine gate_guard (by rfl) ?_; dsimp only)); refine bx1 HB BK418 (N := 4) (cs := #[.int .i64 0, .int .i64 0, .int .i64 0]) (t := 37) ?_; clear HB BK418; intro gb422 w45 BK422 GE422 HB NB418_422 NB422_418 BK418; have hnb46 := NB422_418.out; have hnc46 := NB418_422.out; have hz47 := cs3_ BK422))
    have n0_ : Aside0 ((((w45.setCell ⟨gb422, 0, none⟩ (.int .i64 ((rd_T37 l0_2 x33_1).f0))).setCell ⟨gb422, 1, none⟩ (.int .i64 ((rd_T37 l0_2 x33_1).f1))).setCell ⟨gb422, 2, none⟩ (.int .i64 ((rd_T37 l0_2 x33_1).f2))).heap[gb418]? = some (.cells #[.int .i64 a0_0, .int .i64 a0_1, .slice (some ad421) l0_2.length c0_2, .int .i64 a0_3, .slice A0_4 l0_4.length c0_4] 52 (0, 0))) := ⟨bf BK418⟩
    have n1_ : Aside0 ((((w45.setCell ⟨gb422, 0, none⟩ (.int .i64 ((rd_T37 l0_2 x33_1).f0))).setCell ⟨gb422, 1, none⟩ (.int .i64 ((rd_T37 l0_2 x33_1).f1))).setCell ⟨gb422, 2, none⟩ (.int .i64 ((rd_T37 l0_2 x33_1).f2))).heap[gb422]? = some (.cells #[.int .i64 ((rd_T37 l0_2 x33_1).f0), .int .i64 ((rd_T37 l0_2 x33_1).f1), .int .i64 ((rd_T37 l0_2 x33_1).f2)] 37 (0, 0))) := ⟨bfp3 BK422⟩
    have n2_ : Aside0 (Below w.heap.size w (((w45.setCell ⟨gb422, 0, none⟩ (.int .i64 ((rd_T37 l0_2 x33_1).f0))).setCell ⟨gb422, 1, none⟩ (.int .i64 ((rd_T37 l0_2 x33_1).f1))).setCell ⟨gb422, 2, none⟩ (.int .i64 ((rd_T37 l0_2 x33_1).f2)))) := ⟨tb HB⟩
    (try clear BK418)
    (try clear BK422)
    (try clear HB)
    generalize (((w45.setCell ⟨gb422, 0, none⟩ (.int .i64 ((rd_T37 l0_2 x33_1).f0))).setCell ⟨gb422, 1, none⟩ (.int .i64 ((rd_T37 l0_2 x33_1).f1))).setCell ⟨gb422, 2, none⟩ (.int .i64 ((rd_T37 l0_2 x33_1).f2))) = w48 at n0_ n1_ n2_ ⊢
    have BK418 := n0_
    have BK422 := n1_
    have HB := n2_
    clear n0_ n1_ n2_
    replace BK418 := bd BK418
    replace BK422 := bd BK422
    replace HB := Aside0.mk (below_drew1 HB.out)
    refine start_ (n := 32) (S := fun w' => cS3 gb422 (.int .i64 ((rd_T37 l0_2 x33_1).f0)) (.int .i64 ((rd_T37 l0_2 x33_1).f1)) (.int .i64 ((rd_T37 l0_2 x33_1).f2)) w') (ds := []) #[false, false, false, false, false, false, false, false, false, false, false, false, false, false, false, false, false, false, false, false, false, false, false, false, false, false, false, false, false, false, false, false] (by kernel_rfl) rfl rfl (ds3_ BK422) (fun hHeld => ?_); refine with_tabW impl_DescOk.tab6 impl_DescOk.bits6 (fun HT_ HW_ => ?_)
    generalize w48.drew = w49 at BK418 BK422 HB hHeld ⊢
    refine pu 0 38 ?_; refine ta 1 39 ?_
    refine on1 2 (some 40) (fun K hK => ?_)
    refine gS Tryz.func114 #[.int .i64 ((rd_T37 l0_2 x33_1).f0)] ?_
    with_reducible refine (impl_isPlace.calls ((rd_T37 l0_2 x33_1).f0) true _ A19.out).mono ?_
    rintro e w' ⟨rfl, ⟨nd, rfl⟩⟩
    refine ⟨_, rfl, ?_⟩
    refine hK.out _ _ (ds3_ BK422) (fun hHeld => ?_)
    clear hK K
    refine nm 40 ?_
    refine pu 3 41 ?_; refine pu 4 42 ?_; refine pu 5 43 ?_; refine ta 6 44 ?_
    refine on1 7 (some 45) (fun K hK => ?_)
    refine gS Tryz.func115 #[.int .i64 ((rd_T37 l0_2 x33_1).f1)] ?_
    with_reducible refine (impl_isWordNum.calls ((rd_T37 l0_2 x33_1).f1) true _ A21.out).mono ?_
    rintro e w' ⟨rfl, ⟨nd, rfl⟩⟩
    refine ⟨_, rfl, ?_⟩
    refine hK.out _ _ (ds3_ BK422) (fun hHeld => ?_)
    clear hK K
    refine nm 45 ?_
    refine pu 8 46 ?_; refine pu 9 47 ?_; refine pu 10 48 ?_; refine pu 11 49 ?_; refine ta 12 50 ?_
    refine on1 13 (some 51) (fun K hK => ?_)
    refine gS Tryz.func115 #[.int .i64 ((rd_T37 l0_2 x33_1).f2)] ?_
    with_reducible refine (impl_isWordNum.calls ((rd_T37 l0_2 x33_1).f2) false _ A23.out).mono ?_
    rintro e w' ⟨rfl, ⟨nd, rfl⟩⟩
    refine ⟨_, rfl, ?_⟩
    refine hK.out _ _ (ds3_ BK422) (fun hHeld => ?_)
    clear hK K
    refine nm 51 ?_
    refine pu 14 52 ?_; refine pu 15 53 ?_; refine pu 16 54 ?_; refine pn 17 55 ?_; refine pn 18 56 ?_; refine pn 19 57 ?_; refine pn 20 58 ?_; refine pn 21 59 ?_; refine pn 22 60 ?_; refine pn 23 61 ?_; refine pn 24 62 ?_; refine pn 25 63 ?_
    refine pn 26 64 ?_; refine pn 27 65 ?_; refine pn 28 66 ?_; refine pn 29 67 ?_; refine pn 30 68 ?_; refine pu 31 69 ?_
    refine done_ (done_of HT_.out (by kernel_rfl)) ?_
    try go_wp2
    go_ret
    exact ⟨er, tb HB⟩
   replace H := ipt H
   revert H; refine icd (fun c25b0 H => ?_) fun c25b0 H => ?neg
   case neg =>
    have H' := Aside0.mk H
    clear H
    have p421 : 0 ≤ (x33_1 : Int) := od
    have q421 : x33_1 < (l0_2.length : Int) := od
    obtain ⟨ad421, e421, hx421_0, hx421_1, hx421_2⟩ := at_T37 HR0_2.out x33_1 p421 q421
    cases e421
    replace hx421_0 := ox HB hx421_0
    replace hx421_1 := ox HB hx421_1
    replace hx421_2 := ox HB hx421_2
    replace p421 := eq_true p421
    replace q421 := eq_true q421
    try go_wp2_with (first | ((with_reducible refine gq 4 rfl ?_); (try (refine gate_guard (by rfl) ?_; dsimp only)); refine bx1 HB BK418 (N := 4) (cs := #[.int .i64 0, .int .i64 0, .int .i64 0]) (t := 37) ?_; clear HB BK418; intro gb422 w40 BK422 GE422 HB NB418_422 NB422_418 BK418; have hnb41 := NB422_418.out; have hnc41 := NB418_422.out; have hz42 := cs3_ BK422))
    have n0_ : Aside0 ((((w40.setCell ⟨gb422, 0, none⟩ (.int .i64 ((rd_T37 l0_2 x33_1).f0))).setCell ⟨gb422, 1, none⟩ (.int .i64 ((rd_T37 l0_2 x33_1).f1))).setCell ⟨gb422, 2, none⟩ (.int .i64 ((rd_T37 l0_2 x33_1).f2))).heap[gb418]? = some (.cells #[.int .i64 a0_0, .int .i64 a0_1, .slice (some ad421) l0_2.length c0_2, .int .i64 a0_3, .slice A0_4 l0_4.length c0_4] 52 (0, 0))) := ⟨bf BK418⟩
    have n1_ : Aside0 ((((w40.setCell ⟨gb422, 0, none⟩ (.int .i64 ((rd_T37 l0_2 x33_1).f0))).setCell ⟨gb422, 1, none⟩ (.int .i64 ((rd_T37 l0_2 x33_1).f1))).setCell ⟨gb422, 2, none⟩ (.int .i64 ((rd_T37 l0_2 x33_1).f2))).heap[gb422]? = some (.cells #[.int .i64 ((rd_T37 l0_2 x33_1).f0), .int .i64 ((rd_T37 l0_2 x33_1).f1), .int .i64 ((rd_T37 l0_2 x33_1).f2)] 37 (0, 0))) := ⟨bfp3 BK422⟩
    have n2_ : Aside0 (Below w.heap.size w (((w40.setCell ⟨gb422, 0, none⟩ (.int .i64 ((rd_T37 l0_2 x33_1).f0))).setCell ⟨gb422, 1, none⟩ (.int .i64 ((rd_T37 l0_2 x33_1).f1))).setCell ⟨gb422, 2, none⟩ (.int .i64 ((rd_T37 l0_2 x33_1).f2)))) := ⟨tb HB⟩
    (try clear BK418)
    (try clear BK422)
    (try clear HB)
    generalize (((w40.setCell ⟨gb422, 0, none⟩ (.int .i64 ((rd_T37 l0_2 x33_1).f0))).setCell ⟨gb422, 1, none⟩ (.int .i64 ((rd_T37 l0_2 x33_1).f1))).setCell ⟨gb422, 2, none⟩ (.int .i64 ((rd_T37 l0_2 x33_1).f2))) = w43 at n0_ n1_ n2_ ⊢
    have BK418 := n0_
    have BK422 := n1_
    have HB := n2_
    clear n0_ n1_ n2_
    replace BK418 := bd BK418
    replace BK422 := bd BK422
    replace HB := Aside0.mk (below_drew1 HB.out)
    refine start_ (n := 32) (S := fun w' => cS3 gb422 (.int .i64 ((rd_T37 l0_2 x33_1).f0)) (.int .i64 ((rd_T37 l0_2 x33_1).f1)) (.int .i64 ((rd_T37 l0_2 x33_1).f2)) w') (ds := []) #[false, false, false, false, false, false, false, false, false, false, false, false, false, false, false, false, false, false, false, false, false, false, false, false, false, false, false, false, false, false, false, false] (by kernel_rfl) rfl rfl (ds3_ BK422) (fun hHeld => ?_); refine with_tabW impl_DescOk.tab6 impl_DescOk.bits6 (fun HT_ HW_ => ?_)
    generalize w43.drew = w44 at BK418 BK422 HB hHeld ⊢
    refine pu 0 38 ?_; refine ta 1 39 ?_
    refine on1 2 (some 40) (fun K hK => ?_)
    refine gS Tryz.func114 #[.int .i64 ((rd_T37 l0_2 x33_1).f0)] ?_
    with_reducible refine (impl_isPlace.calls ((rd_T37 l0_2 x33_1).f0) true _ A19.out).mono ?_
    rintro e w' ⟨rfl, ⟨nd, rfl⟩⟩
    refine ⟨_, rfl, ?_⟩
    refine hK.out _ _ (ds3_ BK422) (fun hHeld => ?_)
    clear hK K
    refine nm 40 ?_
    refine pu 3 41 ?_; refine pu 4 42 ?_; refine pu 5 43 ?_; refine ta 6 44 ?_
    refine on1 7 (some 45) (fun K hK => ?_)
    refine gS Tryz.func115 #[.int .i64 ((rd_T37 l0_2 x33_1).f1)] ?_
    with_reducible refine (impl_isWordNum.calls ((rd_T37 l0_2 x33_1).f1) true _ A21.out).mono ?_
    rintro e w' ⟨rfl, ⟨nd, rfl⟩⟩
    refine ⟨_, rfl, ?_⟩
    refine hK.out _ _ (ds3_ BK422) (fun hHeld => ?_)
    clear hK K
    refine nm 45 ?_
    refine pu 8 46 ?_; refine pu 9 47 ?_; refine pu 10 48 ?_; refine pu 11 49 ?_; refine ta 12 50 ?_
    refine on1 13 (some 51) (fun K hK => ?_)
    refine gS Tryz.func115 #[.int .i64 ((rd_T37 l0_2 x33_1).f2)] ?_
    with_reducible refine (impl_isWordNum.calls ((rd_T37 l0_2 x33_1).f2) true _ A23.out).mono ?_
    rintro e w' ⟨rfl, ⟨nd, rfl⟩⟩
    refine ⟨_, rfl, ?_⟩
    refine hK.out _ _ (ds3_ BK422) (fun hHeld => ?_)
    clear hK K
    refine nm 51 ?_
    refine pu 14 52 ?_; refine pu 15 53 ?_; refine pu 16 54 ?_; refine pu 17 55 ?_; refine pu 18 56 ?_; refine pu 19 57 ?_; refine pn 20 58 ?_; refine pn 21 59 ?_; refine pn 22 60 ?_; refine pn 23 61 ?_; refine pn 24 62 ?_; refine pn 25 63 ?_
    refine pn 26 64 ?_; refine pn 27 65 ?_; refine pn 28 66 ?_; refine pn 29 67 ?_; refine pu 30 68 ?_; refine pu 31 69 ?_
    refine done_ (done_of HT_.out (by kernel_rfl)) ?_
    try go_wp2
    go_roundg k1
    case measure => have := HK1.out; omega
    case rel => exact ⟨(wrap64 (x33_1 + 1)), rsd, H', ⟨by have := HK1.out; omega⟩, ⟨by (with_reducible repeat (first | refine blk_drewN ?_ _ | refine blk_drew ?_ | refine blk_alloc ?_ _)); exact BK418.out⟩, ⟨tb HB⟩⟩
   obtain ⟨ji26, hji26⟩ : ∃ j_ : Int, (wrap64 (x33_1 - 1)) = j_ := ⟨_, rfl⟩
   replace H : (if 0 ≤ (ji26) then (if (ji26) < (l0_2.length : Int) then (if ((rd_T37 l0_2 (ji26)).f0) ≥ ((rd_T37 l0_2 x33_1).f0) then (some false) else (impl_DescOk.l0 k1 l0_2 (l0_2.length : Int) (wrap64 (x33_1 + 1)) a0_0 a0_1 l0_2 a0_3 l0_4)) else (none)) else (none)) = some r := by first | (rw [hji26] at H; exact H) | (simp only [hji26] at H ⊢; exact H)
   (try rw [hji26] at A19)
   (try rw [hji26] at A21)
   (try rw [hji26] at A23)
   have hji26w : (IntKind.i64.wrap (x33_1 - 1)) = ji26 := (i64_w _).trans hji26
   obtain ⟨c27b0, H⟩ := itd H
   obtain ⟨c28b0, H⟩ := itd H
   revert H; refine icd (fun c29b0 H => ?pos) fun c29b0 H => ?_
   case pos =>
    obtain rfl := oin H
    have p421 : 0 ≤ (x33_1 : Int) := od
    have q421 : x33_1 < (l0_2.length : Int) := od
    obtain ⟨ad421, e421, hx421_0, hx421_1, hx421_2⟩ := at_T37 HR0_2.out x33_1 p421 q421
    cases e421
    replace hx421_0 := ox HB hx421_0
    replace hx421_1 := ox HB hx421_1
    replace hx421_2 := ox HB hx421_2
    replace p421 := eq_true p421
    replace q421 := eq_true q421
    try go_wp2_with (first | ((with_reducible refine gq 4 rfl ?_); (try (refine gate_guard (by rfl) ?_; dsimp only)); refine bx1 HB BK418 (N := 4) (cs := #[.int .i64 0, .int .i64 0, .int .i64 0]) (t := 37) ?_; clear HB BK418; intro gb422 w30 BK422 GE422 HB NB418_422 NB422_418 BK418; have hnb31 := NB422_418.out; have hnc31 := NB418_422.out; have hz32 := cs3_ BK422))
    have n0_ : Aside0 ((((w30.setCell ⟨gb422, 0, none⟩ (.int .i64 ((rd_T37 l0_2 x33_1).f0))).setCell ⟨gb422, 1, none⟩ (.int .i64 ((rd_T37 l0_2 x33_1).f1))).setCell ⟨gb422, 2, none⟩ (.int .i64 ((rd_T37 l0_2 x33_1).f2))).heap[gb418]? = some (.cells #[.int .i64 a0_0, .int .i64 a0_1, .slice (some ad421) l0_2.length c0_2, .int .i64 a0_3, .slice A0_4 l0_4.length c0_4] 52 (0, 0))) := ⟨bf BK418⟩
    have n1_ : Aside0 ((((w30.setCell ⟨gb422, 0, none⟩ (.int .i64 ((rd_T37 l0_2 x33_1).f0))).setCell ⟨gb422, 1, none⟩ (.int .i64 ((rd_T37 l0_2 x33_1).f1))).setCell ⟨gb422, 2, none⟩ (.int .i64 ((rd_T37 l0_2 x33_1).f2))).heap[gb422]? = some (.cells #[.int .i64 ((rd_T37 l0_2 x33_1).f0), .int .i64 ((rd_T37 l0_2 x33_1).f1), .int .i64 ((rd_T37 l0_2 x33_1).f2)] 37 (0, 0))) := ⟨bfp3 BK422⟩
    have n2_ : Aside0 (Below w.heap.size w (((w30.setCell ⟨gb422, 0, none⟩ (.int .i64 ((rd_T37 l0_2 x33_1).f0))).setCell ⟨gb422, 1, none⟩ (.int .i64 ((rd_T37 l0_2 x33_1).f1))).setCell ⟨gb422, 2, none⟩ (.int .i64 ((rd_T37 l0_2 x33_1).f2)))) := ⟨tb HB⟩
    (try clear BK418)
    (try clear BK422)
    (try clear HB)
    generalize (((w30.setCell ⟨gb422, 0, none⟩ (.int .i64 ((rd_T37 l0_2 x33_1).f0))).setCell ⟨gb422, 1, none⟩ (.int .i64 ((rd_T37 l0_2 x33_1).f1))).setCell ⟨gb422, 2, none⟩ (.int .i64 ((rd_T37 l0_2 x33_1).f2))) = w33 at n0_ n1_ n2_ ⊢
    have BK418 := n0_
    have BK422 := n1_
    have HB := n2_
    clear n0_ n1_ n2_
    replace BK418 := bd BK418
    replace BK422 := bd BK422
    replace HB := Aside0.mk (below_drew1 HB.out)
    have p426 : 0 ≤ ((ji26) : Int) := od
    have q426 : (ji26) < (l0_2.length : Int) := od
    obtain ⟨ad426, e426, hx426⟩ := att37 HR0_2.out (ji26) p426 q426
    have hw426 := hx426
    obtain rfl : ad421 = ad426 := (by injection e426)
    replace hx426 := ox3 HB hx426
    replace p426 := eq_true p426
    replace q426 := eq_true q426
    refine start_ (n := 32) (S := fun w' => cS3 gb422 (.int .i64 ((rd_T37 l0_2 x33_1).f0)) (.int .i64 ((rd_T37 l0_2 x33_1).f1)) (.int .i64 ((rd_T37 l0_2 x33_1).f2)) w' ∧ cS5 gb418 (.int .i64 a0_0) (.int .i64 a0_1) (.slice (some ad421) l0_2.length c0_2) (.int .i64 a0_3) (.slice A0_4 l0_4.length c0_4) w' ∧ eT37 (ad421.add (((ji26)).toNat * 3)) (rd_T37 l0_2 (ji26)) w') (ds := []) #[false, false, false, false, false, false, false, false, false, false, false, false, false, false, false, false, false, false, false, false, false, false, false, false, false, false, false, false, false, false, false, false] (by kernel_rfl) rfl rfl ⟨ds3_ BK422, ds5_ BK418, (ox3 HB hw426 :)⟩ (fun hHeld => ?_); refine with_tabW impl_DescOk.tab6 impl_DescOk.bits6 (fun HT_ HW_ => ?_)
    generalize w33.drew = w34 at BK418 BK422 HB hx426 hHeld ⊢
    refine pu 0 38 ?_; refine ta 1 39 ?_
    refine on1 2 (some 40) (fun K hK => ?_)
    refine gS Tryz.func114 #[.int .i64 ((rd_T37 l0_2 x33_1).f0)] ?_
    with_reducible refine (impl_isPlace.calls ((rd_T37 l0_2 x33_1).f0) true _ A19.out).mono ?_
    rintro e w' ⟨rfl, ⟨nd, rfl⟩⟩
    refine ⟨_, rfl, ?_⟩
    refine hK.out _ _ ⟨ds3_ BK422, ds5_ BK418, (ox3 HB hw426 :)⟩ (fun hHeld => ?_)
    clear hK K
    refine nm 40 ?_
    refine pu 3 41 ?_; refine pu 4 42 ?_; refine pu 5 43 ?_; refine ta 6 44 ?_
    refine on1 7 (some 45) (fun K hK => ?_)
    refine gS Tryz.func115 #[.int .i64 ((rd_T37 l0_2 x33_1).f1)] ?_
    with_reducible refine (impl_isWordNum.calls ((rd_T37 l0_2 x33_1).f1) true _ A21.out).mono ?_
    rintro e w' ⟨rfl, ⟨nd, rfl⟩⟩
    refine ⟨_, rfl, ?_⟩
    refine hK.out _ _ ⟨ds3_ BK422, ds5_ BK418, (ox3 HB hw426 :)⟩ (fun hHeld => ?_)
    clear hK K
    refine nm 45 ?_
    refine pu 8 46 ?_; refine pu 9 47 ?_; refine pu 10 48 ?_; refine pu 11 49 ?_; refine ta 12 50 ?_
    refine on1 13 (some 51) (fun K hK => ?_)
    refine gS Tryz.func115 #[.int .i64 ((rd_T37 l0_2 x33_1).f2)] ?_
    with_reducible refine (impl_isWordNum.calls ((rd_T37 l0_2 x33_1).f2) true _ A23.out).mono ?_
    rintro e w' ⟨rfl, ⟨nd, rfl⟩⟩
    refine ⟨_, rfl, ?_⟩
    refine hK.out _ _ ⟨ds3_ BK422, ds5_ BK418, (ox3 HB hw426 :)⟩ (fun hHeld => ?_)
    clear hK K
    refine nm 51 ?_
    refine pu 14 52 ?_; refine pu 15 53 ?_; refine pu 16 54 ?_; refine pu 17 55 ?_; refine pu 18 56 ?_; refine pu 19 57 ?_; refine pu 20 58 ?_; refine pu 22 60 ?_; refine pu 23 61 ?_; refine pu 27 65 ?_; refine ta 21 59 ?_; refine pu 24 62 ?_
    refine pu 25 63 ?_; refine ta 26 64 ?_; refine ta 28 66 ?_; refine pu 29 67 ?_; refine pu 30 68 ?_; refine pu 31 69 ?_
    refine done_ (done_of HT_.out (by kernel_rfl)) ?_
    try go_wp2
    go_ret
    exact ⟨by first | rfl | (simp [errW_none, errW_some] <;> rfl) | (simp only [← hji26]; first | rfl | (simp [errW_none, errW_some] <;> rfl)) | (simp [*, errW_none, errW_some] <;> rfl), tb HB⟩
   have H' := Aside0.mk H
   clear H
   have p421 : 0 ≤ (x33_1 : Int) := od
   have q421 : x33_1 < (l0_2.length : Int) := od
   obtain ⟨ad421, e421, hx421_0, hx421_1, hx421_2⟩ := at_T37 HR0_2.out x33_1 p421 q421
   cases e421
   replace hx421_0 := ox HB hx421_0
   replace hx421_1 := ox HB hx421_1
   replace hx421_2 := ox HB hx421_2
   replace p421 := eq_true p421
   replace q421 := eq_true q421
   try go_wp2_with (first | ((with_reducible refine gq 4 rfl ?_); (try (refine gate_guard (by rfl) ?_; dsimp only)); refine bx1 HB BK418 (N := 4) (cs := #[.int .i64 0, .int .i64 0, .int .i64 0]) (t := 37) ?_; clear HB BK418; intro gb422 w35 BK422 GE422 HB NB418_422 NB422_418 BK418; have hnb36 := NB422_418.out; have hnc36 := NB418_422.out; have hz37 := cs3_ BK422))
   have n0_ : Aside0 ((((w35.setCell ⟨gb422, 0, none⟩ (.int .i64 ((rd_T37 l0_2 x33_1).f0))).setCell ⟨gb422, 1, none⟩ (.int .i64 ((rd_T37 l0_2 x33_1).f1))).setCell ⟨gb422, 2, none⟩ (.int .i64 ((rd_T37 l0_2 x33_1).f2))).heap[gb418]? = some (.cells #[.int .i64 a0_0, .int .i64 a0_1, .slice (some ad421) l0_2.length c0_2, .int .i64 a0_3, .slice A0_4 l0_4.length c0_4] 52 (0, 0))) := ⟨bf BK418⟩
   have n1_ : Aside0 ((((w35.setCell ⟨gb422, 0, none⟩ (.int .i64 ((rd_T37 l0_2 x33_1).f0))).setCell ⟨gb422, 1, none⟩ (.int .i64 ((rd_T37 l0_2 x33_1).f1))).setCell ⟨gb422, 2, none⟩ (.int .i64 ((rd_T37 l0_2 x33_1).f2))).heap[gb422]? = some (.cells #[.int .i64 ((rd_T37 l0_2 x33_1).f0), .int .i64 ((rd_T37 l0_2 x33_1).f1), .int .i64 ((rd_T37 l0_2 x33_1).f2)] 37 (0, 0))) := ⟨bfp3 BK422⟩
   have n2_ : Aside0 (Below w.heap.size w (((w35.setCell ⟨gb422, 0, none⟩ (.int .i64 ((rd_T37 l0_2 x33_1).f0))).setCell ⟨gb422, 1, none⟩ (.int .i64 ((rd_T37 l0_2 x33_1).f1))).setCell ⟨gb422, 2, none⟩ (.int .i64 ((rd_T37 l0_2 x33_1).f2)))) := ⟨tb HB⟩
   (try clear BK418)
   (try clear BK422)
   (try clear HB)
   generalize (((w35.setCell ⟨gb422, 0, none⟩ (.int .i64 ((rd_T37 l0_2 x33_1).f0))).setCell ⟨gb422, 1, none⟩ (.int .i64 ((rd_T37 l0_2 x33_1).f1))).setCell ⟨gb422, 2, none⟩ (.int .i64 ((rd_T37 l0_2 x33_1).f2))) = w38 at n0_ n1_ n2_ ⊢
   have BK418 := n0_
   have BK422 := n1_
   have HB := n2_
   clear n0_ n1_ n2_
   replace BK418 := bd BK418
   replace BK422 := bd BK422
   replace HB := Aside0.mk (below_drew1 HB.out)
   have p426 : 0 ≤ ((ji26) : Int) := od
   have q426 : (ji26) < (l0_2.length : Int) := od
   obtain ⟨ad426, e426, hx426⟩ := att37 HR0_2.out (ji26) p426 q426
   have hw426 := hx426
   obtain rfl : ad421 = ad426 := (by injection e426)
   replace hx426 := ox3 HB hx426
   replace p426 := eq_true p426
   replace q426 := eq_true q426
   refine start_ (n := 32) (S := fun w' => cS3 gb422 (.int .i64 ((rd_T37 l0_2 x33_1).f0)) (.int .i64 ((rd_T37 l0_2 x33_1).f1)) (.int .i64 ((rd_T37 l0_2 x33_1).f2)) w' ∧ cS5 gb418 (.int .i64 a0_0) (.int .i64 a0_1) (.slice (some ad421) l0_2.length c0_2) (.int .i64 a0_3) (.slice A0_4 l0_4.length c0_4) w' ∧ eT37 (ad421.add (((ji26)).toNat * 3)) (rd_T37 l0_2 (ji26)) w') (ds := []) #[false, false, false, false, false, false, false, false, false, false, false, false, false, false, false, false, false, false, false, false, false, false, false, false, false, false, false, false, false, false, false, false] (by kernel_rfl) rfl rfl ⟨ds3_ BK422, ds5_ BK418, (ox3 HB hw426 :)⟩ (fun hHeld => ?_); refine with_tabW impl_DescOk.tab6 impl_DescOk.bits6 (fun HT_ HW_ => ?_)
   generalize w38.drew = w39 at BK418 BK422 HB hx426 hHeld ⊢
   refine pu 0 38 ?_; refine ta 1 39 ?_
   refine on1 2 (some 40) (fun K hK => ?_)
   refine gS Tryz.func114 #[.int .i64 ((rd_T37 l0_2 x33_1).f0)] ?_
   with_reducible refine (impl_isPlace.calls ((rd_T37 l0_2 x33_1).f0) true _ A19.out).mono ?_
   rintro e w' ⟨rfl, ⟨nd, rfl⟩⟩
   refine ⟨_, rfl, ?_⟩
   refine hK.out _ _ ⟨ds3_ BK422, ds5_ BK418, (ox3 HB hw426 :)⟩ (fun hHeld => ?_)
   clear hK K
   refine nm 40 ?_
   refine pu 3 41 ?_; refine pu 4 42 ?_; refine pu 5 43 ?_; refine ta 6 44 ?_
   refine on1 7 (some 45) (fun K hK => ?_)
   refine gS Tryz.func115 #[.int .i64 ((rd_T37 l0_2 x33_1).f1)] ?_
   with_reducible refine (impl_isWordNum.calls ((rd_T37 l0_2 x33_1).f1) true _ A21.out).mono ?_
   rintro e w' ⟨rfl, ⟨nd, rfl⟩⟩
   refine ⟨_, rfl, ?_⟩
   refine hK.out _ _ ⟨ds3_ BK422, ds5_ BK418, (ox3 HB hw426 :)⟩ (fun hHeld => ?_)
   clear hK K
   refine nm 45 ?_
   refine pu 8 46 ?_; refine pu 9 47 ?_; refine pu 10 48 ?_; refine pu 11 49 ?_; refine ta 12 50 ?_
   refine on1 13 (some 51) (fun K hK => ?_)
   refine gS Tryz.func115 #[.int .i64 ((rd_T37 l0_2 x33_1).f2)] ?_
   with_reducible refine (impl_isWordNum.calls ((rd_T37 l0_2 x33_1).f2) true _ A23.out).mono ?_
   rintro e w' ⟨rfl, ⟨nd, rfl⟩⟩
   refine ⟨_, rfl, ?_⟩
   refine hK.out _ _ ⟨ds3_ BK422, ds5_ BK418, (ox3 HB hw426 :)⟩ (fun hHeld => ?_)
   clear hK K
   refine nm 51 ?_
   refine pu 14 52 ?_; refine pu 15 53 ?_; refine pu 16 54 ?_; refine pu 17 55 ?_; refine pu 18 56 ?_; refine pu 19 57 ?_; refine pu 20 58 ?_; refine pu 22 60 ?_; refine pu 23 61 ?_; refine pu 27 65 ?_; refine ta 21 59 ?_; refine pu 24 62 ?_
   refine pu 25 63 ?_; refine ta 26 64 ?_; refine ta 28 66 ?_; refine pu 29 67 ?_; refine pu 30 68 ?_; refine pu 31 69 ?_
   refine done_ (done_of HT_.out (by kernel_rfl)) ?_
   try go_wp2
   go_roundg k1
   case measure => have := HK1.out; omega
   case rel => exact ⟨(wrap64 (x33_1 + 1)), rsd, H', ⟨by have := HK1.out; omega⟩, ⟨by (with_reducible repeat (first | refine blk_drewN ?_ _ | refine blk_drew ?_ | refine blk_alloc ?_ _)); exact BK418.out⟩, ⟨tb HB⟩⟩
def impl_RowsOk.l0 : Nat → List Int → Int → Int → List Int → Int → Option (Bool)
 | 0, _, _, _, _, _ => none
 | k + 1, x6, x7, x8, x469000, x469001 => if x8 < x7 then (if 0 ≤ x8 then (if x8 < (x6.length : Int) then (if (rd x6 x8) = 0 then (impl_RowsOk.l0 k x6 x7 (wrap64 (x8 + 1)) x469000 x469001) else ((impl_ValOk.f (rd x6 x8)).bind fun t471 => (if t471 = true then (if x8 ≤ (x469000.length : Int) then ((slices_Contains_int_int.f k (x469000.take (x8 : Int).toNat) (rd x6 x8)).bind fun t473 => (if t473 = true then (some false) else (impl_RowsOk.l0 k x6 x7 (wrap64 (x8 + 1)) x469000 x469001))) else (none)) else (some false)))) else (none)) else (none)) else (if (x469000.length : Int) = 4 then ((impl_from.f x469001 0 5).bind fun t469 => (some t469)) else (some false))
def impl_RowsOk.f (k : Nat) (l0_0 : List Int) (a0_1 : Int) : Option (Bool) := impl_RowsOk.l0 k l0_0 (l0_0.length : Int) 0 l0_0 a0_1
set_option maxHeartbeats 8000000 in
set_option maxRecDepth 100000 in
theorem impl_RowsOk.calls (k : Nat) (A0_0 : Option Addr) (c0_0 : Nat) (l0_0 : List Int) (a0_1 : Int) (r : Bool) (w : World) (hr0_0 : Kd.C (Kd.int .i64) w A0_0 l0_0.length l0_0) (hc0_0 : l0_0.length ≤ c0_0) (h : impl_RowsOk.f k l0_0 a0_1 = some r) :
  Calls Tryz.prog 93 #[.agg #[.slice A0_0 l0_0.length c0_0, .int .i64 a0_1]] w fun e w' => e = .returned (.bool r) ∧ Below w.heap.size w w' := by
 have hu73 := Tryz.underlying73
 have HR0_0 := Aside0.mk hr0_0
 have HC0_0 := Aside0.mk hc0_0
 clear hr0_0 hc0_0
 have HB := Aside0.mk (Below.refl w.heap.size w)
 have H := h
 clear h
 unfold impl_RowsOk.f at H
 have H' := Aside0.mk H
 clear H
 go_enter Tryz.func93, Tryz.ntmps93
 go_wp2_with (first | ((with_reducible refine gq 1 rfl ?_); refine bx0 HB (N := 1) (t := 73) ?_; clear HB; intro gb468 w2 BK468 GE468 HB; have hz3 := cs2_ BK468))
 go_loopg [8] k (fun kq v8 w' => ∃ (x8_1 : Int), v8 = .int .i64 x8_1 ∧ Aside0 (impl_RowsOk.l0 kq l0_0 (l0_0.length : Int) x8_1 l0_0 a0_1 = some r) ∧ Aside0 (kq ≤ k) ∧ Aside0 (w'.heap[gb468]? = some (.cells #[(.slice A0_0 l0_0.length c0_0), .int .i64 a0_1] 73 (0, 0))) ∧ Aside0 (Below w.heap.size w w'))
 case atStart => exact ⟨(0), rsd, H', ⟨Nat.le_refl _⟩, ⟨by (with_reducible repeat (first | refine blk_drewN ?_ _ | refine blk_drew ?_ | refine blk_alloc ?_ _)); exact BK468.out⟩, ⟨tb HB⟩⟩
 case round =>
  clear H'
  obtain ⟨x8_1, rfl, HA, HK1, BK468, HB⟩ := hrel
  cases gk with
  | zero => exact absurd HA.out (by simp [impl_RowsOk.l0])
  | succ k1 =>
   have H := HA.out
   clear HA
   simp only [impl_RowsOk.l0] at H
   revert H; refine icd (fun c4b0 H => ?_) fun c4b0 H => ?neg
   case neg =>
    by_cases c18 : (l0_0.length : Int) = 4
    case neg =>
     rw [if_neg c18] at H
     have c18b0 : ((l0_0.length : Int) == 4) = false := beq_eq_false_iff_ne.mpr c18
     have c18b1 : ((l0_0.length : Int) != 4) = true := bne_iff_ne.mpr c18
     obtain rfl := oin H
     have hz21 := cs2_ BK468
     go_wp2
     go_ret
     exact ⟨er, tb HB⟩
    rw [if_pos c18] at H
    have c18b0 : ((l0_0.length : Int) == 4) = true := beq_iff_eq.mpr c18
    have c18b1 : ((l0_0.length : Int) != 4) = false := bne_eq_false_iff_eq.mpr c18
    clear c18
    obtain ⟨t469, A19, H⟩ := bn H
    try dsimp only at H
    obtain rfl := oin H
    have hz20 := cs2_ BK468
    go_wp2_with (first | (go_at_call 62; (with_reducible refine (impl_from.calls a0_1 0 5 t469 _ A19.out).mono ?_); rintro e w' ⟨rfl, ⟨nd, rfl⟩⟩))
    go_ret
    exact ⟨er, tb HB⟩
   obtain ⟨c5b0, H⟩ := itd H
   obtain ⟨c6b0, H⟩ := itd H
   by_cases c7 : (rd l0_0 x8_1) = 0
   case pos =>
    rw [if_pos c7] at H
    have c7b0 : ((rd l0_0 x8_1) == 0) = true := beq_iff_eq.mpr c7
    have c7b1 : ((rd l0_0 x8_1) != 0) = false := bne_eq_false_iff_eq.mpr c7
    clear c7
    have H' := Aside0.mk H
    clear H
    have p470 : 0 ≤ (x8_1 : Int) := od
    have q470 : x8_1 < (l0_0.length : Int) := od
    obtain ⟨ad470, e470, hx470_0⟩ := Kd.at_int HR0_0.out x8_1 p470 q470
    cases e470
    replace hx470_0 := ox HB hx470_0
    replace p470 := eq_true p470
    replace q470 := eq_true q470
    go_wp2
    go_roundg k1
    case measure => have := HK1.out; omega
    case rel => exact ⟨(wrap64 (x8_1 + 1)), rsd, H', ⟨by have := HK1.out; omega⟩, ⟨by (with_reducible repeat (first | refine blk_drewN ?_ _ | refine blk_drew ?_ | refine blk_alloc ?_ _)); exact BK468.out⟩, ⟨tb HB⟩⟩
   rw [if_neg c7] at H
   have c7b0 : ((rd l0_0 x8_1) == 0) = false := beq_eq_false_iff_ne.mpr c7
   have c7b1 : ((rd l0_0 x8_1) != 0) = true := bne_iff_ne.mpr c7
   obtain ⟨t471, A8, H⟩ := bn H
   try dsimp only at H
   cases t471
   case false =>
    replace H := ipf H
    obtain rfl := oin H
    have p470 : 0 ≤ (x8_1 : Int) := od
    have q470 : x8_1 < (l0_0.length : Int) := od
    obtain ⟨ad470, e470, hx470_0⟩ := Kd.at_int HR0_0.out x8_1 p470 q470
    cases e470
    replace hx470_0 := ox HB hx470_0
    replace p470 := eq_true p470
    replace q470 := eq_true q470
    go_wp2_with (first | (go_at_call 148; (with_reducible refine (impl_ValOk.calls (rd l0_0 x8_1) false _ A8.out).mono ?_); rintro e w' ⟨rfl, ⟨nd, rfl⟩⟩))
    go_ret
    exact ⟨er, tb HB⟩
   replace H := ipt H
   have c10b0 := eq_true (od : 0 ≤ x8_1)
   obtain ⟨c11b0, c11b1, H⟩ := itb H
   obtain ⟨t473, A12, H⟩ := bn H
   try dsimp only at H
   cases t473
   case true =>
    replace H := ipt H
    obtain rfl := oin H
    have p470 : 0 ≤ (x8_1 : Int) := od
    have q470 : x8_1 < (l0_0.length : Int) := od
    obtain ⟨ad470, e470, hx470_0⟩ := Kd.at_int HR0_0.out x8_1 p470 q470
    cases e470
    replace hx470_0 := ox HB hx470_0
    replace p470 := eq_true p470
    replace q470 := eq_true q470
    go_wp2_with (first | (go_at_call 148; (with_reducible refine (impl_ValOk.calls (rd l0_0 x8_1) true _ A8.out).mono ?_); rintro e w' ⟨rfl, ⟨nd, rfl⟩⟩; have hz14 := cs2_ BK468; obtain ⟨i015, hi015, _, hsz15, _⟩ := info_parts info3; obtain ⟨hcut15, hA15, hC15⟩ := print_take_of (P := Tryz.prog) (Value.int .i64) 0 29 3 .i64 Tryz.underlying29 hi015 hsz15 (some ad470) c0_0 l0_0 x8_1 (od) (od) HC0_0.out; have HR472 := Aside0.mk (Kd.C_of_reads (h1 := fun _ => rfl) (hA15 _ (Kd.reads_of_C HR0_0.out))); have HC472 := Aside0.mk hC15; clear hA15 hC15 hi015 hsz15) | (go_at_call 149; refine calls_of_args (args' := #[.slice (some ad470) (l0_0.take (x8_1 : Int).toNat).length c0_0, .int .i64 (rd l0_0 x8_1)]) (by first | (rw [show (l0_0.take (x8_1 : Int).toNat).length = x8_1.toNat from (by rw [List.length_take]; have h_ : (x8_1 : Int) ≤ (l0_0.length : Int) := od; omega)] <;> rfl) | rfl) ?_; (with_reducible refine (slices_Contains_int_int.calls k1 _ _ (l0_0.take (x8_1 : Int).toNat) (rd l0_0 x8_1) true _ ?side1 HC472.out A12.out).mono ?_); (case side1 => repeat (first | exact (Kd.C_below HR472.out (tb HB)) | (with_reducible refine Kd.C_alloc ?_ _) | (with_reducible refine Kd.C_drewN ?_ _) | (with_reducible refine Kd.C_drew ?_))); rintro e w' ⟨rfl, ⟨nd, rfl⟩⟩))
    go_ret
    exact ⟨er, tb HB⟩
   replace H := ipf H
   have H' := Aside0.mk H
   clear H
   have p470 : 0 ≤ (x8_1 : Int) := od
   have q470 : x8_1 < (l0_0.length : Int) := od
   obtain ⟨ad470, e470, hx470_0⟩ := Kd.at_int HR0_0.out x8_1 p470 q470
   cases e470
   replace hx470_0 := ox HB hx470_0
   replace p470 := eq_true p470
   replace q470 := eq_true q470
   go_wp2_with (first | (go_at_call 148; (with_reducible refine (impl_ValOk.calls (rd l0_0 x8_1) true _ A8.out).mono ?_); rintro e w' ⟨rfl, ⟨nd, rfl⟩⟩; have hz16 := cs2_ BK468; obtain ⟨i017, hi017, _, hsz17, _⟩ := info_parts info3; obtain ⟨hcut17, hA17, hC17⟩ := print_take_of (P := Tryz.prog) (Value.int .i64) 0 29 3 .i64 Tryz.underlying29 hi017 hsz17 (some ad470) c0_0 l0_0 x8_1 (od) (od) HC0_0.out; have HR472 := Aside0.mk (Kd.C_of_reads (h1 := fun _ => rfl) (hA17 _ (Kd.reads_of_C HR0_0.out))); have HC472 := Aside0.mk hC17; clear hA17 hC17 hi017 hsz17) | (go_at_call 149; refine calls_of_args (args' := #[.slice (some ad470) (l0_0.take (x8_1 : Int).toNat).length c0_0, .int .i64 (rd l0_0 x8_1)]) (by first | (rw [show (l0_0.take (x8_1 : Int).toNat).length = x8_1.toNat from (by rw [List.length_take]; have h_ : (x8_1 : Int) ≤ (l0_0.length : Int) := od; omega)] <;> rfl) | rfl) ?_; (with_reducible refine (slices_Contains_int_int.calls k1 _ _ (l0_0.take (x8_1 : Int).toNat) (rd l0_0 x8_1) false _ ?side1 HC472.out A12.out).mono ?_); (case side1 => repeat (first | exact (Kd.C_below HR472.out (tb HB)) | (with_reducible refine Kd.C_alloc ?_ _) | (with_reducible refine Kd.C_drewN ?_ _) | (with_reducible refine Kd.C_drew ?_))); rintro e w' ⟨rfl, ⟨nd, rfl⟩⟩))
   go_roundg k1
   case measure => have := HK1.out; omega
   case rel => exact ⟨(wrap64 (x8_1 + 1)), rsd, H', ⟨by have := HK1.out; omega⟩, ⟨by (with_reducible repeat (first | refine blk_drewN ?_ _ | refine blk_drew ?_ | refine blk_alloc ?_ _)); exact BK468.out⟩, ⟨tb HB⟩⟩
mutual
def impl_orderOk.l0 : Nat → Int → List (S134) → Int → Int → List (S39) → List (S52) → List (S82) → Int → List (S134) → List Int → List Int → Int → Option (Bool)
 | 0, _, _, _, _, _, _, _, _, _, _, _, _ => none
 | k + 1, x3, x9, x10, x11, x483000, x483001, x483002, x483003, x483004, x483005, x483006, x483007 => if x11 < x10 then (if 0 ≤ x11 then (if x11 < (x9.length : Int) then (if ((rd_T134 x9 x11).f3) ≥ 0 then (impl_orderOk.l0 k (wrap64 (x3 + 1)) x9 x10 (wrap64 (x11 + 1)) x483000 x483001 x483002 x483003 x483004 x483005 x483006 x483007) else (impl_orderOk.l0 k x3 x9 x10 (wrap64 (x11 + 1)) x483000 x483001 x483002 x483003 x483004 x483005 x483006 x483007)) else (none)) else (none)) else (impl_orderOk.l1 k x3 x483005 (x483005.length : Int) 0 x483000 x483001 x483002 x483003 x483004 x483005 x483006 x483007)
def impl_orderOk.l1 : Nat → Int → List Int → Int → Int → List (S39) → List (S52) → List (S82) → Int → List (S134) → List Int → List Int → Int → Option (Bool)
 | 0, _, _, _, _, _, _, _, _, _, _, _, _ => none
 | k + 1, x3, x22, x23, x24, x483000, x483001, x483002, x483003, x483004, x483005, x483006, x483007 => if x24 < x23 then (if 0 ≤ x24 then (if x24 < (x22.length : Int) then ((impl_from.f (rd x22 x24) 0 (wrap64 ((x483004.length : Int) - 1))).bind fun t486 => (if t486 = true then (if 0 ≤ (rd x22 x24) then (if (rd x22 x24) < (x483004.length : Int) then (if ((rd_T134 x483004 (rd x22 x24)).f3) < 0 then (some false) else (if x24 ≤ (x483005.length : Int) then ((slices_Contains_int_int.f k (x483005.take (x24 : Int).toNat) (rd x22 x24)).bind fun t489 => (if t489 = true then (some false) else (if x24 > 0 then (if 0 ≤ (wrap64 (x24 - 1)) then (if (wrap64 (x24 - 1)) < (x483005.length : Int) then (if 0 ≤ (rd x483005 (wrap64 (x24 - 1))) then (if (rd x483005 (wrap64 (x24 - 1))) < (x483004.length : Int) then (if ((rd_T134 x483004 (rd x483005 (wrap64 (x24 - 1)))).f3) > ((rd_T134 x483004 (rd x22 x24)).f3) then (some false) else (impl_orderOk.l1 k x3 x22 x23 (wrap64 (x24 + 1)) x483000 x483001 x483002 x483003 x483004 x483005 x483006 x483007)) else (none)) else (none)) else (none)) else (none)) else (impl_orderOk.l1 k x3 x22 x23 (wrap64 (x24 + 1)) x483000 x483001 x483002 x483003 x483004 x483005 x483006 x483007)))) else (none))) else (none)) else (none)) else (some false))) else (none)) else (none)) else (some (x3 == (x483005.length : Int)))
end
def impl_orderOk.f (k : Nat) (l0_0 : List (S39)) (l0_1 : List (S52)) (l0_2 : List (S82)) (a0_3 : Int) (l0_4 : List (S134)) (l0_5 : List Int) (l0_6 : List Int) (a0_7 : Int) : Option (Bool) := impl_orderOk.l0 k 0 l0_4 (l0_4.length : Int) 0 l0_0 l0_1 l0_2 a0_3 l0_4 l0_5 l0_6 a0_7
def impl_orderOk.T11 : Bool × List (List Nat × List Nat) := (true, [([], []), ([], []), ([1], [1]), ([2], [2]), ([3], [3]), ([0, 4], [0, 4]), ([5], [5]), ([6, 5], [6]), ([7], [7]), ([8, 7], [7, 8]), ([7], [7]), ([9, 10, 7], [7, 9, 10]), ([11, 7], [7, 11]), ([12, 7], [7, 12]), ([13, 7], [7, 13]), ([7, 14], [7, 14]), ([15, 7], [15]), ([16], [16]), ([17, 16], [16, 17]), ([16], [16]), ([18, 19, 16], [16, 18, 19]), ([16], [16]), ([20, 21, 16, 16], [16, 20, 21]), ([16, 22], [16, 22]), ([23, 22], [23]), ([24], [24]), ([25, 24], [24, 25]), ([26, 24, 24], [24, 26]), ([27], [27]), ([28, 27], [27, 28]), ([27], [27]), ([30, 27], [27, 30]), ([27], [27]), ([32, 27], [27, 32]), ([31, 33, 27], [27, 31, 33]), ([34, 27], [27, 34]), ([29, 35, 27], [27, 29, 35]), ([36, 27], [27, 36]), ([37, 27], [27, 37]), ([27], [27]), ([39, 27], [27, 39]), ([27], [27]), ([40, 41, 27], [27, 40, 41]), ([42, 27], [27, 42]), ([43, 27], [27, 43]), ([38, 44, 27], [27, 38, 44]), ([27, 45, 24], [24, 27, 45]), ([24, 46], [24, 46])])
def impl_orderOk.B11 : List Nat := [0, 0, 2, 6, 14, 31, 63, 127, 255, 511, 255, 2047, 4095, 8191, 16383, 32767, 65535, 131071, 262143, 131071, 1048575, 131071, 4194303, 8388607, 16777215, 33554431, 67108863, 134217727, 268435455, 536870911, 268435455, 1342177279, 268435455, 4563402751, 16374562815, 33554431999, 68719476735, 137438953471, 274877906943, 268435455, 550024249343, 268435455, 3848559132671, 8246605643775, 17042698665983, 35184372088831, 70368744177663, 140737488355327]
theorem impl_orderOk.tab11 : rtab .any (opsOf Tryz.f97 11) = impl_orderOk.T11 := by kernel_rfl
theorem impl_orderOk.bits11 : waitsOk impl_orderOk.T11.2 impl_orderOk.B11 = true := by kernel_rfl
set_option maxHeartbeats 8000000 in
set_option maxRecDepth 100000 in
theorem impl_orderOk.calls (k : Nat) (A0_0 : Option Addr) (c0_0 : Nat) (l0_0 : List (S39)) (A0_1 : Option Addr) (c0_1 : Nat) (l0_1 : List (S52)) (A0_2 : Option Addr) (c0_2 : Nat) (l0_2 : List (S82)) (a0_3 : Int) (A0_4 : Option Addr) (c0_4 : Nat) (l0_4 : List (S134)) (A0_5 : Option Addr) (c0_5 : Nat) (l0_5 : List Int) (A0_6 : Option Addr) (c0_6 : Nat) (l0_6 : List Int) (a0_7 : Int) (r : Bool) (w : World) (hr0_0 : Kd.C k39 w A0_0 l0_0.length l0_0) (hc0_0 : l0_0.length ≤ c0_0) (hr0_1 : Kd.C k52 w A0_1 l0_1.length l0_1) (hc0_1 : l0_1.length ≤ c0_1) (hr0_2 : Kd.C k82 w A0_2 l0_2.length l0_2) (hc0_2 : l0_2.length ≤ c0_2) (hr0_4 : Kd.C k134 w A0_4 l0_4.length l0_4) (hc0_4 : l0_4.length ≤ c0_4) (hr0_5 : Kd.C (Kd.int .i64) w A0_5 l0_5.length l0_5) (hc0_5 : l0_5.length ≤ c0_5) (hr0_6 : Kd.C (Kd.int .i64) w A0_6 l0_6.length l0_6) (hc0_6 : l0_6.length ≤ c0_6) (h : impl_orderOk.f k l0_0 l0_1 l0_2 a0_3 l0_4 l0_5 l0_6 a0_7 = some r) :
  Calls Tryz.prog 97 #[.agg #[.slice A0_0 l0_0.length c0_0, .slice A0_1 l0_1.length c0_1, .slice A0_2 l0_2.length c0_2, .int .i64 a0_3, .slice A0_4 l0_4.length c0_4, .slice A0_5 l0_5.length c0_5, .slice A0_6 l0_6.length c0_6, .int .i64 a0_7]] w fun e w' => e = .returned (.bool r) ∧ Below w.heap.size w w' := by
 have hu75 := Tryz.underlying75
 have hu134 := Tryz.underlying134
 have HR0_0 := Aside0.mk hr0_0
 have HC0_0 := Aside0.mk hc0_0
 clear hr0_0 hc0_0
 have HR0_1 := Aside0.mk hr0_1
 have HC0_1 := Aside0.mk hc0_1
 clear hr0_1 hc0_1
 have HR0_2 := Aside0.mk hr0_2
 have HC0_2 := Aside0.mk hc0_2
 clear hr0_2 hc0_2
 have HR0_4 := Aside0.mk hr0_4
 have HC0_4 := Aside0.mk hc0_4
 clear hr0_4 hc0_4
 have HR0_5 := Aside0.mk hr0_5
 have HC0_5 := Aside0.mk hc0_5
 clear hr0_5 hc0_5
 have HR0_6 := Aside0.mk hr0_6
 have HC0_6 := Aside0.mk hc0_6
 clear hr0_6 hc0_6
 have HB := Aside0.mk (Below.refl w.heap.size w)
 have H := h
 clear h
 unfold impl_orderOk.f at H
 have H' := Aside0.mk H
 clear H
 go_enter Tryz.func97, Tryz.ntmps97
 go_wp2_with (first | ((with_reducible refine gq 1 rfl ?_); refine bx0 HB (N := 1) (t := 75) ?_; clear HB; intro gb482 w2 BK482 GE482 HB; have hz3 := cs8_ BK482))
 go_loopg [3, 11] k (fun kq v3 v11 w' => ∃ (x3_1 : Int) (x11_1 : Int), v3 = .int .i64 x3_1 ∧ v11 = .int .i64 x11_1 ∧ Aside0 (impl_orderOk.l0 kq x3_1 l0_4 (l0_4.length : Int) x11_1 l0_0 l0_1 l0_2 a0_3 l0_4 l0_5 l0_6 a0_7 = some r) ∧ Aside0 (kq ≤ k) ∧ Aside0 (w'.heap[gb482]? = some (.cells #[(.slice A0_0 l0_0.length c0_0), (.slice A0_1 l0_1.length c0_1), (.slice A0_2 l0_2.length c0_2), .int .i64 a0_3, (.slice A0_4 l0_4.length c0_4), (.slice A0_5 l0_5.length c0_5), (.slice A0_6 l0_6.length c0_6), .int .i64 a0_7] 75 (0, 0))) ∧ Aside0 (Below w.heap.size w w'))
 case atStart => exact ⟨(0), (0), rsd, rsd, H', ⟨Nat.le_refl _⟩, ⟨by (with_reducible repeat (first | refine blk_drewN ?_ _ | refine blk_drew ?_ | refine blk_alloc ?_ _)); exact BK482.out⟩, ⟨tb HB⟩⟩
 case round =>
  clear H'
  obtain ⟨x3_1, x11_1, rfl, rfl, HA, HK1, BK482, HB⟩ := hrel
  cases gk with
  | zero => exact absurd HA.out (by simp [impl_orderOk.l0])
  | succ k1 =>
   have H := HA.out
   clear HA
   simp only [impl_orderOk.l0] at H
   revert H; refine icd (fun c4b0 H => ?pos) fun c4b0 H => ?_
   case pos =>
    obtain ⟨c5b0, H⟩ := itd H
    obtain ⟨c6b0, H⟩ := itd H
    revert H; refine icd (fun c7b0 H => ?_) fun c7b0 H => ?neg
    case neg =>
     have H' := Aside0.mk H
     clear H
     have p483 : 0 ≤ (x11_1 : Int) := od
     have q483 : x11_1 < (l0_4.length : Int) := od
     obtain ⟨ad483, A483_8, c483_8, e483, hx483, hl483_8, hi483_8⟩ := att134 HR0_4.out x11_1 p483 q483
     cases e483
     replace hx483 := ox9 HB hx483
     have HR483_8 := Aside0.mk hi483_8
     have HC483_8 := Aside0.mk hl483_8
     clear hi483_8 hl483_8
     replace p483 := eq_true p483
     replace q483 := eq_true q483
     go_wp2_with (first | ((with_reducible refine gq 5 rfl ?_); refine bx1 HB BK482 (N := 5) (cs := #[.int .i64 0, .int .i64 0, .int .i64 0, .int .i64 0, .int .i64 0, .int .i64 0, .int .i64 0, .int .i64 0, .slice none 0 0]) (t := 134) ?_; clear HB BK482; intro gb484 w11 BK484 GE484 HB NB482_484 NB484_482 BK482; have hnb12 := NB484_482.out; have hnc12 := NB482_484.out; have hz13 := cs9_ BK484))
     go_roundg k1
     case measure => have := HK1.out; omega
     case rel => exact ⟨(x3_1), (wrap64 (x11_1 + 1)), rsd, rsd, H', ⟨by have := HK1.out; omega⟩, ⟨bf BK482⟩, ⟨tb HB⟩⟩
    have H' := Aside0.mk H
    clear H
    have p483 : 0 ≤ (x11_1 : Int) := od
    have q483 : x11_1 < (l0_4.length : Int) := od
    obtain ⟨ad483, A483_8, c483_8, e483, hx483_0, hx483_1, hx483_2, hx483_3, hx483_4, hx483_5, hx483_6, hx483_7, hx483_8, hl483_8, hi483_8⟩ := at_T134 HR0_4.out x11_1 p483 q483
    cases e483
    replace hx483_0 := ox HB hx483_0
    replace hx483_1 := ox HB hx483_1
    replace hx483_2 := ox HB hx483_2
    replace hx483_3 := ox HB hx483_3
    replace hx483_4 := ox HB hx483_4
    replace hx483_5 := ox HB hx483_5
    replace hx483_6 := ox HB hx483_6
    replace hx483_7 := ox HB hx483_7
    replace hx483_8 := ox HB hx483_8
    have HR483_8 := Aside0.mk hi483_8
    have HC483_8 := Aside0.mk hl483_8
    clear hi483_8 hl483_8
    replace p483 := eq_true p483
    replace q483 := eq_true q483
    go_wp2_with (first | ((with_reducible refine gq 5 rfl ?_); refine bx1 HB BK482 (N := 5) (cs := #[.int .i64 0, .int .i64 0, .int .i64 0, .int .i64 0, .int .i64 0, .int .i64 0, .int .i64 0, .int .i64 0, .slice none 0 0]) (t := 134) ?_; clear HB BK482; intro gb484 w8 BK484 GE484 HB NB482_484 NB484_482 BK482; have hnb9 := NB484_482.out; have hnc9 := NB482_484.out; have hz10 := cs9_ BK484))
    go_roundg k1
    case measure => have := HK1.out; omega
    case rel => exact ⟨(wrap64 (x3_1 + 1)), (wrap64 (x11_1 + 1)), rsd, rsd, H', ⟨by have := HK1.out; omega⟩, ⟨bf BK482⟩, ⟨tb HB⟩⟩
   have H' := Aside0.mk H
   clear H
   have hz14 := cs8_ BK482
   go_wp2
   go_loopg [24] k1 (fun kq v24 w' => ∃ (x24_2 : Int), v24 = .int .i64 x24_2 ∧ Aside0 (impl_orderOk.l1 kq x3_1 l0_5 (l0_5.length : Int) x24_2 l0_0 l0_1 l0_2 a0_3 l0_4 l0_5 l0_6 a0_7 = some r) ∧ Aside0 (kq ≤ k1) ∧ Aside0 (w'.heap[gb482]? = some (.cells #[(.slice A0_0 l0_0.length c0_0), (.slice A0_1 l0_1.length c0_1), (.slice A0_2 l0_2.length c0_2), .int .i64 a0_3, (.slice A0_4 l0_4.length c0_4), (.slice A0_5 l0_5.length c0_5), (.slice A0_6 l0_6.length c0_6), .int .i64 a0_7] 75 (0, 0))) ∧ Aside0 (Below w.heap.size w w'))
   case atStart => exact ⟨(0), rsd, H', ⟨Nat.le_refl _⟩, ⟨by (with_reducible repeat (first | refine blk_drewN ?_ _ | refine blk_drew ?_ | refine blk_alloc ?_ _)); exact BK482.out⟩, ⟨tb HB⟩⟩
   case round =>
    clear H'
    try clear hx483_0
    try clear hx483_1
    try clear hx483_2
    try clear hx483_3
    try clear hx483_4
    try clear hx483_5
    try clear hx483_6
    try clear hx483_7
    try clear hx483_8
    obtain ⟨x24_2, rfl, HA, HK2, BK482, HB⟩ := hrel
    cases gk with
    | zero => exact absurd HA.out (by simp [impl_orderOk.l1])
    | succ k2 =>
     have H := HA.out
     clear HA
     simp only [impl_orderOk.l1] at H
     revert H; refine icd (fun c15b0 H => ?_) fun c15b0 H => ?neg
     case neg =>
      obtain rfl := oin H
      have hz44 := cs8_ BK482
      go_wp2
      go_ret
      exact ⟨er, tb HB⟩
     obtain ⟨c16b0, H⟩ := itd H
     obtain ⟨c17b0, H⟩ := itd H
     obtain ⟨t486, A18, H⟩ := bn H
     try dsimp only at H
     cases t486
     case false =>
      replace H := ipf H
      obtain rfl := oin H
      have p485 : 0 ≤ (x24_2 : Int) := od
      have q485 : x24_2 < (l0_5.length : Int) := od
      obtain ⟨ad485, e485, hx485_0⟩ := Kd.at_int HR0_5.out x24_2 p485 q485
      cases e485
      replace hx485_0 := ox HB hx485_0
      replace p485 := eq_true p485
      replace q485 := eq_true q485
      try go_wp2
      replace BK482 := bd BK482
      replace HB := Aside0.mk (below_drew1 HB.out)
      refine start_ (n := 48) (S := fun w' => cS8 gb482 (.slice A0_0 l0_0.length c0_0) (.slice A0_1 l0_1.length c0_1) (.slice A0_2 l0_2.length c0_2) (.int .i64 a0_3) (.slice A0_4 l0_4.length c0_4) (.slice (some ad485) l0_5.length c0_5) (.slice A0_6 l0_6.length c0_6) (.int .i64 a0_7) w') (ds := []) #[false, false, false, false, false, false, false, false, false, false, false, false, false, false, false, false, false, false, false, false, false, false, false, false, false, false, false, false, false, false, false, false, false, false, false, false, false, false, false, false, false, false, false, false, false, false, false, false] (by kernel_rfl) rfl rfl (ds8_ BK482) (fun hHeld => ?_); refine with_tabW impl_orderOk.tab11 impl_orderOk.bits11 (fun HT_ HW_ => ?_)
      generalize wr.drew = w43 at BK482 HB hHeld ⊢
      refine pu 0 29 ?_; refine pu 1 30 ?_; refine ta 2 31 ?_; refine pu 3 32 ?_; refine pu 4 33 ?_
      refine on1 5 (some 34) (fun K hK => ?_)
      refine gS Tryz.func62 #[.int .i64 (rd l0_5 x24_2), .int .i64 0, .int .i64 (wrap64 ((l0_4.length : Int) - 1))] ?_
      with_reducible refine (impl_from.calls (rd l0_5 x24_2) 0 (wrap64 ((l0_4.length : Int) - 1)) false _ A18.out).mono ?_
      rintro e w' ⟨rfl, ⟨nd, rfl⟩⟩
      refine ⟨_, rfl, ?_⟩
      refine hK.out _ _ (ds8_ BK482) (fun hHeld => ?_)
      clear hK K
      refine nm 34 ?_
      refine pu 6 35 ?_; refine pu 7 36 ?_; refine pn 8 37 ?_; refine pn 9 38 ?_; refine pn 10 39 ?_; refine pn 11 40 ?_; refine pn 12 41 ?_; refine pn 13 42 ?_; refine pn 14 43 ?_; refine pu 15 44 ?_; refine pu 16 45 ?_; refine pn 17 46 ?_
      refine pn 18 47 ?_; refine pn 19 48 ?_; refine pn 20 49 ?_; refine pn 21 50 ?_; refine pn 22 51 ?_; refine pu 23 52 ?_; refine pu 24 53 ?_; refine pn 25 54 ?_; refine pn 26 55 ?_; refine pn 27 56 ?_; refine pn 28 57 ?_; refine pn 29 58 ?_
      refine pn 30 59 ?_; refine pn 31 60 ?_; refine pn 32 61 ?_; refine pn 33 62 ?_; refine pn 34 63 ?_; refine pn 35 64 ?_; refine pn 36 65 ?_; refine pn 37 66 ?_; refine pn 38 67 ?_; refine pn 39 68 ?_; refine pn 40 69 ?_; refine pn 41 70 ?_
      refine pn 42 71 ?_; refine pn 43 72 ?_; refine pn 44 73 ?_; refine pn 45 74 ?_; refine pn 46 75 ?_; refine pu 47 76 ?_
      refine done_ (done_of HT_.out (by kernel_rfl)) ?_
      try go_wp2
      go_ret
      exact ⟨er, tb HB⟩
     replace H := ipt H
     obtain ⟨c20b0, H⟩ := itd H
     obtain ⟨c21b0, H⟩ := itd H
     revert H; refine icd (fun c22b0 H => ?pos) fun c22b0 H => ?_
     case pos =>
      obtain rfl := oin H
      have p485 : 0 ≤ (x24_2 : Int) := od
      have q485 : x24_2 < (l0_5.length : Int) := od
      obtain ⟨ad485, e485, hx485_0⟩ := Kd.at_int HR0_5.out x24_2 p485 q485
      cases e485
      replace hx485_0 := ox HB hx485_0
      replace p485 := eq_true p485
      replace q485 := eq_true q485
      try go_wp2
      replace BK482 := bd BK482
      replace HB := Aside0.mk (below_drew1 HB.out)
      have p487 : 0 ≤ ((rd l0_5 x24_2) : Int) := od
      have q487 : (rd l0_5 x24_2) < (l0_4.length : Int) := od
      obtain ⟨ad487, A487_8, c487_8, e487, hx487, hl487_8, hi487_8⟩ := att134 HR0_4.out (rd l0_5 x24_2) p487 q487
      have hw487 := hx487
      cases e487
      replace hx487 := ox9 HB hx487
      have HR487_8 := Aside0.mk hi487_8
      have HC487_8 := Aside0.mk hl487_8
      clear hi487_8 hl487_8
      replace p487 := eq_true p487
      replace q487 := eq_true q487
      refine start_ (n := 48) (S := fun w' => cS8 gb482 (.slice A0_0 l0_0.length c0_0) (.slice A0_1 l0_1.length c0_1) (.slice A0_2 l0_2.length c0_2) (.int .i64 a0_3) (.slice (some ad487) l0_4.length c0_4) (.slice (some ad485) l0_5.length c0_5) (.slice A0_6 l0_6.length c0_6) (.int .i64 a0_7) w' ∧ eT134 (ad487.add (((rd l0_5 x24_2)).toNat * 9)) (rd_T134 l0_4 (rd l0_5 x24_2)) A487_8 c487_8 w') (ds := []) #[false, false, false, false, false, false, false, false, false, false, false, false, false, false, false, false, false, false, false, false, false, false, false, false, false, false, false, false, false, false, false, false, false, false, false, false, false, false, false, false, false, false, false, false, false, false, false, false] (by kernel_rfl) rfl rfl ⟨ds8_ BK482, (ox9 HB hw487 :)⟩ (fun hHeld => ?_); refine with_tabW impl_orderOk.tab11 impl_orderOk.bits11 (fun HT_ HW_ => ?_)
      generalize wr.drew = w23 at BK482 HB HR487_8 hx487 hHeld ⊢
      refine pu 0 29 ?_; refine pu 1 30 ?_; refine ta 2 31 ?_; refine pu 3 32 ?_; refine pu 4 33 ?_
      refine on1 5 (some 34) (fun K hK => ?_)
      refine gS Tryz.func62 #[.int .i64 (rd l0_5 x24_2), .int .i64 0, .int .i64 (wrap64 ((l0_4.length : Int) - 1))] ?_
      with_reducible refine (impl_from.calls (rd l0_5 x24_2) 0 (wrap64 ((l0_4.length : Int) - 1)) true _ A18.out).mono ?_
      rintro e w' ⟨rfl, ⟨nd, rfl⟩⟩
      refine ⟨_, rfl, ?_⟩
      refine hK.out _ _ ⟨ds8_ BK482, (ox9 HB hw487 :)⟩ (fun hHeld => ?_)
      clear hK K
      refine nm 34 ?_
      refine pu 6 35 ?_; refine pu 7 36 ?_; refine pu 8 37 ?_; refine pu 10 39 ?_; refine ta 9 38 ?_; refine pu 11 40 ?_; refine pu 12 41 ?_; refine ta 13 42 ?_; refine pu 14 43 ?_; refine pu 15 44 ?_; refine pu 16 45 ?_; refine pn 17 46 ?_
      refine pn 18 47 ?_; refine pn 19 48 ?_; refine pn 20 49 ?_; refine pn 21 50 ?_; refine pn 22 51 ?_; refine pu 23 52 ?_; refine pu 24 53 ?_; refine pn 25 54 ?_; refine pn 26 55 ?_; refine pn 27 56 ?_; refine pn 28 57 ?_; refine pn 29 58 ?_
      refine pn 30 59 ?_; refine pn 31 60 ?_; refine pn 32 61 ?_; refine pn 33 62 ?_; refine pn 34 63 ?_; refine pn 35 64 ?_; refine pn 36 65 ?_; refine pn 37 66 ?_; refine pn 38 67 ?_; refine pn 39 68 ?_; refine pn 40 69 ?_; refine pn 41 70 ?_
      refine pn 42 71 ?_; refine pn 43 72 ?_; refine pn 44 73 ?_; refine pn 45 74 ?_; refine pn 46 75 ?_; refine pu 47 76 ?_
      refine done_ (done_of HT_.out (by kernel_rfl)) ?_
      try go_wp2
      go_ret
      exact ⟨er, tb HB⟩
     have c24b0 := eq_true (od : 0 ≤ x24_2)
     obtain ⟨c25b0, c25b1, H⟩ := itb H
     obtain ⟨t489, A26, H⟩ := bn H
     try dsimp only at H
     cases t489
     case true =>
      replace H := ipt H
      obtain rfl := oin H
      have p485 : 0 ≤ (x24_2 : Int) := od
      have q485 : x24_2 < (l0_5.length : Int) := od
      obtain ⟨ad485, e485, hx485_0⟩ := Kd.at_int HR0_5.out x24_2 p485 q485
      cases e485
      replace hx485_0 := ox HB hx485_0
      replace p485 := eq_true p485
      replace q485 := eq_true q485
      try go_wp2
      replace BK482 := bd BK482
      replace HB := Aside0.mk (below_drew1 HB.out)
      have p487 : 0 ≤ ((rd l0_5 x24_2) : Int) := od
      have q487 : (rd l0_5 x24_2) < (l0_4.length : Int) := od
      obtain ⟨ad487, A487_8, c487_8, e487, hx487, hl487_8, hi487_8⟩ := att134 HR0_4.out (rd l0_5 x24_2) p487 q487
      have hw487 := hx487
      cases e487
      replace hx487 := ox9 HB hx487
      have HR487_8 := Aside0.mk hi487_8
      have HC487_8 := Aside0.mk hl487_8
      clear hi487_8 hl487_8
      replace p487 := eq_true p487
      replace q487 := eq_true q487
      refine start_ (n := 48) (S := fun w' => cS8 gb482 (.slice A0_0 l0_0.length c0_0) (.slice A0_1 l0_1.length c0_1) (.slice A0_2 l0_2.length c0_2) (.int .i64 a0_3) (.slice (some ad487) l0_4.length c0_4) (.slice (some ad485) l0_5.length c0_5) (.slice A0_6 l0_6.length c0_6) (.int .i64 a0_7) w' ∧ eT134 (ad487.add (((rd l0_5 x24_2)).toNat * 9)) (rd_T134 l0_4 (rd l0_5 x24_2)) A487_8 c487_8 w') (ds := []) #[false, false, false, false, false, false, false, false, false, false, false, false, false, false, false, false, false, false, false, false, false, false, false, false, false, false, false, false, false, false, false, false, false, false, false, false, false, false, false, false, false, false, false, false, false, false, false, false] (by kernel_rfl) rfl rfl ⟨ds8_ BK482, (ox9 HB hw487 :)⟩ (fun hHeld => ?_); refine with_tabW impl_orderOk.tab11 impl_orderOk.bits11 (fun HT_ HW_ => ?_)
      generalize wr.drew = w28 at BK482 HB HR487_8 hx487 hHeld ⊢
      refine pu 0 29 ?_; refine pu 1 30 ?_; refine ta 2 31 ?_; refine pu 3 32 ?_; refine pu 4 33 ?_
      refine on1 5 (some 34) (fun K hK => ?_)
      refine gS Tryz.func62 #[.int .i64 (rd l0_5 x24_2), .int .i64 0, .int .i64 (wrap64 ((l0_4.length : Int) - 1))] ?_
      with_reducible refine (impl_from.calls (rd l0_5 x24_2) 0 (wrap64 ((l0_4.length : Int) - 1)) true _ A18.out).mono ?_
      rintro e w' ⟨rfl, ⟨nd, rfl⟩⟩
      refine ⟨_, rfl, ?_⟩
      obtain ⟨i029, hi029, _, hsz29, _⟩ := info_parts info3
      obtain ⟨hcut29, hA29, hC29⟩ := print_take_of (P := Tryz.prog) (Value.int .i64) 0 29 3 .i64 Tryz.underlying29 hi029 hsz29 (some ad485) c0_5 l0_5 x24_2 (od) (od) HC0_5.out
      have HR488 := Aside0.mk (Kd.C_of_reads (h1 := fun _ => rfl) (hA29 _ (Kd.reads_of_C HR0_5.out)))
      have HC488 := Aside0.mk hC29
      clear hA29 hC29 hi029 hsz29
      refine hK.out _ _ ⟨ds8_ BK482, (ox9 HB hw487 :)⟩ (fun hHeld => ?_)
      clear hK K
      refine nm 34 ?_
      refine pu 6 35 ?_; refine pu 7 36 ?_; refine pu 8 37 ?_; refine pu 10 39 ?_; refine ta 9 38 ?_; refine pu 11 40 ?_; refine pu 12 41 ?_; refine ta 13 42 ?_; refine pu 14 43 ?_; refine pu 15 44 ?_; refine pu 16 45 ?_; refine pu 17 46 ?_
      refine pu 19 48 ?_; refine pu 21 50 ?_; refine ta 18 47 ?_; refine pu 20 49 ?_
      refine on1 22 (some 51) (fun K hK => ?_)
      refine goes_ Tryz.func149 (by kernel_rfl) rfl #[.slice (some ad485) (l0_5.take (x24_2 : Int).toNat).length c0_5, .int .i64 (rd l0_5 x24_2)] (by rfl) rfl rfl (by (try simp only [List.map_toArray, List.map_cons, List.map_nil]); first | done | (rw [show (l0_5.take (x24_2 : Int).toNat).length = x24_2.toNat from (by rw [List.length_take]; have h_ : (x24_2 : Int) ≤ (l0_5.length : Int) := od; omega)] <;> rfl) | rfl | (simp only [List.length_drop, List.length_take]; rfl)) ?_
      with_reducible refine (slices_Contains_int_int.calls k2 _ _ (l0_5.take (x24_2 : Int).toNat) (rd l0_5 x24_2) true _ ?side1 ?side2 A26.out).mono ?_
      (case side1 => repeat (first | exact (Kd.C_below HR488.out (tb HB)) | (with_reducible refine Kd.C_alloc ?_ _) | (with_reducible refine Kd.C_drewN ?_ _) | (with_reducible refine Kd.C_drew ?_)))
      (case side2 => exact HC488.out)
      rintro e w' ⟨rfl, ⟨nd, rfl⟩⟩
      refine ⟨_, rfl, ?_⟩
      refine hK.out _ _ ⟨ds8_ BK482, (ox9 HB hw487 :)⟩ (fun hHeld => ?_)
      clear hK K
      refine nm 51 ?_
      refine pu 23 52 ?_; refine pu 24 53 ?_; refine pn 25 54 ?_; refine pn 26 55 ?_; refine pn 27 56 ?_; refine pn 28 57 ?_; refine pn 29 58 ?_; refine pn 30 59 ?_; refine pn 31 60 ?_; refine pn 32 61 ?_; refine pn 33 62 ?_; refine pn 34 63 ?_
      refine pn 35 64 ?_; refine pn 36 65 ?_; refine pn 37 66 ?_; refine pn 38 67 ?_; refine pn 39 68 ?_; refine pn 40 69 ?_; refine pn 41 70 ?_; refine pn 42 71 ?_; refine pn 43 72 ?_; refine pn 44 73 ?_; refine pn 45 74 ?_; refine pn 46 75 ?_
      refine pu 47 76 ?_
      refine done_ (done_of HT_.out (by kernel_rfl)) ?_
      try go_wp2
      go_ret
      exact ⟨er, tb HB⟩
     replace H := ipf H
     revert H; refine icd (fun c30b0 H => ?_) fun c30b0 H => ?neg
     case neg =>
      have H' := Aside0.mk H
      clear H
      have p485 : 0 ≤ (x24_2 : Int) := od
      have q485 : x24_2 < (l0_5.length : Int) := od
      obtain ⟨ad485, e485, hx485_0⟩ := Kd.at_int HR0_5.out x24_2 p485 q485
      cases e485
      replace hx485_0 := ox HB hx485_0
      replace p485 := eq_true p485
      replace q485 := eq_true q485
      try go_wp2
      replace BK482 := bd BK482
      replace HB := Aside0.mk (below_drew1 HB.out)
      have p487 : 0 ≤ ((rd l0_5 x24_2) : Int) := od
      have q487 : (rd l0_5 x24_2) < (l0_4.length : Int) := od
      obtain ⟨ad487, A487_8, c487_8, e487, hx487, hl487_8, hi487_8⟩ := att134 HR0_4.out (rd l0_5 x24_2) p487 q487
      have hw487 := hx487
      cases e487
      replace hx487 := ox9 HB hx487
      have HR487_8 := Aside0.mk hi487_8
      have HC487_8 := Aside0.mk hl487_8
      clear hi487_8 hl487_8
      replace p487 := eq_true p487
      replace q487 := eq_true q487
      refine start_ (n := 48) (S := fun w' => cS8 gb482 (.slice A0_0 l0_0.length c0_0) (.slice A0_1 l0_1.length c0_1) (.slice A0_2 l0_2.length c0_2) (.int .i64 a0_3) (.slice (some ad487) l0_4.length c0_4) (.slice (some ad485) l0_5.length c0_5) (.slice A0_6 l0_6.length c0_6) (.int .i64 a0_7) w' ∧ eT134 (ad487.add (((rd l0_5 x24_2)).toNat * 9)) (rd_T134 l0_4 (rd l0_5 x24_2)) A487_8 c487_8 w') (ds := []) #[false, false, false, false, false, false, false, false, false, false, false, false, false, false, false, false, false, false, false, false, false, false, false, false, false, false, false, false, false, false, false, false, false, false, false, false, false, false, false, false, false, false, false, false, false, false, false, false] (by kernel_rfl) rfl rfl ⟨ds8_ BK482, (ox9 HB hw487 :)⟩ (fun hHeld => ?_); refine with_tabW impl_orderOk.tab11 impl_orderOk.bits11 (fun HT_ HW_ => ?_)
      generalize wr.drew = w41 at BK482 HB HR487_8 hx487 hHeld ⊢
      refine pu 0 29 ?_; refine pu 1 30 ?_; refine ta 2 31 ?_; refine pu 3 32 ?_; refine pu 4 33 ?_
      refine on1 5 (some 34) (fun K hK => ?_)
      refine gS Tryz.func62 #[.int .i64 (rd l0_5 x24_2), .int .i64 0, .int .i64 (wrap64 ((l0_4.length : Int) - 1))] ?_
      with_reducible refine (impl_from.calls (rd l0_5 x24_2) 0 (wrap64 ((l0_4.length : Int) - 1)) true _ A18.out).mono ?_
      rintro e w' ⟨rfl, ⟨nd, rfl⟩⟩
      refine ⟨_, rfl, ?_⟩
      obtain ⟨i042, hi042, _, hsz42, _⟩ := info_parts info3
      obtain ⟨hcut42, hA42, hC42⟩ := print_take_of (P := Tryz.prog) (Value.int .i64) 0 29 3 .i64 Tryz.underlying29 hi042 hsz42 (some ad485) c0_5 l0_5 x24_2 (od) (od) HC0_5.out
      have HR488 := Aside0.mk (Kd.C_of_reads (h1 := fun _ => rfl) (hA42 _ (Kd.reads_of_C HR0_5.out)))
      have HC488 := Aside0.mk hC42
      clear hA42 hC42 hi042 hsz42
      refine hK.out _ _ ⟨ds8_ BK482, (ox9 HB hw487 :)⟩ (fun hHeld => ?_)
      clear hK K
      refine nm 34 ?_
      refine pu 6 35 ?_; refine pu 7 36 ?_; refine pu 8 37 ?_; refine pu 10 39 ?_; refine ta 9 38 ?_; refine pu 11 40 ?_; refine pu 12 41 ?_; refine ta 13 42 ?_; refine pu 14 43 ?_; refine pu 15 44 ?_; refine pu 16 45 ?_; refine pu 17 46 ?_
      refine pu 19 48 ?_; refine pu 21 50 ?_; refine ta 18 47 ?_; refine pu 20 49 ?_
      refine on1 22 (some 51) (fun K hK => ?_)
      refine goes_ Tryz.func149 (by kernel_rfl) rfl #[.slice (some ad485) (l0_5.take (x24_2 : Int).toNat).length c0_5, .int .i64 (rd l0_5 x24_2)] (by rfl) rfl rfl (by (try simp only [List.map_toArray, List.map_cons, List.map_nil]); first | done | (rw [show (l0_5.take (x24_2 : Int).toNat).length = x24_2.toNat from (by rw [List.length_take]; have h_ : (x24_2 : Int) ≤ (l0_5.length : Int) := od; omega)] <;> rfl) | rfl | (simp only [List.length_drop, List.length_take]; rfl)) ?_
      with_reducible refine (slices_Contains_int_int.calls k2 _ _ (l0_5.take (x24_2 : Int).toNat) (rd l0_5 x24_2) false _ ?side1 ?side2 A26.out).mono ?_
      (case side1 => repeat (first | exact (Kd.C_below HR488.out (tb HB)) | (with_reducible refine Kd.C_alloc ?_ _) | (with_reducible refine Kd.C_drewN ?_ _) | (with_reducible refine Kd.C_drew ?_)))
      (case side2 => exact HC488.out)
      rintro e w' ⟨rfl, ⟨nd, rfl⟩⟩
      refine ⟨_, rfl, ?_⟩
      refine hK.out _ _ ⟨ds8_ BK482, (ox9 HB hw487 :)⟩ (fun hHeld => ?_)
      clear hK K
      refine nm 51 ?_
      refine pu 23 52 ?_; refine pu 24 53 ?_; refine pu 25 54 ?_; refine pu 26 55 ?_; refine pu 27 56 ?_; refine pn 28 57 ?_; refine pn 29 58 ?_; refine pn 30 59 ?_; refine pn 31 60 ?_; refine pn 32 61 ?_; refine pn 33 62 ?_; refine pn 34 63 ?_
      refine pn 35 64 ?_; refine pn 36 65 ?_; refine pn 37 66 ?_; refine pn 38 67 ?_; refine pn 39 68 ?_; refine pn 40 69 ?_; refine pn 41 70 ?_; refine pn 42 71 ?_; refine pn 43 72 ?_; refine pn 44 73 ?_; refine pn 45 74 ?_; refine pu 46 75 ?_
      refine pu 47 76 ?_
      refine done_ (done_of HT_.out (by kernel_rfl)) ?_
      try go_wp2
      go_roundg k2
      case measure => have := HK1.out; have := HK2.out; omega
      case rel => exact ⟨(wrap64 (x24_2 + 1)), rsd, H', ⟨by have := HK1.out; have := HK2.out; omega⟩, ⟨by (with_reducible repeat (first | refine blk_drewN ?_ _ | refine blk_drew ?_ | refine blk_alloc ?_ _)); exact BK482.out⟩, ⟨tb HB⟩⟩
     obtain ⟨ji31, hji31⟩ : ∃ j_ : Int, (wrap64 (x24_2 - 1)) = j_ := ⟨_, rfl⟩
     replace H : (if 0 ≤ (ji31) then (if (ji31) < (l0_5.length : Int) then (if 0 ≤ (rd l0_5 (ji31)) then (if (rd l0_5 (ji31)) < (l0_4.length : Int) then (if ((rd_T134 l0_4 (rd l0_5 (ji31))).f3) > ((rd_T134 l0_4 (rd l0_5 x24_2)).f3) then (some false) else (impl_orderOk.l1 k2 x3_1 l0_5 (l0_5.length : Int) (wrap64 (x24_2 + 1)) l0_0 l0_1 l0_2 a0_3 l0_4 l0_5 l0_6 a0_7)) else (none)) else (none)) else (none)) else (none)) = some r := by first | (rw [hji31] at H; exact H) | (simp only [hji31] at H ⊢; exact H)
     (try rw [hji31] at A18)
     (try rw [hji31] at A26)
     have hji31w : (IntKind.i64.wrap (x24_2 - 1)) = ji31 := (i64_w _).trans hji31
     obtain ⟨c32b0, H⟩ := itd H
     obtain ⟨c33b0, H⟩ := itd H
     obtain ⟨c34b0, H⟩ := itd H
     obtain ⟨c35b0, H⟩ := itd H
     revert H; refine icd (fun c36b0 H => ?pos) fun c36b0 H => ?_
     case pos =>
      obtain rfl := oin H
      have p485 : 0 ≤ (x24_2 : Int) := od
      have q485 : x24_2 < (l0_5.length : Int) := od
      obtain ⟨ad485, e485, hx485_0⟩ := Kd.at_int HR0_5.out x24_2 p485 q485
      cases e485
      replace hx485_0 := ox HB hx485_0
      replace p485 := eq_true p485
      replace q485 := eq_true q485
      try go_wp2
      replace BK482 := bd BK482
      replace HB := Aside0.mk (below_drew1 HB.out)
      have p487 : 0 ≤ ((rd l0_5 x24_2) : Int) := od
      have q487 : (rd l0_5 x24_2) < (l0_4.length : Int) := od
      obtain ⟨ad487, A487_8, c487_8, e487, hx487, hl487_8, hi487_8⟩ := att134 HR0_4.out (rd l0_5 x24_2) p487 q487
      have hw487 := hx487
      cases e487
      replace hx487 := ox9 HB hx487
      have HR487_8 := Aside0.mk hi487_8
      have HC487_8 := Aside0.mk hl487_8
      clear hi487_8 hl487_8
      replace p487 := eq_true p487
      replace q487 := eq_true q487
      have p490 : 0 ≤ ((ji31) : Int) := od
      have q490 : (ji31) < (l0_5.length : Int) := od
      obtain ⟨ad490, e490, hx490_0⟩ := Kd.at_int HR0_5.out (ji31) p490 q490
      have hw490_0 := hx490_0
      obtain rfl : ad485 = ad490 := (by injection e490)
      replace hx490_0 := ox HB hx490_0
      replace p490 := eq_true p490
      replace q490 := eq_true q490
      have p491 : 0 ≤ ((rd l0_5 (ji31)) : Int) := od
      have q491 : (rd l0_5 (ji31)) < (l0_4.length : Int) := od
      obtain ⟨ad491, A491_8, c491_8, e491, hx491, hl491_8, hi491_8⟩ := att134 HR0_4.out (rd l0_5 (ji31)) p491 q491
      have hw491 := hx491
      obtain rfl : ad487 = ad491 := (by injection e491)
      replace hx491 := ox9 HB hx491
      have HR491_8 := Aside0.mk hi491_8
      have HC491_8 := Aside0.mk hl491_8
      clear hi491_8 hl491_8
      replace p491 := eq_true p491
      replace q491 := eq_true q491
      have p492 : 0 ≤ ((rd l0_5 x24_2) : Int) := od
      have q492 : (rd l0_5 x24_2) < (l0_4.length : Int) := od
      obtain ⟨ad492, A492_8, c492_8, e492, hx492, hl492_8, hi492_8⟩ := att134 HR0_4.out (rd l0_5 x24_2) p492 q492
      have hw492 := hx492
      obtain rfl : ad487 = ad492 := (by injection e492)
      replace hx492 := ox9 HB hx492
      have HR492_8 := Aside0.mk hi492_8
      have HC492_8 := Aside0.mk hl492_8
      clear hi492_8 hl492_8
      replace p492 := eq_true p492
      replace q492 := eq_true q492
      have ea_ := Option.some.inj (hx487.2.2.2.2.2.2.2.2.symm.trans hx492.2.2.2.2.2.2.2.2)
      injection ea_ with ea_ en_ ec_
      subst ea_
      subst ec_
      clear en_
      refine start_ (n := 48) (S := fun w' => cS8 gb482 (.slice A0_0 l0_0.length c0_0) (.slice A0_1 l0_1.length c0_1) (.slice A0_2 l0_2.length c0_2) (.int .i64 a0_3) (.slice (some ad487) l0_4.length c0_4) (.slice (some ad485) l0_5.length c0_5) (.slice A0_6 l0_6.length c0_6) (.int .i64 a0_7) w' ∧ eT134 (ad487.add (((rd l0_5 x24_2)).toNat * 9)) (rd_T134 l0_4 (rd l0_5 x24_2)) A487_8 c487_8 w' ∧ w'.cell? (ad485.add ((ji31)).toNat) = some (.int .i64 (rd l0_5 (ji31))) ∧ eT134 (ad487.add (((rd l0_5 (ji31))).toNat * 9)) (rd_T134 l0_4 (rd l0_5 (ji31))) A491_8 c491_8 w' ∧ eT134 (ad487.add (((rd l0_5 x24_2)).toNat * 9)) (rd_T134 l0_4 (rd l0_5 x24_2)) A487_8 c487_8 w') (ds := []) #[false, false, false, false, false, false, false, false, false, false, false, false, false, false, false, false, false, false, false, false, false, false, false, false, false, false, false, false, false, false, false, false, false, false, false, false, false, false, false, false, false, false, false, false, false, false, false, false] (by kernel_rfl) rfl rfl ⟨ds8_ BK482, (ox9 HB hw487 :), ((HB.out.cell (World.block_lt_of_cell? w _ hw490_0)).trans hw490_0), (ox9 HB hw491 :), (ox9 HB hw492 :)⟩ (fun hHeld => ?_); refine with_tabW impl_orderOk.tab11 impl_orderOk.bits11 (fun HT_ HW_ => ?_)
      generalize wr.drew = w37 at BK482 HB HR487_8 HR491_8 HR492_8 hx487 hx490_0 hx491 hx492 hHeld ⊢
      refine pu 0 29 ?_; refine pu 1 30 ?_; refine ta 2 31 ?_; refine pu 3 32 ?_; refine pu 4 33 ?_
      refine on1 5 (some 34) (fun K hK => ?_)
      refine gS Tryz.func62 #[.int .i64 (rd l0_5 x24_2), .int .i64 0, .int .i64 (wrap64 ((l0_4.length : Int) - 1))] ?_
      with_reducible refine (impl_from.calls (rd l0_5 x24_2) 0 (wrap64 ((l0_4.length : Int) - 1)) true _ A18.out).mono ?_
      rintro e w' ⟨rfl, ⟨nd, rfl⟩⟩
      refine ⟨_, rfl, ?_⟩
      obtain ⟨i038, hi038, _, hsz38, _⟩ := info_parts info3
      obtain ⟨hcut38, hA38, hC38⟩ := print_take_of (P := Tryz.prog) (Value.int .i64) 0 29 3 .i64 Tryz.underlying29 hi038 hsz38 (some ad485) c0_5 l0_5 x24_2 (od) (od) HC0_5.out
      have HR488 := Aside0.mk (Kd.C_of_reads (h1 := fun _ => rfl) (hA38 _ (Kd.reads_of_C HR0_5.out)))
      have HC488 := Aside0.mk hC38
      clear hA38 hC38 hi038 hsz38
      refine hK.out _ _ ⟨ds8_ BK482, (ox9 HB hw487 :), ((HB.out.cell (World.block_lt_of_cell? w _ hw490_0)).trans hw490_0), (ox9 HB hw491 :), (ox9 HB hw492 :)⟩ (fun hHeld => ?_)
      clear hK K
      refine nm 34 ?_
      refine pu 6 35 ?_; refine pu 7 36 ?_; refine pu 8 37 ?_; refine pu 10 39 ?_; refine ta 9 38 ?_; refine pu 11 40 ?_; refine pu 12 41 ?_; refine ta 13 42 ?_; refine pu 14 43 ?_; refine pu 15 44 ?_; refine pu 16 45 ?_; refine pu 17 46 ?_
      refine pu 19 48 ?_; refine pu 21 50 ?_; refine ta 18 47 ?_; refine pu 20 49 ?_
      refine on1 22 (some 51) (fun K hK => ?_)
      refine goes_ Tryz.func149 (by kernel_rfl) rfl #[.slice (some ad485) (l0_5.take (x24_2 : Int).toNat).length c0_5, .int .i64 (rd l0_5 x24_2)] (by rfl) rfl rfl (by (try simp only [List.map_toArray, List.map_cons, List.map_nil]); first | done | (rw [show (l0_5.take (x24_2 : Int).toNat).length = x24_2.toNat from (by rw [List.length_take]; have h_ : (x24_2 : Int) ≤ (l0_5.length : Int) := od; omega)] <;> rfl) | rfl | (simp only [List.length_drop, List.length_take]; rfl)) ?_
      with_reducible refine (slices_Contains_int_int.calls k2 _ _ (l0_5.take (x24_2 : Int).toNat) (rd l0_5 x24_2) false _ ?side1 ?side2 A26.out).mono ?_
      (case side1 => repeat (first | exact (Kd.C_below HR488.out (tb HB)) | (with_reducible refine Kd.C_alloc ?_ _) | (with_reducible refine Kd.C_drewN ?_ _) | (with_reducible refine Kd.C_drew ?_)))
      (case side2 => exact HC488.out)
      rintro e w' ⟨rfl, ⟨nd, rfl⟩⟩
      refine ⟨_, rfl, ?_⟩
      refine hK.out _ _ ⟨ds8_ BK482, (ox9 HB hw487 :), ((HB.out.cell (World.block_lt_of_cell? w _ hw490_0)).trans hw490_0), (ox9 HB hw491 :), (ox9 HB hw492 :)⟩ (fun hHeld => ?_)
      clear hK K
      refine nm 51 ?_
      refine pu 23 52 ?_; refine pu 24 53 ?_; refine pu 25 54 ?_; refine pu 26 55 ?_; refine pu 27 56 ?_; refine pu 28 57 ?_; refine pu 30 59 ?_; refine pu 32 61 ?_; refine pu 33 62 ?_; refine pu 39 68 ?_; refine pu 41 70 ?_; refine ta 29 58 ?_
      refine ta 31 60 ?_; refine pu 34 63 ?_; refine ta 35 64 ?_; refine pu 36 65 ?_; refine pu 37 66 ?_; refine ta 38 67 ?_; refine ta 40 69 ?_; refine pu 42 71 ?_; refine pu 43 72 ?_; refine ta 44 73 ?_; refine pu 45 74 ?_; refine pu 46 75 ?_
      refine pu 47 76 ?_
      refine done_ (done_of HT_.out (by kernel_rfl)) ?_
      try go_wp2
      go_ret
      exact ⟨by first | rfl | (simp [errW_none, errW_some] <;> rfl) | (simp only [← hji31]; first | rfl | (simp [errW_none, errW_some] <;> rfl)) | (simp [*, errW_none, errW_some] <;> rfl), tb HB⟩
     have H' := Aside0.mk H
     clear H
     have p485 : 0 ≤ (x24_2 : Int) := od
     have q485 : x24_2 < (l0_5.length : Int) := od
     obtain ⟨ad485, e485, hx485_0⟩ := Kd.at_int HR0_5.out x24_2 p485 q485
     cases e485
     replace hx485_0 := ox HB hx485_0
     replace p485 := eq_true p485
     replace q485 := eq_true q485
     try go_wp2
     replace BK482 := bd BK482
     replace HB := Aside0.mk (below_drew1 HB.out)
     have p487 : 0 ≤ ((rd l0_5 x24_2) : Int) := od
     have q487 : (rd l0_5 x24_2) < (l0_4.length : Int) := od
     obtain ⟨ad487, A487_8, c487_8, e487, hx487, hl487_8, hi487_8⟩ := att134 HR0_4.out (rd l0_5 x24_2) p487 q487
     have hw487 := hx487
     cases e487
     replace hx487 := ox9 HB hx487
     have HR487_8 := Aside0.mk hi487_8
     have HC487_8 := Aside0.mk hl487_8
     clear hi487_8 hl487_8
     replace p487 := eq_true p487
     replace q487 := eq_true q487
     have p490 : 0 ≤ ((ji31) : Int) := od
     have q490 : (ji31) < (l0_5.length : Int) := od
     obtain ⟨ad490, e490, hx490_0⟩ := Kd.at_int HR0_5.out (ji31) p490 q490
     have hw490_0 := hx490_0
     obtain rfl : ad485 = ad490 := (by injection e490)
     replace hx490_0 := ox HB hx490_0
     replace p490 := eq_true p490
     replace q490 := eq_true q490
     have p491 : 0 ≤ ((rd l0_5 (ji31)) : Int) := od
     have q491 : (rd l0_5 (ji31)) < (l0_4.length : Int) := od
     obtain ⟨ad491, A491_8, c491_8, e491, hx491, hl491_8, hi491_8⟩ := att134 HR0_4.out (rd l0_5 (ji31)) p491 q491
     have hw491 := hx491
     obtain rfl : ad487 = ad491 := (by injection e491)
     replace hx491 := ox9 HB hx491
     have HR491_8 := Aside0.mk hi491_8
     have HC491_8 := Aside0.mk hl491_8
     clear hi491_8 hl491_8
     replace p491 := eq_true p491
     replace q491 := eq_true q491
     have p492 : 0 ≤ ((rd l0_5 x24_2) : Int) := od
     have q492 : (rd l0_5 x24_2) < (l0_4.length : Int) := od
     obtain ⟨ad492, A492_8, c492_8, e492, hx492, hl492_8, hi492_8⟩ := att134 HR0_4.out (rd l0_5 x24_2) p492 q492
     have hw492 := hx492
     obtain rfl : ad487 = ad492 := (by injection e492)
     replace hx492 := ox9 HB hx492
     have HR492_8 := Aside0.mk hi492_8
     have HC492_8 := Aside0.mk hl492_8
     clear hi492_8 hl492_8
     replace p492 := eq_true p492
     replace q492 := eq_true q492
     have ea_ := Option.some.inj (hx487.2.2.2.2.2.2.2.2.symm.trans hx492.2.2.2.2.2.2.2.2)
     injection ea_ with ea_ en_ ec_
     subst ea_
     subst ec_
     clear en_
     refine start_ (n := 48) (S := fun w' => cS8 gb482 (.slice A0_0 l0_0.length c0_0) (.slice A0_1 l0_1.length c0_1) (.slice A0_2 l0_2.length c0_2) (.int .i64 a0_3) (.slice (some ad487) l0_4.length c0_4) (.slice (some ad485) l0_5.length c0_5) (.slice A0_6 l0_6.length c0_6) (.int .i64 a0_7) w' ∧ eT134 (ad487.add (((rd l0_5 x24_2)).toNat * 9)) (rd_T134 l0_4 (rd l0_5 x24_2)) A487_8 c487_8 w' ∧ w'.cell? (ad485.add ((ji31)).toNat) = some (.int .i64 (rd l0_5 (ji31))) ∧ eT134 (ad487.add (((rd l0_5 (ji31))).toNat * 9)) (rd_T134 l0_4 (rd l0_5 (ji31))) A491_8 c491_8 w' ∧ eT134 (ad487.add (((rd l0_5 x24_2)).toNat * 9)) (rd_T134 l0_4 (rd l0_5 x24_2)) A487_8 c487_8 w') (ds := []) #[false, false, false, false, false, false, false, false, false, false, false, false, false, false, false, false, false, false, false, false, false, false, false, false, false, false, false, false, false, false, false, false, false, false, false, false, false, false, false, false, false, false, false, false, false, false, false, false] (by kernel_rfl) rfl rfl ⟨ds8_ BK482, (ox9 HB hw487 :), ((HB.out.cell (World.block_lt_of_cell? w _ hw490_0)).trans hw490_0), (ox9 HB hw491 :), (ox9 HB hw492 :)⟩ (fun hHeld => ?_); refine with_tabW impl_orderOk.tab11 impl_orderOk.bits11 (fun HT_ HW_ => ?_)
     generalize wr.drew = w39 at BK482 HB HR487_8 HR491_8 HR492_8 hx487 hx490_0 hx491 hx492 hHeld ⊢
     refine pu 0 29 ?_; refine pu 1 30 ?_; refine ta 2 31 ?_; refine pu 3 32 ?_; refine pu 4 33 ?_
     refine on1 5 (some 34) (fun K hK => ?_)
     refine gS Tryz.func62 #[.int .i64 (rd l0_5 x24_2), .int .i64 0, .int .i64 (wrap64 ((l0_4.length : Int) - 1))] ?_
     with_reducible refine (impl_from.calls (rd l0_5 x24_2) 0 (wrap64 ((l0_4.length : Int) - 1)) true _ A18.out).mono ?_
     rintro e w' ⟨rfl, ⟨nd, rfl⟩⟩
     refine ⟨_, rfl, ?_⟩
     obtain ⟨i040, hi040, _, hsz40, _⟩ := info_parts info3
     obtain ⟨hcut40, hA40, hC40⟩ := print_take_of (P := Tryz.prog) (Value.int .i64) 0 29 3 .i64 Tryz.underlying29 hi040 hsz40 (some ad485) c0_5 l0_5 x24_2 (od) (od) HC0_5.out
     have HR488 := Aside0.mk (Kd.C_of_reads (h1 := fun _ => rfl) (hA40 _ (Kd.reads_of_C HR0_5.out)))
     have HC488 := Aside0.mk hC40
     clear hA40 hC40 hi040 hsz40
     refine hK.out _ _ ⟨ds8_ BK482, (ox9 HB hw487 :), ((HB.out.cell (World.block_lt_of_cell? w _ hw490_0)).trans hw490_0), (ox9 HB hw491 :), (ox9 HB hw492 :)⟩ (fun hHeld => ?_)
     clear hK K
     refine nm 34 ?_
     refine pu 6 35 ?_; refine pu 7 36 ?_; refine pu 8 37 ?_; refine pu 10 39 ?_; refine ta 9 38 ?_; refine pu 11 40 ?_; refine pu 12 41 ?_; refine ta 13 42 ?_; refine pu 14 43 ?_; refine pu 15 44 ?_; refine pu 16 45 ?_; refine pu 17 46 ?_
     refine pu 19 48 ?_; refine pu 21 50 ?_; refine ta 18 47 ?_; refine pu 20 49 ?_
     refine on1 22 (some 51) (fun K hK => ?_)
     refine goes_ Tryz.func149 (by kernel_rfl) rfl #[.slice (some ad485) (l0_5.take (x24_2 : Int).toNat).length c0_5, .int .i64 (rd l0_5 x24_2)] (by rfl) rfl rfl (by (try simp only [List.map_toArray, List.map_cons, List.map_nil]); first | done | (rw [show (l0_5.take (x24_2 : Int).toNat).length = x24_2.toNat from (by rw [List.length_take]; have h_ : (x24_2 : Int) ≤ (l0_5.length : Int) := od; omega)] <;> rfl) | rfl | (simp only [List.length_drop, List.length_take]; rfl)) ?_
     with_reducible refine (slices_Contains_int_int.calls k2 _ _ (l0_5.take (x24_2 : Int).toNat) (rd l0_5 x24_2) false _ ?side1 ?side2 A26.out).mono ?_
     (case side1 => repeat (first | exact (Kd.C_below HR488.out (tb HB)) | (with_reducible refine Kd.C_alloc ?_ _) | (with_reducible refine Kd.C_drewN ?_ _) | (with_reducible refine Kd.C_drew ?_)))
     (case side2 => exact HC488.out)
     rintro e w' ⟨rfl, ⟨nd, rfl⟩⟩
     refine ⟨_, rfl, ?_⟩
     refine hK.out _ _ ⟨ds8_ BK482, (ox9 HB hw487 :), ((HB.out.cell (World.block_lt_of_cell? w _ hw490_0)).trans hw490_0), (ox9 HB hw491 :), (ox9 HB hw492 :)⟩ (fun hHeld => ?_)
     clear hK K
     refine nm 51 ?_
     refine pu 23 52 ?_; refine pu 24 53 ?_; refine pu 25 54 ?_; refine pu 26 55 ?_; refine pu 27 56 ?_; refine pu 28 57 ?_; refine pu 30 59 ?_; refine pu 32 61 ?_; refine pu 33 62 ?_; refine pu 39 68 ?_; refine pu 41 70 ?_; refine ta 29 58 ?_
     refine ta 31 60 ?_; refine pu 34 63 ?_; refine ta 35 64 ?_; refine pu 36 65 ?_; refine pu 37 66 ?_; refine ta 38 67 ?_; refine ta 40 69 ?_; refine pu 42 71 ?_; refine pu 43 72 ?_; refine ta 44 73 ?_; refine pu 45 74 ?_; refine pu 46 75 ?_
     refine pu 47 76 ?_
     refine done_ (done_of HT_.out (by kernel_rfl)) ?_
     try go_wp2
     go_roundg k2
     case measure => have := HK1.out; have := HK2.out; omega
     case rel => exact ⟨(wrap64 (x24_2 + 1)), rsd, H', ⟨by have := HK1.out; have := HK2.out; omega⟩, ⟨by (with_reducible repeat (first | refine blk_drewN ?_ _ | refine blk_drew ?_ | refine blk_alloc ?_ _)); exact BK482.out⟩, ⟨tb HB⟩⟩
end Go.Proofs.YtopikhjcbcpiaaaGreat.Q
section
namespace Go.Proofs.YtopikhjcbcpiaaaGreat.Q
open Go.RowKit Go.Proofs.YtopikhjcbcpiaaaGreatW.PrintWords Go.Proofs.YtopikhjcbcpiaaaGreatX
def cvOp (x : S173) : S132 := ⟨x.f0, x.f1, x.f2⟩
theorem szOpS (l : List S173) (a : Int) (h0 : 0 ≤ a) (h1 : a ≤ 1048576) (hl : l.length ≤ 9223372036854775807) : laws_szOpS.f l a = some (if a < l.length then -1 else a - l.length) := by
  unfold laws_szOpS.f
  rw [wrap_in (by omega) (by omega)]
  by_cases h : a < l.length
  · rw [if_pos (by omega), if_pos h]
  · rw [if_neg (by omega), if_neg h]
theorem ev_toOpS (l : List S173) (hl : l.length ≤ 1048576) : Ev (fun k => laws_toOpS.f k l) (l.map cvOp) := by
  unfold laws_toOpS.f
  refine ev_pos (by omega) (ev_pos (by omega) ?_)
  refine ev_fill (g := fun k acc i => laws_toOpS.l0 k l acc i) (za := z173) ?_ ?_ _ (by simp)
  · intro acc i r hi hacc h
    refine Ev.step (fun k => ?_) h
    simp only [laws_toOpS.l0, laws_toOp.f, Option.bind_some]
    rw [if_pos (by omega), if_pos (by omega), if_pos (by omega), wrap_succ hi (by omega)]
    rfl
  · intro acc hacc
    refine ev_succ (fun k => ?_)
    simp only [laws_toOpS.l0]
    rw [if_neg (by omega)]
theorem eqOp_self (x : S132) : laws_eqOp.f x.f0 x.f1 x.f2 x.f0 x.f1 x.f2 = some true := by
  simp [laws_eqOp.f]
theorem ev_eqOpS (l : List S132) (hl : l.length ≤ 1048576) : Ev (fun k => laws_eqOpS.f k l l) true := by
  unfold laws_eqOpS.f
  refine ev_pos rfl ?_
  refine ev_down (g := fun k i => laws_eqOpS.l0 k l l i) (R := fun _ => true) (n := l.length) ?_ 0 (by omega)
  intro i hi h
  by_cases hlt : i < l.length
  · refine Ev.step (fun k => ?_) (h hlt)
    simp only [laws_eqOpS.l0, eqOp_self, Option.bind_some]
    rw [if_pos (by omega), if_pos (by omega), if_pos (by omega), if_pos trivial, wrap_succ hlt (by omega)]
  · refine ev_succ (fun k => ?_)
    simp only [laws_eqOpS.l0]
    rw [if_neg (by omega)]
def cvPair (x : S224) : S145 := ⟨x.f0, x.f1⟩
theorem szPairS (l : List S224) (a : Int) (h0 : 0 ≤ a) (h1 : a ≤ 1048576) (hl : l.length ≤ 9223372036854775807) : laws_szPairS.f l a = some (if a < l.length then -1 else a - l.length) := by
  unfold laws_szPairS.f
  rw [wrap_in (by omega) (by omega)]
  by_cases h : a < l.length
  · rw [if_pos (by omega), if_pos h]
  · rw [if_neg (by omega), if_neg h]
theorem ev_toPairS (l : List S224) (hl : l.length ≤ 1048576) : Ev (fun k => laws_toPairS.f k l) (l.map cvPair) := by
  unfold laws_toPairS.f
  refine ev_pos (by omega) (ev_pos (by omega) ?_)
  refine ev_fill (g := fun k acc i => laws_toPairS.l0 k l acc i) (za := z224) ?_ ?_ _ (by simp)
  · intro acc i r hi hacc h
    refine Ev.step (fun k => ?_) h
    simp only [laws_toPairS.l0, laws_toPair.f, Option.bind_some]
    rw [if_pos (by omega), if_pos (by omega), if_pos (by omega), wrap_succ hi (by omega)]
    rfl
  · intro acc hacc
    refine ev_succ (fun k => ?_)
    simp only [laws_toPairS.l0]
    rw [if_neg (by omega)]
theorem eqPair_self (x : S145) : laws_eqPair.f x.f0 x.f1 x.f0 x.f1 = some true := by
  simp [laws_eqPair.f]
theorem ev_eqPairS (l : List S145) (hl : l.length ≤ 1048576) : Ev (fun k => laws_eqPairS.f k l l) true := by
  unfold laws_eqPairS.f
  refine ev_pos rfl ?_
  refine ev_down (g := fun k i => laws_eqPairS.l0 k l l i) (R := fun _ => true) (n := l.length) ?_ 0 (by omega)
  intro i hi h
  by_cases hlt : i < l.length
  · refine Ev.step (fun k => ?_) (h hlt)
    simp only [laws_eqPairS.l0, eqPair_self, Option.bind_some]
    rw [if_pos (by omega), if_pos (by omega), if_pos (by omega), if_pos trivial, wrap_succ hlt (by omega)]
  · refine ev_succ (fun k => ?_)
    simp only [laws_eqPairS.l0]
    rw [if_neg (by omega)]
def cvHelp (x : S226) : S42 := ⟨x.f0, x.f1, x.f2, x.f3⟩
theorem szHelpS (l : List S226) (a : Int) (h0 : 0 ≤ a) (h1 : a ≤ 1048576) (hl : l.length ≤ 9223372036854775807) : laws_szHelpS.f l a = some (if a < l.length then -1 else a - l.length) := by
  unfold laws_szHelpS.f
  rw [wrap_in (by omega) (by omega)]
  by_cases h : a < l.length
  · rw [if_pos (by omega), if_pos h]
  · rw [if_neg (by omega), if_neg h]
theorem ev_toHelpS (l : List S226) (hl : l.length ≤ 1048576) : Ev (fun k => laws_toHelpS.f k l) (l.map cvHelp) := by
  unfold laws_toHelpS.f
  refine ev_pos (by omega) (ev_pos (by omega) ?_)
  refine ev_fill (g := fun k acc i => laws_toHelpS.l0 k l acc i) (za := z226) ?_ ?_ _ (by simp)
  · intro acc i r hi hacc h
    refine Ev.step (fun k => ?_) h
    simp only [laws_toHelpS.l0, laws_toHelp.f, Option.bind_some]
    rw [if_pos (by omega), if_pos (by omega), if_pos (by omega), wrap_succ hi (by omega)]
    rfl
  · intro acc hacc
    refine ev_succ (fun k => ?_)
    simp only [laws_toHelpS.l0]
    rw [if_neg (by omega)]
theorem eqHelp_self (x : S42) : laws_eqHelp.f x.f0 x.f1 x.f2 x.f3 x.f0 x.f1 x.f2 x.f3 = some true := by
  simp [laws_eqHelp.f]
theorem ev_eqHelpS (l : List S42) (hl : l.length ≤ 1048576) : Ev (fun k => laws_eqHelpS.f k l l) true := by
  unfold laws_eqHelpS.f
  refine ev_pos rfl ?_
  refine ev_down (g := fun k i => laws_eqHelpS.l0 k l l i) (R := fun _ => true) (n := l.length) ?_ 0 (by omega)
  intro i hi h
  by_cases hlt : i < l.length
  · refine Ev.step (fun k => ?_) (h hlt)
    simp only [laws_eqHelpS.l0, eqHelp_self, Option.bind_some]
    rw [if_pos (by omega), if_pos (by omega), if_pos (by omega), if_pos trivial, wrap_succ hlt (by omega)]
  · refine ev_succ (fun k => ?_)
    simp only [laws_eqHelpS.l0]
    rw [if_neg (by omega)]
def cvWord (x : S207) : S39 := ⟨x.f0, x.f1, x.f2⟩
theorem szWordS (l : List S207) (a : Int) (h0 : 0 ≤ a) (h1 : a ≤ 1048576) (hl : l.length ≤ 9223372036854775807) : laws_szWordS.f l a = some (if a < l.length then -1 else a - l.length) := by
  unfold laws_szWordS.f
  rw [wrap_in (by omega) (by omega)]
  by_cases h : a < l.length
  · rw [if_pos (by omega), if_pos h]
  · rw [if_neg (by omega), if_neg h]
theorem ev_toWordS (l : List S207) (hl : l.length ≤ 1048576) : Ev (fun k => laws_toWordS.f k l) (l.map cvWord) := by
  unfold laws_toWordS.f
  refine ev_pos (by omega) (ev_pos (by omega) ?_)
  refine ev_fill (g := fun k acc i => laws_toWordS.l0 k l acc i) (za := z207) ?_ ?_ _ (by simp)
  · intro acc i r hi hacc h
    refine Ev.step (fun k => ?_) h
    simp only [laws_toWordS.l0, laws_toWord.f, Option.bind_some]
    rw [if_pos (by omega), if_pos (by omega), if_pos (by omega), wrap_succ hi (by omega)]
    rfl
  · intro acc hacc
    refine ev_succ (fun k => ?_)
    simp only [laws_toWordS.l0]
    rw [if_neg (by omega)]
theorem eqWord_self (x : S39) : laws_eqWord.f x.f0 x.f1 x.f2 x.f0 x.f1 x.f2 = some true := by
  simp [laws_eqWord.f]
theorem ev_eqWordS (l : List S39) (hl : l.length ≤ 1048576) : Ev (fun k => laws_eqWordS.f k l l) true := by
  unfold laws_eqWordS.f
  refine ev_pos rfl ?_
  refine ev_down (g := fun k i => laws_eqWordS.l0 k l l i) (R := fun _ => true) (n := l.length) ?_ 0 (by omega)
  intro i hi h
  by_cases hlt : i < l.length
  · refine Ev.step (fun k => ?_) (h hlt)
    simp only [laws_eqWordS.l0, eqWord_self, Option.bind_some]
    rw [if_pos (by omega), if_pos (by omega), if_pos (by omega), if_pos trivial, wrap_succ hlt (by omega)]
  · refine ev_succ (fun k => ?_)
    simp only [laws_eqWordS.l0]
    rw [if_neg (by omega)]
def cvEntry (x : S236) : S37 := ⟨x.f0, x.f1, x.f2⟩
theorem szEntryS (l : List S236) (a : Int) (h0 : 0 ≤ a) (h1 : a ≤ 1048576) (hl : l.length ≤ 9223372036854775807) : laws_szEntryS.f l a = some (if a < l.length then -1 else a - l.length) := by
  unfold laws_szEntryS.f
  rw [wrap_in (by omega) (by omega)]
  by_cases h : a < l.length
  · rw [if_pos (by omega), if_pos h]
  · rw [if_neg (by omega), if_neg h]
theorem ev_toEntryS (l : List S236) (hl : l.length ≤ 1048576) : Ev (fun k => laws_toEntryS.f k l) (l.map cvEntry) := by
  unfold laws_toEntryS.f
  refine ev_pos (by omega) (ev_pos (by omega) ?_)
  refine ev_fill (g := fun k acc i => laws_toEntryS.l0 k l acc i) (za := z236) ?_ ?_ _ (by simp)
  · intro acc i r hi hacc h
    refine Ev.step (fun k => ?_) h
    simp only [laws_toEntryS.l0, laws_toEntry.f, Option.bind_some]
    rw [if_pos (by omega), if_pos (by omega), if_pos (by omega), wrap_succ hi (by omega)]
    rfl
  · intro acc hacc
    refine ev_succ (fun k => ?_)
    simp only [laws_toEntryS.l0]
    rw [if_neg (by omega)]
theorem eqEntry_self (x : S37) : laws_eqEntry.f x.f0 x.f1 x.f2 x.f0 x.f1 x.f2 = some true := by
  simp [laws_eqEntry.f]
theorem ev_eqEntryS (l : List S37) (hl : l.length ≤ 1048576) : Ev (fun k => laws_eqEntryS.f k l l) true := by
  unfold laws_eqEntryS.f
  refine ev_pos rfl ?_
  refine ev_down (g := fun k i => laws_eqEntryS.l0 k l l i) (R := fun _ => true) (n := l.length) ?_ 0 (by omega)
  intro i hi h
  by_cases hlt : i < l.length
  · refine Ev.step (fun k => ?_) (h hlt)
    simp only [laws_eqEntryS.l0, eqEntry_self, Option.bind_some]
    rw [if_pos (by omega), if_pos (by omega), if_pos (by omega), if_pos trivial, wrap_succ hlt (by omega)]
  · refine ev_succ (fun k => ?_)
    simp only [laws_eqEntryS.l0]
    rw [if_neg (by omega)]
end Go.Proofs.YtopikhjcbcpiaaaGreat.Q
end
