/- Part 13 of the steps by which the law is shown: what each function of the program, of the reference and of the law computes. No condition. -/
import Derived.Test.YtopikhjcbcpiaaaGreatFin0
import Derived.Test.YtopikhjcbcpiaaaGreatFin1
import Derived.Test.YtopikhjcbcpiaaaGreatFin9
import Derived.Test.YtopikhjcbcpiaaaGreatFin10
import Derived.Test.YtopikhjcbcpiaaaGreatFin11
import Derived.Test.YtopikhjcbcpiaaaGreatFin12
namespace Go.Proofs.YtopikhjcbcpiaaaGreat.Q
open Go.RowKit Go.Proofs.YtopikhjcbcpiaaaGreatW.PrintWords Go.Proofs.YtopikhjcbcpiaaaGreatW.PrintLast Go.Proofs.YtopikhjcbcpiaaaGreatW.PrintMore
attribute [local go_sem] max2_int min2_int max_two min_two max_three min_three max_four min_four   -- for this text's walks alone
set_option linter.unusedVariables false
set_option linter.unusedSimpArgs false
def laws_FnExactFinished.f (k : Nat) (l0_0 : List (S207)) (l0_1 : List (S201)) (l0_2 : List (S171)) (a0_3 : Int) (l0_4 : List (S176)) (l0_5 : List Int) (l0_6 : List Int) (a0_7 : Int) : Option (Bool) := (laws_szMachine.f k l0_0 l0_1 l0_2 a0_3 l0_4 l0_5 l0_6 a0_7 1048576).bind fun t653 => (if t653 < 0 then (some true) else ((laws_toMachine.f k l0_0 l0_1 l0_2 a0_3 l0_4 l0_5 l0_6 a0_7).bind fun bt654 => ((spec_Finished.f k bt654.1 bt654.2.1 bt654.2.2.1 bt654.2.2.2.1 bt654.2.2.2.2.1 bt654.2.2.2.2.2.1 bt654.2.2.2.2.2.2.1 bt654.2.2.2.2.2.2.2).bind fun t674 => ((laws_toMachine.f k l0_0 l0_1 l0_2 a0_3 l0_4 l0_5 l0_6 a0_7).bind fun bt675 => ((impl_Finished.f k bt675.1 bt675.2.1 bt675.2.2.1 bt675.2.2.2.1 bt675.2.2.2.2.1 bt675.2.2.2.2.2.1 bt675.2.2.2.2.2.2.1 bt675.2.2.2.2.2.2.2).bind fun t696 => (if (t696 != t674) = true then (some false) else ((laws_toMachine.f k l0_0 l0_1 l0_2 a0_3 l0_4 l0_5 l0_6 a0_7).bind fun bt697 => ((laws_eqMachine.f k bt675.1 bt675.2.1 bt675.2.2.1 bt675.2.2.2.1 bt675.2.2.2.2.1 bt675.2.2.2.2.2.1 bt675.2.2.2.2.2.2.1 bt675.2.2.2.2.2.2.2 bt697.1 bt697.2.1 bt697.2.2.1 bt697.2.2.2.1 bt697.2.2.2.2.1 bt697.2.2.2.2.2.1 bt697.2.2.2.2.2.2.1 bt697.2.2.2.2.2.2.2).bind fun t717 => (if t717 = true then (some true) else (some false))))))))))
set_option maxHeartbeats 8000000 in
set_option maxRecDepth 100000 in
theorem laws_FnExactFinished.calls (k : Nat) (A0_0 : Option Addr) (c0_0 : Nat) (l0_0 : List (S207)) (A0_1 : Option Addr) (c0_1 : Nat) (l0_1 : List (S201)) (A0_2 : Option Addr) (c0_2 : Nat) (l0_2 : List (S171)) (a0_3 : Int) (A0_4 : Option Addr) (c0_4 : Nat) (l0_4 : List (S176)) (A0_5 : Option Addr) (c0_5 : Nat) (l0_5 : List Int) (A0_6 : Option Addr) (c0_6 : Nat) (l0_6 : List Int) (a0_7 : Int) (r : Bool) (w : World) (hr0_0 : Kd.C k207 w A0_0 l0_0.length l0_0) (hc0_0 : l0_0.length ≤ c0_0) (hr0_1 : Kd.C k201 w A0_1 l0_1.length l0_1) (hc0_1 : l0_1.length ≤ c0_1) (hr0_2 : Kd.C k171 w A0_2 l0_2.length l0_2) (hc0_2 : l0_2.length ≤ c0_2) (hr0_4 : Kd.C k176 w A0_4 l0_4.length l0_4) (hc0_4 : l0_4.length ≤ c0_4) (hr0_5 : Kd.C (Kd.int .i64) w A0_5 l0_5.length l0_5) (hc0_5 : l0_5.length ≤ c0_5) (hr0_6 : Kd.C (Kd.int .i64) w A0_6 l0_6.length l0_6) (hc0_6 : l0_6.length ≤ c0_6) (h : laws_FnExactFinished.f k l0_0 l0_1 l0_2 a0_3 l0_4 l0_5 l0_6 a0_7 = some r) (hr_ : r = true) :
  Calls Tryz.prog 6 #[.agg #[.slice A0_0 l0_0.length c0_0, .slice A0_1 l0_1.length c0_1, .slice A0_2 l0_2.length c0_2, .int .i64 a0_3, .slice A0_4 l0_4.length c0_4, .slice A0_5 l0_5.length c0_5, .slice A0_6 l0_6.length c0_6, .int .i64 a0_7]] w fun e w' => e = .returned (.bool r) ∧ Below w.heap.size w w' := by
 have hu68 := Tryz.underlying68
 have hu75 := Tryz.underlying75
 have HR0_0 := Aside0.mk hr0_0
 have HC0_0 := Aside0.mk hc0_0
 clear hr0_0 hc0_0
 have HR0_1 := Aside0.mk hr0_1
 have HC0_1 := Aside0.mk hc0_1
 clear hr0_1 hc0_1
 have HR0_2 := Aside0.mk hr0_2
 have HC0_2 := Aside0.mk hc0_2
 clear hr0_2 hc0_2
 have HR0_4 := Aside0.mk hr0_4
 have HC0_4 := Aside0.mk hc0_4
 clear hr0_4 hc0_4
 have HR0_5 := Aside0.mk hr0_5
 have HC0_5 := Aside0.mk hc0_5
 clear hr0_5 hc0_5
 have HR0_6 := Aside0.mk hr0_6
 have HC0_6 := Aside0.mk hc0_6
 clear hr0_6 hc0_6
 have HB := Aside0.mk (Below.refl w.heap.size w)
 have H := h
 clear h
 unfold laws_FnExactFinished.f at H
 obtain ⟨t653, A2, H⟩ := bn H
 try dsimp only at H
 revert H; refine icd (fun c3b0 H => ?pos) fun c3b0 H => ?_
 case pos =>
  obtain rfl := oin H
  go_enter Tryz.func6, Tryz.ntmps6
  go_wp2_with (first | ((with_reducible refine gq 1 rfl ?_); refine bx0 HB (N := 1) (t := 68) ?_; clear HB; intro gb652 w4 BK652 GE652 HB; have hz5 := cs8_ BK652) | ((with_reducible refine gf 24 rfl ?_); refine gL 9 Tryz.func24 #[.agg #[.slice A0_0 l0_0.length c0_0, .slice A0_1 l0_1.length c0_1, .slice A0_2 l0_2.length c0_2, .int .i64 a0_3, .slice A0_4 l0_4.length c0_4, .slice A0_5 l0_5.length c0_5, .slice A0_6 l0_6.length c0_6, .int .i64 a0_7], .int .i64 1048576] ?_; (with_reducible refine (laws_szMachine.calls k _ _ l0_0 _ _ l0_1 _ _ l0_2 a0_3 _ _ l0_4 _ _ l0_5 _ _ l0_6 a0_7 1048576 t653 _ (kc HR0_0 HB) HC0_0.out (kc HR0_1 HB) HC0_1.out (kc HR0_2 HB) HC0_2.out (kc HR0_4 HB) HC0_4.out (kc HR0_5 HB) HC0_5.out (kc HR0_6 HB) HC0_6.out A2.out).mono ?_); rintro e w6 ⟨rfl, hb⟩; refine ⟨_, rfl, ?_⟩; replace BK652 := bb BK652 hb; replace HB := bs HB hb; (try clear hb)))
  go_ret
  exact ⟨er, tb HB⟩
 obtain ⟨⟨t654, t657, t660, t663, t664, t667, t670, t673⟩, A7, H⟩ := bn H
 try dsimp only at H
 obtain ⟨t674, A8, H⟩ := bn H
 try dsimp only at H
 obtain ⟨⟨t675, t678, t681, t684, t685, t688, t691, t694⟩, A9, H⟩ := bn H
 try dsimp only at H
 obtain ⟨t696, A10, H⟩ := bn H
 try dsimp only at H
 by_cases c11 : (t696 != t674) = true
 case pos =>
  rw [if_pos c11] at H
  exact absurd (Option.some.inj (H.trans (congrArg some hr_))) (by simp)
 rw [if_neg c11] at H
 have c11b0 : (t696 != t674) = false := by simpa using c11
 (try (have c11b1 : decide (t696 = t674) = true := by simpa using c11))
 (try (have c11b2 : (t696 == t674) = true := by simpa using c11))
 clear c11
 obtain ⟨⟨t697, t700, t703, t706, t707, t710, t713, t716⟩, A12, H⟩ := bn H
 try dsimp only at H
 obtain ⟨t717, A13, H⟩ := bn H
 try dsimp only at H
 cases t717
 case false =>
  replace H := ipf H
  exact absurd (Option.some.inj (H.trans (congrArg some hr_))) (by simp)
 replace H := ipt H
 obtain rfl := oin H
 go_enter Tryz.func6, Tryz.ntmps6
 try go_wp2_with (first | ((with_reducible refine gq 1 rfl ?_); refine bx0 HB (N := 1) (t := 68) ?_; clear HB; intro gb652 w15 BK652 GE652 HB; have hz16 := cs8_ BK652) | ((with_reducible refine gf 24 rfl ?_); refine gL 9 Tryz.func24 #[.agg #[.slice A0_0 l0_0.length c0_0, .slice A0_1 l0_1.length c0_1, .slice A0_2 l0_2.length c0_2, .int .i64 a0_3, .slice A0_4 l0_4.length c0_4, .slice A0_5 l0_5.length c0_5, .slice A0_6 l0_6.length c0_6, .int .i64 a0_7], .int .i64 1048576] ?_; (with_reducible refine (laws_szMachine.calls k _ _ l0_0 _ _ l0_1 _ _ l0_2 a0_3 _ _ l0_4 _ _ l0_5 _ _ l0_6 a0_7 1048576 t653 _ (kc HR0_0 HB) HC0_0.out (kc HR0_1 HB) HC0_1.out (kc HR0_2 HB) HC0_2.out (kc HR0_4 HB) HC0_4.out (kc HR0_5 HB) HC0_5.out (kc HR0_6 HB) HC0_6.out A2.out).mono ?_); rintro e w17 ⟨rfl, hb⟩; refine ⟨_, rfl, ?_⟩; replace BK652 := bb BK652 hb; replace HB := bs HB hb; (try clear hb); have hz18 := cs8_ BK652) | ((with_reducible refine gf 26 rfl ?_); refine gL 13 Tryz.func26 #[.agg #[.slice A0_0 l0_0.length c0_0, .slice A0_1 l0_1.length c0_1, .slice A0_2 l0_2.length c0_2, .int .i64 a0_3, .slice A0_4 l0_4.length c0_4, .slice A0_5 l0_5.length c0_5, .slice A0_6 l0_6.length c0_6, .int .i64 a0_7]] ?_; (with_reducible refine (laws_toMachine.calls k _ _ l0_0 _ _ l0_1 _ _ l0_2 a0_3 _ _ l0_4 _ _ l0_5 _ _ l0_6 a0_7 t654 t657 t660 t663 t664 t667 t670 t673 _ (kc HR0_0 HB) HC0_0.out (kc HR0_1 HB) HC0_1.out (kc HR0_2 HB) HC0_2.out (kc HR0_4 HB) HC0_4.out (kc HR0_5 HB) HC0_5.out (kc HR0_6 HB) HC0_6.out A7.out).mono ?_); rintro e w19 ⟨v655, v658, v661, v665, v668, v671, rfl, ho0, ho1, ho2, ho3, ho4, ho5, hb⟩; refine ⟨_, rfl, ?_⟩; have HO656 := Aside0.mk (Kd.R_lower ho0 (below_size (tb HB))); have HO659 := Aside0.mk (Kd.S_lower ho1 (below_size (tb HB))); have HO662 := Aside0.mk (Kd.S_lower ho2 (below_size (tb HB))); have HO666 := Aside0.mk (Kd.S_lower ho3 (below_size (tb HB))); have HO669 := Aside0.mk (Kd.R_lower ho4 (below_size (tb HB))); have HO672 := Aside0.mk (Kd.R_lower ho5 (below_size (tb HB))); replace BK652 := bb BK652 hb; replace HB := bs HB hb; (try clear hb); (try clear ho0); (try clear ho1); (try clear ho2); (try clear ho3); (try clear ho4); (try clear ho5); obtain ⟨Ao20, co20, eo20⟩ := Kd.R_slice HO656.out; subst eo20; obtain ⟨Ao21, co21, eo21⟩ := Kd.S_slice HO659.out; subst eo21; obtain ⟨Ao22, co22, eo22⟩ := Kd.S_slice HO662.out; subst eo22; obtain ⟨Ao23, co23, eo23⟩ := Kd.S_slice HO666.out; subst eo23; obtain ⟨Ao24, co24, eo24⟩ := Kd.R_slice HO669.out; subst eo24; obtain ⟨Ao25, co25, eo25⟩ := Kd.R_slice HO672.out; subst eo25) | ((with_reducible refine gf 29 rfl ?_); refine gL 14 Tryz.func29 #[.agg #[.slice Ao20 t654.length co20, .slice Ao21 t657.length co21, .slice Ao22 t660.length co22, .int .i64 t663, .slice Ao23 t664.length co23, .slice Ao24 t667.length co24, .slice Ao25 t670.length co25, .int .i64 t673]] ?_; (with_reducible refine (spec_Finished.calls k _ _ t654 _ _ t657 _ _ t660 t663 _ _ t664 _ _ t667 _ _ t670 t673 t674 _ ?side1 ?side2 ?side3 ?side4 ?side5 ?side6 ?side7 ?side8 ?side9 ?side10 ?side11 ?side12 A8.out).mono ?_); (case side1 => repeat (first | exact (Kd.R_reads' HO656.out).2.2 | (with_reducible refine Kd.C_alloc ?_ _) | (with_reducible refine Kd.C_drewN ?_ _) | (with_reducible refine Kd.C_drew ?_))); (case side2 => exact (Kd.R_reads' HO656.out).2.1); (case side3 => repeat (first | exact (Kd.S_reads' HO659.out).2.2 | (with_reducible refine Kd.C_alloc ?_ _) | (with_reducible refine Kd.C_drewN ?_ _) | (with_reducible refine Kd.C_drew ?_))); (case side4 => exact (Kd.S_reads' HO659.out).2.1); (case side5 => repeat (first | exact (Kd.S_reads' HO662.out).2.2 | (with_reducible refine Kd.C_alloc ?_ _) | (with_reducible refine Kd.C_drewN ?_ _) | (with_reducible refine Kd.C_drew ?_))); (case side6 => exact (Kd.S_reads' HO662.out).2.1); (case side7 => repeat (first | exact (Kd.S_reads' HO666.out).2.2 | (with_reducible refine Kd.C_alloc ?_ _) | (with_reducible refine Kd.C_drewN ?_ _) | (with_reducible refine Kd.C_drew ?_))); (case side8 => exact (Kd.S_reads' HO666.out).2.1); (case side9 => repeat (first | exact (Kd.R_reads' HO669.out).2.2 | (with_reducible refine Kd.C_alloc ?_ _) | (with_reducible refine Kd.C_drewN ?_ _) | (with_reducible refine Kd.C_drew ?_))); (case side10 => exact (Kd.R_reads' HO669.out).2.1); (case side11 => repeat (first | exact (Kd.R_reads' HO672.out).2.2 | (with_reducible refine Kd.C_alloc ?_ _) | (with_reducible refine Kd.C_drewN ?_ _) | (with_reducible refine Kd.C_drew ?_))); (case side12 => exact (Kd.R_reads' HO672.out).2.1); rintro e w26 ⟨rfl, hb⟩; refine ⟨_, rfl, ?_⟩; replace HO656 := rb HO656 hb; replace HO659 := Aside0.mk (Kd.S_below (by (with_reducible repeat (first | apply Kd.S_alloc | apply Kd.S_drewN | apply Kd.S_drew)); exact HO659.out) hb); replace HO662 := Aside0.mk (Kd.S_below (by (with_reducible repeat (first | apply Kd.S_alloc | apply Kd.S_drewN | apply Kd.S_drew)); exact HO662.out) hb); replace HO666 := Aside0.mk (Kd.S_below (by (with_reducible repeat (first | apply Kd.S_alloc | apply Kd.S_drewN | apply Kd.S_drew)); exact HO666.out) hb); replace HO669 := rb HO669 hb; replace HO672 := rb HO672 hb; replace BK652 := bb BK652 hb; replace HB := bs HB hb; (try clear hb); have hz27 := cs8_ BK652) | ((with_reducible refine gf 26 rfl ?_); refine gL 16 Tryz.func26 #[.agg #[.slice A0_0 l0_0.length c0_0, .slice A0_1 l0_1.length c0_1, .slice A0_2 l0_2.length c0_2, .int .i64 a0_3, .slice A0_4 l0_4.length c0_4, .slice A0_5 l0_5.length c0_5, .slice A0_6 l0_6.length c0_6, .int .i64 a0_7]] ?_; (with_reducible refine (laws_toMachine.calls k _ _ l0_0 _ _ l0_1 _ _ l0_2 a0_3 _ _ l0_4 _ _ l0_5 _ _ l0_6 a0_7 t675 t678 t681 t684 t685 t688 t691 t694 _ (kc HR0_0 HB) HC0_0.out (kc HR0_1 HB) HC0_1.out (kc HR0_2 HB) HC0_2.out (kc HR0_4 HB) HC0_4.out (kc HR0_5 HB) HC0_5.out (kc HR0_6 HB) HC0_6.out A9.out).mono ?_); rintro e w28 ⟨v676, v679, v682, v686, v689, v692, rfl, ho0, ho1, ho2, ho3, ho4, ho5, hb⟩; refine ⟨_, rfl, ?_⟩; have HO677 := Aside0.mk (Kd.R_lower (Kd.R_new' ho0 (Kd.R_lt (kr HO656.out))) (below_size (tb HB))); replace HO656 := Aside0.mk (Kd.R_elder' (kr HO656.out) (Kd.R_base ho0) hb); have HO680 := Aside0.mk (Kd.S_lower (Kd.S_new' (Kd.S_new' (Kd.S_new' ho1 (Kd.S_lt (by (with_reducible repeat (first | apply Kd.S_alloc | apply Kd.S_drewN | apply Kd.S_drew)); exact HO659.out))) (Kd.R_lt (kr HO669.out))) (Kd.R_lt (kr HO672.out))) (below_size (tb HB))); replace HO659 := Aside0.mk (Kd.S_mono (Kd.S_told (Kd.S_told (Kd.S_told (Kd.S_old (by (with_reducible repeat (first | apply Kd.S_alloc | apply Kd.S_drewN | apply Kd.S_drew)); exact HO659.out) hb) (Kd.S_base ho1)) (Kd.R_base ho4)) (Kd.R_base ho5)) (fun _ h_ => h_.1)); have HO683 := Aside0.mk (Kd.S_lower (Kd.S_new' ho2 (Kd.S_lt (by (with_reducible repeat (first | apply Kd.S_alloc | apply Kd.S_drewN | apply Kd.S_drew)); exact HO662.out))) (below_size (tb HB))); replace HO662 := Aside0.mk (Kd.S_elder' (by (with_reducible repeat (first | apply Kd.S_alloc | apply Kd.S_drewN | apply Kd.S_drew)); exact HO662.out) (Kd.S_base ho2) hb); have HO687 := Aside0.mk (Kd.S_lower (Kd.S_new' (Kd.S_new' (Kd.S_new' ho3 (Kd.S_lt (by (with_reducible repeat (first | apply Kd.S_alloc | apply Kd.S_drewN | apply Kd.S_drew)); exact HO666.out))) (Kd.R_lt (kr HO669.out))) (Kd.R_lt (kr HO672.out))) (below_size (tb HB))); replace HO666 := Aside0.mk (Kd.S_mono (Kd.S_told (Kd.S_told (Kd.S_told (Kd.S_old (by (with_reducible repeat (first | apply Kd.S_alloc | apply Kd.S_drewN | apply Kd.S_drew)); exact HO666.out) hb) (Kd.S_base ho3)) (Kd.R_base ho4)) (Kd.R_base ho5)) (fun _ h_ => h_.1)); have HO690 := Aside0.mk (Kd.R_lower (Kd.R_new' (Kd.R_new' ho4 (Kd.R_lt (kr HO669.out))) (Kd.R_lt (kr HO672.out))) (below_size (tb HB))); have HO693 := Aside0.mk (Kd.R_lower (Kd.R_new' (Kd.R_new' ho5 (Kd.R_lt (kr HO669.out))) (Kd.R_lt (kr HO672.out))) (below_size (tb HB))); replace HO669 := Aside0.mk (Kd.R_mono (Kd.R_told (Kd.R_told (Kd.R_old (kr HO669.out) hb) (Kd.R_base ho4)) (Kd.R_base ho5)) (fun _ h_ => h_.1)); replace HO672 := Aside0.mk (Kd.R_mono (Kd.R_told (Kd.R_told (Kd.R_old (kr HO672.out) hb) (Kd.R_base ho4)) (Kd.R_base ho5)) (fun _ h_ => h_.1)); replace BK652 := bb BK652 hb; replace HB := bs HB hb; (try clear hb); (try clear ho0); (try clear ho1); (try clear ho2); (try clear ho3); (try clear ho4); (try clear ho5)) | ((with_reducible refine gq 5 rfl ?_); refine bx (N := 5) (cs := #[.slice none 0 0, .slice none 0 0, .slice none 0 0, .int .i64 0, .slice none 0 0, .slice none 0 0, .slice none 0 0, .int .i64 0]) (t := 75) ?_; intro gb695 hg w29 hbox hb; replace HO656 := rb HO656 hb; replace HO659 := Aside0.mk (Kd.S_below (by (with_reducible repeat (first | apply Kd.S_alloc | apply Kd.S_drewN | apply Kd.S_drew)); exact HO659.out) hb); replace HO662 := Aside0.mk (Kd.S_below (by (with_reducible repeat (first | apply Kd.S_alloc | apply Kd.S_drewN | apply Kd.S_drew)); exact HO662.out) hb); replace HO666 := Aside0.mk (Kd.S_below (by (with_reducible repeat (first | apply Kd.S_alloc | apply Kd.S_drewN | apply Kd.S_drew)); exact HO666.out) hb); replace HO669 := rb HO669 hb; replace HO672 := rb HO672 hb; replace HO677 := rb HO677 hb; replace HO680 := Aside0.mk (Kd.S_below (by (with_reducible repeat (first | apply Kd.S_alloc | apply Kd.S_drewN | apply Kd.S_drew)); exact HO680.out) hb); replace HO683 := Aside0.mk (Kd.S_below (by (with_reducible repeat (first | apply Kd.S_alloc | apply Kd.S_drewN | apply Kd.S_drew)); exact HO683.out) hb); replace HO687 := Aside0.mk (Kd.S_below (by (with_reducible repeat (first | apply Kd.S_alloc | apply Kd.S_drewN | apply Kd.S_drew)); exact HO687.out) hb); replace HO690 := rb HO690 hb; replace HO693 := rb HO693 hb; have BK695 := Aside0.mk (hbox); have GE695 := Aside0.mk (ge_ hg HB); replace HB := bs HB hb; have NB652_695 := Aside0.mk (nl_ hg BK652); have NB695_652 := Aside0.mk (ng_ hg BK652); replace BK652 := bb BK652 hb; clear hb hbox hg; obtain ⟨Ao30, co30, eo30⟩ := Kd.R_slice HO677.out; subst eo30; have hnb31 := NB695_652.out; have hnc31 := NB652_695.out; have hz32 := cs8_ BK695; obtain ⟨Ao33, co33, eo33⟩ := Kd.S_slice HO680.out; subst eo33; obtain ⟨Ao34, co34, eo34⟩ := Kd.S_slice HO683.out; subst eo34; obtain ⟨Ao35, co35, eo35⟩ := Kd.S_slice HO687.out; subst eo35; obtain ⟨Ao36, co36, eo36⟩ := Kd.R_slice HO690.out; subst eo36; obtain ⟨Ao37, co37, eo37⟩ := Kd.R_slice HO693.out; subst eo37) | ((with_reducible refine gf 30 rfl ?_); refine gL 18 Tryz.func30 #[.agg #[.slice Ao30 t675.length co30, .slice Ao33 t678.length co33, .slice Ao34 t681.length co34, .int .i64 t684, .slice Ao35 t685.length co35, .slice Ao36 t688.length co36, .slice Ao37 t691.length co37, .int .i64 t694]] ?_; (with_reducible refine (impl_Finished.calls k _ _ t675 _ _ t678 _ _ t681 t684 _ _ t685 _ _ t688 _ _ t691 t694 t696 _ ?side1 ?side2 ?side3 ?side4 ?side5 ?side6 ?side7 ?side8 ?side9 ?side10 ?side11 ?side12 A10.out).mono ?_); (case side1 => refine (Kd.R_reads' (e := 39) (base := w.heap.size) (ok := fun k_ => (True ∧ some k_ ≠ (.slice Ao20 t654.length co20 : Value).ownBlock)) (n := t675.length) (c := co30) ?_).2.2; exact (kr ((Kd.R_mono (Kd.R_far (p := ⟨gb695, 7, none⟩) (Kd.R_far (p := ⟨gb695, 6, none⟩) (Kd.R_far (p := ⟨gb695, 5, none⟩) (Kd.R_far (p := ⟨gb695, 4, none⟩) (Kd.R_far (p := ⟨gb695, 3, none⟩) (Kd.R_far (p := ⟨gb695, 2, none⟩) (Kd.R_far (p := ⟨gb695, 1, none⟩) (Kd.R_far (p := ⟨gb695, 0, none⟩) (Kd.R_types HO677.out BK695.out (by decide)) (fun _ hk => hk.2) (.slice Ao30 t675.length co30)) (fun _ hk => hk.2) (.slice Ao33 t678.length co33)) (fun _ hk => hk.2) (.slice Ao34 t681.length co34)) (fun _ hk => hk.2) (.int .i64 t684)) (fun _ hk => hk.2) (.slice Ao35 t685.length co35)) (fun _ hk => hk.2) (.slice Ao36 t688.length co36)) (fun _ hk => hk.2) (.slice Ao37 t691.length co37)) (fun _ hk => hk.2) (.int .i64 t694)) (fun _ h_ => h_.1))))); (case side2 => exact (Kd.R_reads' HO677.out).2.1); (case side3 => refine (Kd.S_reads' (e := 52) (base := w.heap.size) (ok := fun k_ => ((((some k_ ≠ (.slice Ao36 t688.length co36 : Value).ownBlock ∧ some k_ ≠ (.slice Ao37 t691.length co37 : Value).ownBlock) ∧ some k_ ≠ (.slice Ao21 t657.length co21 : Value).ownBlock) ∧ some k_ ≠ (.slice Ao24 t667.length co24 : Value).ownBlock) ∧ some k_ ≠ (.slice Ao25 t670.length co25 : Value).ownBlock)) (n := t678.length) (c := co33) ?_).2.2; exact (by (with_reducible repeat (first | apply Kd.S_alloc | apply Kd.S_drewN | apply Kd.S_drew)); exact (Kd.S_mono (Kd.S_far (p := ⟨gb695, 7, none⟩) (Kd.S_far (p := ⟨gb695, 6, none⟩) (Kd.S_far (p := ⟨gb695, 5, none⟩) (Kd.S_far (p := ⟨gb695, 4, none⟩) (Kd.S_far (p := ⟨gb695, 3, none⟩) (Kd.S_far (p := ⟨gb695, 2, none⟩) (Kd.S_far (p := ⟨gb695, 1, none⟩) (Kd.S_far (p := ⟨gb695, 0, none⟩) (Kd.S_types HO680.out BK695.out (by decide)) (fun _ hk => hk.2) (.slice Ao30 t675.length co30)) (fun _ hk => hk.2) (.slice Ao33 t678.length co33)) (fun _ hk => hk.2) (.slice Ao34 t681.length co34)) (fun _ hk => hk.2) (.int .i64 t684)) (fun _ hk => hk.2) (.slice Ao35 t685.length co35)) (fun _ hk => hk.2) (.slice Ao36 t688.length co36)) (fun _ hk => hk.2) (.slice Ao37 t691.length co37)) (fun _ hk => hk.2) (.int .i64 t694)) (fun _ h_ => h_.1)))); (case side4 => exact (Kd.S_reads' HO680.out).2.1); (case side5 => refine (Kd.S_reads' (e := 82) (base := w.heap.size) (ok := fun k_ => (True ∧ some k_ ≠ (.slice Ao22 t660.length co22 : Value).ownBlock)) (n := t681.length) (c := co34) ?_).2.2; exact (by (with_reducible repeat (first | apply Kd.S_alloc | apply Kd.S_drewN | apply Kd.S_drew)); exact (Kd.S_mono (Kd.S_far (p := ⟨gb695, 7, none⟩) (Kd.S_far (p := ⟨gb695, 6, none⟩) (Kd.S_far (p := ⟨gb695, 5, none⟩) (Kd.S_far (p := ⟨gb695, 4, none⟩) (Kd.S_far (p := ⟨gb695, 3, none⟩) (Kd.S_far (p := ⟨gb695, 2, none⟩) (Kd.S_far (p := ⟨gb695, 1, none⟩) (Kd.S_far (p := ⟨gb695, 0, none⟩) (Kd.S_types HO683.out BK695.out (by decide)) (fun _ hk => hk.2) (.slice Ao30 t675.length co30)) (fun _ hk => hk.2) (.slice Ao33 t678.length co33)) (fun _ hk => hk.2) (.slice Ao34 t681.length co34)) (fun _ hk => hk.2) (.int .i64 t684)) (fun _ hk => hk.2) (.slice Ao35 t685.length co35)) (fun _ hk => hk.2) (.slice Ao36 t688.length co36)) (fun _ hk => hk.2) (.slice Ao37 t691.length co37)) (fun _ hk => hk.2) (.int .i64 t694)) (fun _ h_ => h_.1)))); (case side6 => exact (Kd.S_reads' HO683.out).2.1); (case side7 => refine (Kd.S_reads' (e := 134) (base := w.heap.size) (ok := fun k_ => ((((some k_ ≠ (.slice Ao36 t688.length co36 : Value).ownBlock ∧ some k_ ≠ (.slice Ao37 t691.length co37 : Value).ownBlock) ∧ some k_ ≠ (.slice Ao23 t664.length co23 : Value).ownBlock) ∧ some k_ ≠ (.slice Ao24 t667.length co24 : Value).ownBlock) ∧ some k_ ≠ (.slice Ao25 t670.length co25 : Value).ownBlock)) (n := t685.length) (c := co35) ?_).2.2; exact (by (with_reducible repeat (first | apply Kd.S_alloc | apply Kd.S_drewN | apply Kd.S_drew)); exact (Kd.S_mono (Kd.S_far (p := ⟨gb695, 7, none⟩) (Kd.S_far (p := ⟨gb695, 6, none⟩) (Kd.S_far (p := ⟨gb695, 5, none⟩) (Kd.S_far (p := ⟨gb695, 4, none⟩) (Kd.S_far (p := ⟨gb695, 3, none⟩) (Kd.S_far (p := ⟨gb695, 2, none⟩) (Kd.S_far (p := ⟨gb695, 1, none⟩) (Kd.S_far (p := ⟨gb695, 0, none⟩) (Kd.S_types HO687.out BK695.out (by decide)) (fun _ hk => hk.2) (.slice Ao30 t675.length co30)) (fun _ hk => hk.2) (.slice Ao33 t678.length co33)) (fun _ hk => hk.2) (.slice Ao34 t681.length co34)) (fun _ hk => hk.2) (.int .i64 t684)) (fun _ hk => hk.2) (.slice Ao35 t685.length co35)) (fun _ hk => hk.2) (.slice Ao36 t688.length co36)) (fun _ hk => hk.2) (.slice Ao37 t691.length co37)) (fun _ hk => hk.2) (.int .i64 t694)) (fun _ h_ => h_.1)))); (case side8 => exact (Kd.S_reads' HO687.out).2.1); (case side9 => refine (Kd.R_reads' (e := 3) (base := w.heap.size) (ok := fun k_ => ((some k_ ≠ (.slice Ao37 t691.length co37 : Value).ownBlock ∧ some k_ ≠ (.slice Ao24 t667.length co24 : Value).ownBlock) ∧ some k_ ≠ (.slice Ao25 t670.length co25 : Value).ownBlock)) (n := t688.length) (c := co36) ?_).2.2; exact (kr ((Kd.R_mono (Kd.R_far (p := ⟨gb695, 7, none⟩) (Kd.R_far (p := ⟨gb695, 6, none⟩) (Kd.R_far (p := ⟨gb695, 5, none⟩) (Kd.R_far (p := ⟨gb695, 4, none⟩) (Kd.R_far (p := ⟨gb695, 3, none⟩) (Kd.R_far (p := ⟨gb695, 2, none⟩) (Kd.R_far (p := ⟨gb695, 1, none⟩) (Kd.R_far (p := ⟨gb695, 0, none⟩) (Kd.R_types HO690.out BK695.out (by decide)) (fun _ hk => hk.2) (.slice Ao30 t675.length co30)) (fun _ hk => hk.2) (.slice Ao33 t678.length co33)) (fun _ hk => hk.2) (.slice Ao34 t681.length co34)) (fun _ hk => hk.2) (.int .i64 t684)) (fun _ hk => hk.2) (.slice Ao35 t685.length co35)) (fun _ hk => hk.2) (.slice Ao36 t688.length co36)) (fun _ hk => hk.2) (.slice Ao37 t691.length co37)) (fun _ hk => hk.2) (.int .i64 t694)) (fun _ h_ => h_.1))))); (case side10 => exact (Kd.R_reads' HO690.out).2.1); (case side11 => refine (Kd.R_reads' (e := 3) (base := w.heap.size) (ok := fun k_ => ((some k_ ≠ (.slice Ao36 t688.length co36 : Value).ownBlock ∧ some k_ ≠ (.slice Ao24 t667.length co24 : Value).ownBlock) ∧ some k_ ≠ (.slice Ao25 t670.length co25 : Value).ownBlock)) (n := t691.length) (c := co37) ?_).2.2; exact (kr ((Kd.R_mono (Kd.R_far (p := ⟨gb695, 7, none⟩) (Kd.R_far (p := ⟨gb695, 6, none⟩) (Kd.R_far (p := ⟨gb695, 5, none⟩) (Kd.R_far (p := ⟨gb695, 4, none⟩) (Kd.R_far (p := ⟨gb695, 3, none⟩) (Kd.R_far (p := ⟨gb695, 2, none⟩) (Kd.R_far (p := ⟨gb695, 1, none⟩) (Kd.R_far (p := ⟨gb695, 0, none⟩) (Kd.R_types HO693.out BK695.out (by decide)) (fun _ hk => hk.2) (.slice Ao30 t675.length co30)) (fun _ hk => hk.2) (.slice Ao33 t678.length co33)) (fun _ hk => hk.2) (.slice Ao34 t681.length co34)) (fun _ hk => hk.2) (.int .i64 t684)) (fun _ hk => hk.2) (.slice Ao35 t685.length co35)) (fun _ hk => hk.2) (.slice Ao36 t688.length co36)) (fun _ hk => hk.2) (.slice Ao37 t691.length co37)) (fun _ hk => hk.2) (.int .i64 t694)) (fun _ h_ => h_.1))))); (case side12 => exact (Kd.R_reads' HO693.out).2.1); rintro e w38 ⟨rfl, hb⟩; refine ⟨_, rfl, ?_⟩; replace HO656 := Aside0.mk (Kd.R_below (kr ((Kd.R_mono (Kd.R_far (p := ⟨gb695, 7, none⟩) (Kd.R_far (p := ⟨gb695, 6, none⟩) (Kd.R_far (p := ⟨gb695, 5, none⟩) (Kd.R_far (p := ⟨gb695, 4, none⟩) (Kd.R_far (p := ⟨gb695, 3, none⟩) (Kd.R_far (p := ⟨gb695, 2, none⟩) (Kd.R_far (p := ⟨gb695, 1, none⟩) (Kd.R_far (p := ⟨gb695, 0, none⟩) (Kd.R_types HO656.out BK695.out (by decide)) (fun _ hk => hk.2) (.slice Ao30 t675.length co30)) (fun _ hk => hk.2) (.slice Ao33 t678.length co33)) (fun _ hk => hk.2) (.slice Ao34 t681.length co34)) (fun _ hk => hk.2) (.int .i64 t684)) (fun _ hk => hk.2) (.slice Ao35 t685.length co35)) (fun _ hk => hk.2) (.slice Ao36 t688.length co36)) (fun _ hk => hk.2) (.slice Ao37 t691.length co37)) (fun _ hk => hk.2) (.int .i64 t694)) (fun _ h_ => h_.1)))) hb); replace HO659 := Aside0.mk (Kd.S_below (by (with_reducible repeat (first | apply Kd.S_alloc | apply Kd.S_drewN | apply Kd.S_drew)); exact (Kd.S_mono (Kd.S_far (p := ⟨gb695, 7, none⟩) (Kd.S_far (p := ⟨gb695, 6, none⟩) (Kd.S_far (p := ⟨gb695, 5, none⟩) (Kd.S_far (p := ⟨gb695, 4, none⟩) (Kd.S_far (p := ⟨gb695, 3, none⟩) (Kd.S_far (p := ⟨gb695, 2, none⟩) (Kd.S_far (p := ⟨gb695, 1, none⟩) (Kd.S_far (p := ⟨gb695, 0, none⟩) (Kd.S_types HO659.out BK695.out (by decide)) (fun _ hk => hk.2) (.slice Ao30 t675.length co30)) (fun _ hk => hk.2) (.slice Ao33 t678.length co33)) (fun _ hk => hk.2) (.slice Ao34 t681.length co34)) (fun _ hk => hk.2) (.int .i64 t684)) (fun _ hk => hk.2) (.slice Ao35 t685.length co35)) (fun _ hk => hk.2) (.slice Ao36 t688.length co36)) (fun _ hk => hk.2) (.slice Ao37 t691.length co37)) (fun _ hk => hk.2) (.int .i64 t694)) (fun _ h_ => h_.1))) hb); replace HO662 := Aside0.mk (Kd.S_below (by (with_reducible repeat (first | apply Kd.S_alloc | apply Kd.S_drewN | apply Kd.S_drew)); exact (Kd.S_mono (Kd.S_far (p := ⟨gb695, 7, none⟩) (Kd.S_far (p := ⟨gb695, 6, none⟩) (Kd.S_far (p := ⟨gb695, 5, none⟩) (Kd.S_far (p := ⟨gb695, 4, none⟩) (Kd.S_far (p := ⟨gb695, 3, none⟩) (Kd.S_far (p := ⟨gb695, 2, none⟩) (Kd.S_far (p := ⟨gb695, 1, none⟩) (Kd.S_far (p := ⟨gb695, 0, none⟩) (Kd.S_types HO662.out BK695.out (by decide)) (fun _ hk => hk.2) (.slice Ao30 t675.length co30)) (fun _ hk => hk.2) (.slice Ao33 t678.length co33)) (fun _ hk => hk.2) (.slice Ao34 t681.length co34)) (fun _ hk => hk.2) (.int .i64 t684)) (fun _ hk => hk.2) (.slice Ao35 t685.length co35)) (fun _ hk => hk.2) (.slice Ao36 t688.length co36)) (fun _ hk => hk.2) (.slice Ao37 t691.length co37)) (fun _ hk => hk.2) (.int .i64 t694)) (fun _ h_ => h_.1))) hb); replace HO666 := Aside0.mk (Kd.S_below (by (with_reducible repeat (first | apply Kd.S_alloc | apply Kd.S_drewN | apply Kd.S_drew)); exact (Kd.S_mono (Kd.S_far (p := ⟨gb695, 7, none⟩) (Kd.S_far (p := ⟨gb695, 6, none⟩) (Kd.S_far (p := ⟨gb695, 5, none⟩) (Kd.S_far (p := ⟨gb695, 4, none⟩) (Kd.S_far (p := ⟨gb695, 3, none⟩) (Kd.S_far (p := ⟨gb695, 2, none⟩) (Kd.S_far (p := ⟨gb695, 1, none⟩) (Kd.S_far (p := ⟨gb695, 0, none⟩) (Kd.S_types HO666.out BK695.out (by decide)) (fun _ hk => hk.2) (.slice Ao30 t675.length co30)) (fun _ hk => hk.2) (.slice Ao33 t678.length co33)) (fun _ hk => hk.2) (.slice Ao34 t681.length co34)) (fun _ hk => hk.2) (.int .i64 t684)) (fun _ hk => hk.2) (.slice Ao35 t685.length co35)) (fun _ hk => hk.2) (.slice Ao36 t688.length co36)) (fun _ hk => hk.2) (.slice Ao37 t691.length co37)) (fun _ hk => hk.2) (.int .i64 t694)) (fun _ h_ => h_.1))) hb); replace HO669 := Aside0.mk (Kd.R_below (kr ((Kd.R_mono (Kd.R_far (p := ⟨gb695, 7, none⟩) (Kd.R_far (p := ⟨gb695, 6, none⟩) (Kd.R_far (p := ⟨gb695, 5, none⟩) (Kd.R_far (p := ⟨gb695, 4, none⟩) (Kd.R_far (p := ⟨gb695, 3, none⟩) (Kd.R_far (p := ⟨gb695, 2, none⟩) (Kd.R_far (p := ⟨gb695, 1, none⟩) (Kd.R_far (p := ⟨gb695, 0, none⟩) (Kd.R_types HO669.out BK695.out (by decide)) (fun _ hk => hk.2) (.slice Ao30 t675.length co30)) (fun _ hk => hk.2) (.slice Ao33 t678.length co33)) (fun _ hk => hk.2) (.slice Ao34 t681.length co34)) (fun _ hk => hk.2) (.int .i64 t684)) (fun _ hk => hk.2) (.slice Ao35 t685.length co35)) (fun _ hk => hk.2) (.slice Ao36 t688.length co36)) (fun _ hk => hk.2) (.slice Ao37 t691.length co37)) (fun _ hk => hk.2) (.int .i64 t694)) (fun _ h_ => h_.1)))) hb); replace HO672 := Aside0.mk (Kd.R_below (kr ((Kd.R_mono (Kd.R_far (p := ⟨gb695, 7, none⟩) (Kd.R_far (p := ⟨gb695, 6, none⟩) (Kd.R_far (p := ⟨gb695, 5, none⟩) (Kd.R_far (p := ⟨gb695, 4, none⟩) (Kd.R_far (p := ⟨gb695, 3, none⟩) (Kd.R_far (p := ⟨gb695, 2, none⟩) (Kd.R_far (p := ⟨gb695, 1, none⟩) (Kd.R_far (p := ⟨gb695, 0, none⟩) (Kd.R_types HO672.out BK695.out (by decide)) (fun _ hk => hk.2) (.slice Ao30 t675.length co30)) (fun _ hk => hk.2) (.slice Ao33 t678.length co33)) (fun _ hk => hk.2) (.slice Ao34 t681.length co34)) (fun _ hk => hk.2) (.int .i64 t684)) (fun _ hk => hk.2) (.slice Ao35 t685.length co35)) (fun _ hk => hk.2) (.slice Ao36 t688.length co36)) (fun _ hk => hk.2) (.slice Ao37 t691.length co37)) (fun _ hk => hk.2) (.int .i64 t694)) (fun _ h_ => h_.1)))) hb); replace HO677 := Aside0.mk (Kd.R_below (kr ((Kd.R_mono (Kd.R_far (p := ⟨gb695, 7, none⟩) (Kd.R_far (p := ⟨gb695, 6, none⟩) (Kd.R_far (p := ⟨gb695, 5, none⟩) (Kd.R_far (p := ⟨gb695, 4, none⟩) (Kd.R_far (p := ⟨gb695, 3, none⟩) (Kd.R_far (p := ⟨gb695, 2, none⟩) (Kd.R_far (p := ⟨gb695, 1, none⟩) (Kd.R_far (p := ⟨gb695, 0, none⟩) (Kd.R_types HO677.out BK695.out (by decide)) (fun _ hk => hk.2) (.slice Ao30 t675.length co30)) (fun _ hk => hk.2) (.slice Ao33 t678.length co33)) (fun _ hk => hk.2) (.slice Ao34 t681.length co34)) (fun _ hk => hk.2) (.int .i64 t684)) (fun _ hk => hk.2) (.slice Ao35 t685.length co35)) (fun _ hk => hk.2) (.slice Ao36 t688.length co36)) (fun _ hk => hk.2) (.slice Ao37 t691.length co37)) (fun _ hk => hk.2) (.int .i64 t694)) (fun _ h_ => h_.1)))) hb); replace HO680 := Aside0.mk (Kd.S_below (by (with_reducible repeat (first | apply Kd.S_alloc | apply Kd.S_drewN | apply Kd.S_drew)); exact (Kd.S_mono (Kd.S_far (p := ⟨gb695, 7, none⟩) (Kd.S_far (p := ⟨gb695, 6, none⟩) (Kd.S_far (p := ⟨gb695, 5, none⟩) (Kd.S_far (p := ⟨gb695, 4, none⟩) (Kd.S_far (p := ⟨gb695, 3, none⟩) (Kd.S_far (p := ⟨gb695, 2, none⟩) (Kd.S_far (p := ⟨gb695, 1, none⟩) (Kd.S_far (p := ⟨gb695, 0, none⟩) (Kd.S_types HO680.out BK695.out (by decide)) (fun _ hk => hk.2) (.slice Ao30 t675.length co30)) (fun _ hk => hk.2) (.slice Ao33 t678.length co33)) (fun _ hk => hk.2) (.slice Ao34 t681.length co34)) (fun _ hk => hk.2) (.int .i64 t684)) (fun _ hk => hk.2) (.slice Ao35 t685.length co35)) (fun _ hk => hk.2) (.slice Ao36 t688.length co36)) (fun _ hk => hk.2) (.slice Ao37 t691.length co37)) (fun _ hk => hk.2) (.int .i64 t694)) (fun _ h_ => h_.1))) hb); replace HO683 := Aside0.mk (Kd.S_below (by (with_reducible repeat (first | apply Kd.S_alloc | apply Kd.S_drewN | apply Kd.S_drew)); exact (Kd.S_mono (Kd.S_far (p := ⟨gb695, 7, none⟩) (Kd.S_far (p := ⟨gb695, 6, none⟩) (Kd.S_far (p := ⟨gb695, 5, none⟩) (Kd.S_far (p := ⟨gb695, 4, none⟩) (Kd.S_far (p := ⟨gb695, 3, none⟩) (Kd.S_far (p := ⟨gb695, 2, none⟩) (Kd.S_far (p := ⟨gb695, 1, none⟩) (Kd.S_far (p := ⟨gb695, 0, none⟩) (Kd.S_types HO683.out BK695.out (by decide)) (fun _ hk => hk.2) (.slice Ao30 t675.length co30)) (fun _ hk => hk.2) (.slice Ao33 t678.length co33)) (fun _ hk => hk.2) (.slice Ao34 t681.length co34)) (fun _ hk => hk.2) (.int .i64 t684)) (fun _ hk => hk.2) (.slice Ao35 t685.length co35)) (fun _ hk => hk.2) (.slice Ao36 t688.length co36)) (fun _ hk => hk.2) (.slice Ao37 t691.length co37)) (fun _ hk => hk.2) (.int .i64 t694)) (fun _ h_ => h_.1))) hb); replace HO687 := Aside0.mk (Kd.S_below (by (with_reducible repeat (first | apply Kd.S_alloc | apply Kd.S_drewN | apply Kd.S_drew)); exact (Kd.S_mono (Kd.S_far (p := ⟨gb695, 7, none⟩) (Kd.S_far (p := ⟨gb695, 6, none⟩) (Kd.S_far (p := ⟨gb695, 5, none⟩) (Kd.S_far (p := ⟨gb695, 4, none⟩) (Kd.S_far (p := ⟨gb695, 3, none⟩) (Kd.S_far (p := ⟨gb695, 2, none⟩) (Kd.S_far (p := ⟨gb695, 1, none⟩) (Kd.S_far (p := ⟨gb695, 0, none⟩) (Kd.S_types HO687.out BK695.out (by decide)) (fun _ hk => hk.2) (.slice Ao30 t675.length co30)) (fun _ hk => hk.2) (.slice Ao33 t678.length co33)) (fun _ hk => hk.2) (.slice Ao34 t681.length co34)) (fun _ hk => hk.2) (.int .i64 t684)) (fun _ hk => hk.2) (.slice Ao35 t685.length co35)) (fun _ hk => hk.2) (.slice Ao36 t688.length co36)) (fun _ hk => hk.2) (.slice Ao37 t691.length co37)) (fun _ hk => hk.2) (.int .i64 t694)) (fun _ h_ => h_.1))) hb); replace HO690 := Aside0.mk (Kd.R_below (kr ((Kd.R_mono (Kd.R_far (p := ⟨gb695, 7, none⟩) (Kd.R_far (p := ⟨gb695, 6, none⟩) (Kd.R_far (p := ⟨gb695, 5, none⟩) (Kd.R_far (p := ⟨gb695, 4, none⟩) (Kd.R_far (p := ⟨gb695, 3, none⟩) (Kd.R_far (p := ⟨gb695, 2, none⟩) (Kd.R_far (p := ⟨gb695, 1, none⟩) (Kd.R_far (p := ⟨gb695, 0, none⟩) (Kd.R_types HO690.out BK695.out (by decide)) (fun _ hk => hk.2) (.slice Ao30 t675.length co30)) (fun _ hk => hk.2) (.slice Ao33 t678.length co33)) (fun _ hk => hk.2) (.slice Ao34 t681.length co34)) (fun _ hk => hk.2) (.int .i64 t684)) (fun _ hk => hk.2) (.slice Ao35 t685.length co35)) (fun _ hk => hk.2) (.slice Ao36 t688.length co36)) (fun _ hk => hk.2) (.slice Ao37 t691.length co37)) (fun _ hk => hk.2) (.int .i64 t694)) (fun _ h_ => h_.1)))) hb); replace HO693 := Aside0.mk (Kd.R_below (kr ((Kd.R_mono (Kd.R_far (p := ⟨gb695, 7, none⟩) (Kd.R_far (p := ⟨gb695, 6, none⟩) (Kd.R_far (p := ⟨gb695, 5, none⟩) (Kd.R_far (p := ⟨gb695, 4, none⟩) (Kd.R_far (p := ⟨gb695, 3, none⟩) (Kd.R_far (p := ⟨gb695, 2, none⟩) (Kd.R_far (p := ⟨gb695, 1, none⟩) (Kd.R_far (p := ⟨gb695, 0, none⟩) (Kd.R_types HO693.out BK695.out (by decide)) (fun _ hk => hk.2) (.slice Ao30 t675.length co30)) (fun _ hk => hk.2) (.slice Ao33 t678.length co33)) (fun _ hk => hk.2) (.slice Ao34 t681.length co34)) (fun _ hk => hk.2) (.int .i64 t684)) (fun _ hk => hk.2) (.slice Ao35 t685.length co35)) (fun _ hk => hk.2) (.slice Ao36 t688.length co36)) (fun _ hk => hk.2) (.slice Ao37 t691.length co37)) (fun _ hk => hk.2) (.int .i64 t694)) (fun _ h_ => h_.1)))) hb); replace BK652 := bbf BK652 hb; replace BK695 := bbp8 BK695 hb; replace HB := bs HB hb; (try clear hb); (try clear hk)))
 replace HO656 := rd_ HO656
 replace HO659 := Aside0.mk (Kd.S_drew HO659.out)
 replace HO662 := Aside0.mk (Kd.S_drew HO662.out)
 replace HO666 := Aside0.mk (Kd.S_drew HO666.out)
 replace HO669 := rd_ HO669
 replace HO672 := rd_ HO672
 replace HO677 := rd_ HO677
 replace HO680 := Aside0.mk (Kd.S_drew HO680.out)
 replace HO683 := Aside0.mk (Kd.S_drew HO683.out)
 replace HO687 := Aside0.mk (Kd.S_drew HO687.out)
 replace HO690 := rd_ HO690
 replace HO693 := rd_ HO693
 replace BK652 := bd BK652
 replace BK695 := bd BK695
 replace HB := Aside0.mk (below_drew1 HB.out)
 refine start_ (n := 5) (S := fun w' => cS8 gb695 (.slice Ao30 t675.length co30) (.slice Ao33 t678.length co33) (.slice Ao34 t681.length co34) (.int .i64 t684) (.slice Ao35 t685.length co35) (.slice Ao36 t688.length co36) (.slice Ao37 t691.length co37) (.int .i64 t694) w' ∧ cS8 gb652 (.slice A0_0 l0_0.length c0_0) (.slice A0_1 l0_1.length c0_1) (.slice A0_2 l0_2.length c0_2) (.int .i64 a0_3) (.slice A0_4 l0_4.length c0_4) (.slice A0_5 l0_5.length c0_5) (.slice A0_6 l0_6.length c0_6) (.int .i64 a0_7) w') (ds := []) #[false, false, false, false, false] (by kernel_rfl) rfl rfl ⟨ds8_ BK695, ds8_ BK652⟩ (fun hHeld => ?_)
 generalize w38.drew = w39 at HO656 HO659 HO662 HO666 HO669 HO672 HO677 HO680 HO683 HO687 HO690 HO693 BK652 BK695 HB hHeld ⊢
 refine ta 0 22 ?_; refine ta 1 23 ?_
 refine one_ (i := 2) (N := some 24) #[true, true, true, false, false] rfl rfl (by kernel_rfl) (by decide) (fun K hK => ?_)
 refine gS Tryz.func26 #[.agg #[.slice A0_0 l0_0.length c0_0, .slice A0_1 l0_1.length c0_1, .slice A0_2 l0_2.length c0_2, .int .i64 a0_3, .slice A0_4 l0_4.length c0_4, .slice A0_5 l0_5.length c0_5, .slice A0_6 l0_6.length c0_6, .int .i64 a0_7]] ?_
 with_reducible refine (laws_toMachine.calls k _ _ l0_0 _ _ l0_1 _ _ l0_2 a0_3 _ _ l0_4 _ _ l0_5 _ _ l0_6 a0_7 t697 t700 t703 t706 t707 t710 t713 t716 _ ?side1 ?side2 ?side3 ?side4 ?side5 ?side6 ?side7 ?side8 ?side9 ?side10 ?side11 ?side12 A12.out).mono ?_
 (case side1 => exact kc HR0_0 HB)
 (case side2 => exact HC0_0.out)
 (case side3 => exact kc HR0_1 HB)
 (case side4 => exact HC0_1.out)
 (case side5 => exact kc HR0_2 HB)
 (case side6 => exact HC0_2.out)
 (case side7 => exact kc HR0_4 HB)
 (case side8 => exact HC0_4.out)
 (case side9 => exact kc HR0_5 HB)
 (case side10 => exact HC0_5.out)
 (case side11 => exact kc HR0_6 HB)
 (case side12 => exact HC0_6.out)
 rintro e w40 ⟨v698, v701, v704, v708, v711, v714, rfl, ho0, ho1, ho2, ho3, ho4, ho5, hb⟩
 refine ⟨_, rfl, ?_⟩
 have HO699 := Aside0.mk (Kd.R_lower (Kd.R_new' (Kd.R_new' ho0 (Kd.R_lt (kr HO656.out))) (Kd.R_lt (kr HO677.out))) (below_size (tb HB)))
 replace HO656 := Aside0.mk (Kd.R_elder' (kr HO656.out) (Kd.R_base ho0) hb)
 replace HO677 := Aside0.mk (Kd.R_elder' (kr HO677.out) (Kd.R_base ho0) hb)
 have HO702 := Aside0.mk (Kd.S_lower (Kd.S_new' (Kd.S_new' (Kd.S_new' (Kd.S_new' (Kd.S_new' (Kd.S_new' ho1 (Kd.S_lt (by (with_reducible repeat (first | apply Kd.S_alloc | apply Kd.S_drewN | apply Kd.S_drew)); exact HO659.out))) (Kd.R_lt (kr HO669.out))) (Kd.R_lt (kr HO672.out))) (Kd.S_lt (by (with_reducible repeat (first | apply Kd.S_alloc | apply Kd.S_drewN | apply Kd.S_drew)); exact HO680.out))) (Kd.R_lt (kr HO690.out))) (Kd.R_lt (kr HO693.out))) (below_size (tb HB)))
 replace HO659 := Aside0.mk (Kd.S_mono (Kd.S_told (Kd.S_told (Kd.S_told (Kd.S_old (by (with_reducible repeat (first | apply Kd.S_alloc | apply Kd.S_drewN | apply Kd.S_drew)); exact HO659.out) hb) (Kd.S_base ho1)) (Kd.R_base ho4)) (Kd.R_base ho5)) (fun _ h_ => h_.1))
 replace HO680 := Aside0.mk (Kd.S_mono (Kd.S_told (Kd.S_told (Kd.S_told (Kd.S_old (by (with_reducible repeat (first | apply Kd.S_alloc | apply Kd.S_drewN | apply Kd.S_drew)); exact HO680.out) hb) (Kd.S_base ho1)) (Kd.R_base ho4)) (Kd.R_base ho5)) (fun _ h_ => h_.1))
 have HO705 := Aside0.mk (Kd.S_lower (Kd.S_new' (Kd.S_new' ho2 (Kd.S_lt (by (with_reducible repeat (first | apply Kd.S_alloc | apply Kd.S_drewN | apply Kd.S_drew)); exact HO662.out))) (Kd.S_lt (by (with_reducible repeat (first | apply Kd.S_alloc | apply Kd.S_drewN | apply Kd.S_drew)); exact HO683.out))) (below_size (tb HB)))
 replace HO662 := Aside0.mk (Kd.S_elder' (by (with_reducible repeat (first | apply Kd.S_alloc | apply Kd.S_drewN | apply Kd.S_drew)); exact HO662.out) (Kd.S_base ho2) hb)
 replace HO683 := Aside0.mk (Kd.S_elder' (by (with_reducible repeat (first | apply Kd.S_alloc | apply Kd.S_drewN | apply Kd.S_drew)); exact HO683.out) (Kd.S_base ho2) hb)
 have HO709 := Aside0.mk (Kd.S_lower (Kd.S_new' (Kd.S_new' (Kd.S_new' (Kd.S_new' (Kd.S_new' (Kd.S_new' ho3 (Kd.S_lt (by (with_reducible repeat (first | apply Kd.S_alloc | apply Kd.S_drewN | apply Kd.S_drew)); exact HO666.out))) (Kd.R_lt (kr HO669.out))) (Kd.R_lt (kr HO672.out))) (Kd.S_lt (by (with_reducible repeat (first | apply Kd.S_alloc | apply Kd.S_drewN | apply Kd.S_drew)); exact HO687.out))) (Kd.R_lt (kr HO690.out))) (Kd.R_lt (kr HO693.out))) (below_size (tb HB)))
 replace HO666 := Aside0.mk (Kd.S_mono (Kd.S_told (Kd.S_told (Kd.S_told (Kd.S_old (by (with_reducible repeat (first | apply Kd.S_alloc | apply Kd.S_drewN | apply Kd.S_drew)); exact HO666.out) hb) (Kd.S_base ho3)) (Kd.R_base ho4)) (Kd.R_base ho5)) (fun _ h_ => h_.1))
 replace HO687 := Aside0.mk (Kd.S_mono (Kd.S_told (Kd.S_told (Kd.S_told (Kd.S_old (by (with_reducible repeat (first | apply Kd.S_alloc | apply Kd.S_drewN | apply Kd.S_drew)); exact HO687.out) hb) (Kd.S_base ho3)) (Kd.R_base ho4)) (Kd.R_base ho5)) (fun _ h_ => h_.1))
 have HO712 := Aside0.mk (Kd.R_lower (Kd.R_new' (Kd.R_new' (Kd.R_new' (Kd.R_new' ho4 (Kd.R_lt (kr HO669.out))) (Kd.R_lt (kr HO672.out))) (Kd.R_lt (kr HO690.out))) (Kd.R_lt (kr HO693.out))) (below_size (tb HB)))
 have HO715 := Aside0.mk (Kd.R_lower (Kd.R_new' (Kd.R_new' (Kd.R_new' (Kd.R_new' ho5 (Kd.R_lt (kr HO669.out))) (Kd.R_lt (kr HO672.out))) (Kd.R_lt (kr HO690.out))) (Kd.R_lt (kr HO693.out))) (below_size (tb HB)))
 replace HO669 := Aside0.mk (Kd.R_mono (Kd.R_told (Kd.R_told (Kd.R_old (kr HO669.out) hb) (Kd.R_base ho4)) (Kd.R_base ho5)) (fun _ h_ => h_.1))
 replace HO672 := Aside0.mk (Kd.R_mono (Kd.R_told (Kd.R_told (Kd.R_old (kr HO672.out) hb) (Kd.R_base ho4)) (Kd.R_base ho5)) (fun _ h_ => h_.1))
 replace HO690 := Aside0.mk (Kd.R_mono (Kd.R_told (Kd.R_told (Kd.R_old (kr HO690.out) hb) (Kd.R_base ho4)) (Kd.R_base ho5)) (fun _ h_ => h_.1))
 replace HO693 := Aside0.mk (Kd.R_mono (Kd.R_told (Kd.R_told (Kd.R_old (kr HO693.out) hb) (Kd.R_base ho4)) (Kd.R_base ho5)) (fun _ h_ => h_.1))
 replace BK652 := bb BK652 hb
 replace BK695 := bb BK695 hb
 replace HB := bs HB hb
 (try clear hb)
 (try clear hb2)
 (try clear hk)
 (try clear hi)
 (try clear ho0)
 (try clear ho1)
 (try clear ho2)
 (try clear ho3)
 (try clear ho4)
 (try clear ho5)
 obtain ⟨Ao41, co41, eo41⟩ := Kd.R_slice HO699.out
 (first | subst eo41 | (injection eo41 with f1_ f2_ f3_; have f4_ := f1_.symm; have f5_ := f3_.symm; clear f1_ f2_ f3_; subst f4_; subst f5_))
 obtain ⟨Ao42, co42, eo42⟩ := Kd.S_slice HO702.out
 (first | subst eo42 | (injection eo42 with f1_ f2_ f3_; have f4_ := f1_.symm; have f5_ := f3_.symm; clear f1_ f2_ f3_; subst f4_; subst f5_))
 obtain ⟨Ao43, co43, eo43⟩ := Kd.S_slice HO705.out
 (first | subst eo43 | (injection eo43 with f1_ f2_ f3_; have f4_ := f1_.symm; have f5_ := f3_.symm; clear f1_ f2_ f3_; subst f4_; subst f5_))
 obtain ⟨Ao44, co44, eo44⟩ := Kd.S_slice HO709.out
 (first | subst eo44 | (injection eo44 with f1_ f2_ f3_; have f4_ := f1_.symm; have f5_ := f3_.symm; clear f1_ f2_ f3_; subst f4_; subst f5_))
 obtain ⟨Ao45, co45, eo45⟩ := Kd.R_slice HO712.out
 (first | subst eo45 | (injection eo45 with f1_ f2_ f3_; have f4_ := f1_.symm; have f5_ := f3_.symm; clear f1_ f2_ f3_; subst f4_; subst f5_))
 obtain ⟨Ao46, co46, eo46⟩ := Kd.R_slice HO715.out
 (first | subst eo46 | (injection eo46 with f1_ f2_ f3_; have f4_ := f1_.symm; have f5_ := f3_.symm; clear f1_ f2_ f3_; subst f4_; subst f5_))
 refine hK.out _ _ ⟨ds8_ BK695, ds8_ BK652⟩ (fun hHeld => ?_)
 clear hK K
 refine nm 24 ?_
 refine one_ (i := 3) (N := some 25) #[true, true, true, true, false] rfl rfl (by kernel_rfl) (by decide) (fun K hK => ?_)
 refine gS Tryz.func28 #[.agg #[.slice Ao30 t675.length co30, .slice Ao33 t678.length co33, .slice Ao34 t681.length co34, .int .i64 t684, .slice Ao35 t685.length co35, .slice Ao36 t688.length co36, .slice Ao37 t691.length co37, .int .i64 t694], .agg #[.slice Ao41 t697.length co41, .slice Ao42 t700.length co42, .slice Ao43 t703.length co43, .int .i64 t706, .slice Ao44 t707.length co44, .slice Ao45 t710.length co45, .slice Ao46 t713.length co46, .int .i64 t716]] ?_
 with_reducible refine (laws_eqMachine.calls k _ _ t675 _ _ t678 _ _ t681 t684 _ _ t685 _ _ t688 _ _ t691 t694 _ _ t697 _ _ t700 _ _ t703 t706 _ _ t707 _ _ t710 _ _ t713 t716 true _ ?side1 ?side2 ?side3 ?side4 ?side5 ?side6 ?side7 ?side8 ?side9 ?side10 ?side11 ?side12 ?side13 ?side14 ?side15 ?side16 ?side17 ?side18 ?side19 ?side20 ?side21 ?side22 ?side23 ?side24 A13.out).mono ?_
 (case side1 => repeat (first | exact (Kd.R_reads' HO677.out).2.2 | (with_reducible refine Kd.C_alloc ?_ _) | (with_reducible refine Kd.C_drewN ?_ _) | (with_reducible refine Kd.C_drew ?_)))
 (case side2 => exact (Kd.R_reads' HO677.out).2.1)
 (case side3 => repeat (first | exact (Kd.S_reads' HO680.out).2.2 | (with_reducible refine Kd.C_alloc ?_ _) | (with_reducible refine Kd.C_drewN ?_ _) | (with_reducible refine Kd.C_drew ?_)))
 (case side4 => exact (Kd.S_reads' HO680.out).2.1)
 (case side5 => repeat (first | exact (Kd.S_reads' HO683.out).2.2 | (with_reducible refine Kd.C_alloc ?_ _) | (with_reducible refine Kd.C_drewN ?_ _) | (with_reducible refine Kd.C_drew ?_)))
 (case side6 => exact (Kd.S_reads' HO683.out).2.1)
 (case side7 => repeat (first | exact (Kd.S_reads' HO687.out).2.2 | (with_reducible refine Kd.C_alloc ?_ _) | (with_reducible refine Kd.C_drewN ?_ _) | (with_reducible refine Kd.C_drew ?_)))
 (case side8 => exact (Kd.S_reads' HO687.out).2.1)
 (case side9 => repeat (first | exact (Kd.R_reads' HO690.out).2.2 | (with_reducible refine Kd.C_alloc ?_ _) | (with_reducible refine Kd.C_drewN ?_ _) | (with_reducible refine Kd.C_drew ?_)))
 (case side10 => exact (Kd.R_reads' HO690.out).2.1)
 (case side11 => repeat (first | exact (Kd.R_reads' HO693.out).2.2 | (with_reducible refine Kd.C_alloc ?_ _) | (with_reducible refine Kd.C_drewN ?_ _) | (with_reducible refine Kd.C_drew ?_)))
 (case side12 => exact (Kd.R_reads' HO693.out).2.1)
 (case side13 => repeat (first | exact (Kd.R_reads' HO699.out).2.2 | (with_reducible refine Kd.C_alloc ?_ _) | (with_reducible refine Kd.C_drewN ?_ _) | (with_reducible refine Kd.C_drew ?_)))
 (case side14 => exact (Kd.R_reads' HO699.out).2.1)
 (case side15 => repeat (first | exact (Kd.S_reads' HO702.out).2.2 | (with_reducible refine Kd.C_alloc ?_ _) | (with_reducible refine Kd.C_drewN ?_ _) | (with_reducible refine Kd.C_drew ?_)))
 (case side16 => exact (Kd.S_reads' HO702.out).2.1)
 (case side17 => repeat (first | exact (Kd.S_reads' HO705.out).2.2 | (with_reducible refine Kd.C_alloc ?_ _) | (with_reducible refine Kd.C_drewN ?_ _) | (with_reducible refine Kd.C_drew ?_)))
 (case side18 => exact (Kd.S_reads' HO705.out).2.1)
 (case side19 => repeat (first | exact (Kd.S_reads' HO709.out).2.2 | (with_reducible refine Kd.C_alloc ?_ _) | (with_reducible refine Kd.C_drewN ?_ _) | (with_reducible refine Kd.C_drew ?_)))
 (case side20 => exact (Kd.S_reads' HO709.out).2.1)
 (case side21 => repeat (first | exact (Kd.R_reads' HO712.out).2.2 | (with_reducible refine Kd.C_alloc ?_ _) | (with_reducible refine Kd.C_drewN ?_ _) | (with_reducible refine Kd.C_drew ?_)))
 (case side22 => exact (Kd.R_reads' HO712.out).2.1)
 (case side23 => repeat (first | exact (Kd.R_reads' HO715.out).2.2 | (with_reducible refine Kd.C_alloc ?_ _) | (with_reducible refine Kd.C_drewN ?_ _) | (with_reducible refine Kd.C_drew ?_)))
 (case side24 => exact (Kd.R_reads' HO715.out).2.1)
 rintro e w47 ⟨rfl, hb⟩
 refine ⟨_, rfl, ?_⟩
 replace HO656 := rb HO656 hb
 replace HO659 := Aside0.mk (Kd.S_below (by (with_reducible repeat (first | apply Kd.S_alloc | apply Kd.S_drewN | apply Kd.S_drew)); exact HO659.out) hb)
 replace HO662 := Aside0.mk (Kd.S_below (by (with_reducible repeat (first | apply Kd.S_alloc | apply Kd.S_drewN | apply Kd.S_drew)); exact HO662.out) hb)
 replace HO666 := Aside0.mk (Kd.S_below (by (with_reducible repeat (first | apply Kd.S_alloc | apply Kd.S_drewN | apply Kd.S_drew)); exact HO666.out) hb)
 replace HO669 := rb HO669 hb
 replace HO672 := rb HO672 hb
 replace HO677 := rb HO677 hb
 replace HO680 := Aside0.mk (Kd.S_below (by (with_reducible repeat (first | apply Kd.S_alloc | apply Kd.S_drewN | apply Kd.S_drew)); exact HO680.out) hb)
 replace HO683 := Aside0.mk (Kd.S_below (by (with_reducible repeat (first | apply Kd.S_alloc | apply Kd.S_drewN | apply Kd.S_drew)); exact HO683.out) hb)
 replace HO687 := Aside0.mk (Kd.S_below (by (with_reducible repeat (first | apply Kd.S_alloc | apply Kd.S_drewN | apply Kd.S_drew)); exact HO687.out) hb)
 replace HO690 := rb HO690 hb
 replace HO693 := rb HO693 hb
 replace HO699 := rb HO699 hb
 replace HO702 := Aside0.mk (Kd.S_below (by (with_reducible repeat (first | apply Kd.S_alloc | apply Kd.S_drewN | apply Kd.S_drew)); exact HO702.out) hb)
 replace HO705 := Aside0.mk (Kd.S_below (by (with_reducible repeat (first | apply Kd.S_alloc | apply Kd.S_drewN | apply Kd.S_drew)); exact HO705.out) hb)
 replace HO709 := Aside0.mk (Kd.S_below (by (with_reducible repeat (first | apply Kd.S_alloc | apply Kd.S_drewN | apply Kd.S_drew)); exact HO709.out) hb)
 replace HO712 := rb HO712 hb
 replace HO715 := rb HO715 hb
 replace BK652 := bb BK652 hb
 replace BK695 := bb BK695 hb
 replace HB := bs HB hb
 (try clear hb)
 (try clear hb2)
 (try clear hk)
 (try clear hi)
 refine hK.out _ _ ⟨ds8_ BK695, ds8_ BK652⟩ (fun hHeld => ?_)
 clear hK K
 refine nm 25 ?_
 refine pu 4 26 ?_
 refine done_ (by kernel_rfl) ?_
 try go_wp2
 go_ret
 exact ⟨er, tb HB⟩
end Go.Proofs.YtopikhjcbcpiaaaGreat.Q
section
namespace Go.Proofs.YtopikhjcbcpiaaaGreat.Q
open Go.RowKit Go.Proofs.YtopikhjcbcpiaaaGreatW.PrintWords Go.Proofs.YtopikhjcbcpiaaaGreatX
theorem ev_idxP {g : Nat → Int → Option Bool} (n : Nat) (q : Nat → Bool) (rest : Bool)
    (hstep : ∀ i : Nat, i < n → (∀ j, j < i → q j = true) → (q i = true → ∀ r, Ev (fun k => g k ((i + 1 : Nat) : Int)) r → Ev (fun k => g k (i : Int)) r) ∧ (q i = false → Ev (fun k => g k (i : Int)) false))
    (hend : Ev (fun k => g k (n : Int)) rest) : Ev (fun k => g k 0) ((List.range n).all q && rest) := by
  have key : ∀ (d i : Nat), i + d = n → (∀ j, j < i → q j = true) → Ev (fun k => g k (i : Int)) (((List.range n).drop i).all q && rest) := by
    intro d
    induction d with
    | zero =>
      intro i hi hp
      obtain rfl : i = n := by omega
      exact ev_to hend (by rw [List.drop_eq_nil_of_le (by simp)]; simp)
    | succ d ih =>
      intro i hi hp
      have hlt : i < n := by omega
      have hs := hstep i hlt hp
      have hd : ((List.range n).drop i).all q = (q i && ((List.range n).drop (i + 1)).all q) := by rw [List.drop_eq_getElem_cons (by simpa using hlt), List.all_cons, List.getElem_range]
      rw [hd]
      cases hq : q i with
      | true =>
        refine ev_to (hs.1 hq _ (ih (i + 1) (by omega) (fun j hj => ?_))) (by simp)
        rcases Nat.lt_or_ge j i with h | h
        · exact hp j h
        · obtain rfl : j = i := by omega
          exact hq
      | false => exact ev_to (hs.2 hq) (by simp)
  simpa using key n 0 (by omega) (fun j hj => by omega)
theorem getD134 {l : List S134} {i : Nat} (h : i < l.length) : l.getD i z134 = l[i] := by simp [List.getD_eq_getElem?_getD, List.getElem?_eq_getElem h]
theorem getD82 {l : List S82} {i : Nat} (h : i < l.length) : l.getD i z82 = l[i] := by simp [List.getD_eq_getElem?_getD, List.getElem?_eq_getElem h]
theorem rd134 {l : List S134} {i : Nat} : rd_T134 l (i : Int) = l.getD i z134 := by
  show l.getD (i : Int).toNat z134 = _
  rw [Int.toNat_natCast]
def callB (n time : Int) (x : S134) : Bool :=
  inB x.f0 0 (n - 1) && (opOkB x.f1.f0 x.f1.f1 x.f1.f2 && (inB x.f2 0 time && ((decide (x.f3 = -1) || inB x.f3 x.f2 time) && (decide (x.f4 = -1) || inB x.f4 x.f2 time))))
theorem ev_spec_Call (ws : List S39) (ds : List S52) (ts : List S82) (time : Int) (cs : List S134) (ord held : List Int) (st : Int) (x : S134) (ht : ts.length ≤ 1048576) :
    Ev (fun k => spec_l9Call.f k ws ds ts time cs ord held st x.f0 x.f1.f0 x.f1.f1 x.f1.f2 x.f2 x.f3 x.f4 x.f5.f0 x.f5.f1) (callB ts.length time x) := by
  unfold spec_l9Call.f callB
  rw [wrap_in (by omega) (by omega)]
  simp only [l1In_eq, Option.bind_some]
  cases inB x.f0 0 ((ts.length : Int) - 1) with
  | false => exact ev_neg (by simp) (Ev.now _)
  | true =>
    refine ev_pos rfl (ev_to (r := if opOkB x.f1.f0 x.f1.f1 x.f1.f2 = true then (inB x.f2 0 time && ((decide (x.f3 = -1) || inB x.f3 x.f2 time) && (decide (x.f4 = -1) || inB x.f4 x.f2 time))) else false) (Ev.bind (ev_spec_OpOk x.f1.f0 x.f1.f1 x.f1.f2) (ev_of fun k => ?_)) (by cases opOkB x.f1.f0 x.f1.f1 x.f1.f2 <;> simp))
    cases opOkB x.f1.f0 x.f1.f1 x.f1.f2 <;> cases inB x.f2 0 time <;> by_cases h3 : x.f3 = -1 <;> by_cases h4 : x.f4 = -1 <;> simp [h3, h4]
    all_goals (cases inB x.f3 x.f2 time <;> simp)
theorem ev_impl_call_step (time : Int) (x : S134) : impl_MachineOk_1.f x.f0 x.f1.f0 x.f1.f1 x.f1.f2 x.f2 x.f3 x.f4 x.f5.f0 x.f5.f1 x.f3 time = some (decide (x.f3 = -1) || inB x.f3 x.f2 time) ∧ impl_MachineOk_1.f x.f0 x.f1.f0 x.f1.f1 x.f1.f2 x.f2 x.f3 x.f4 x.f5.f0 x.f5.f1 x.f4 time = some (decide (x.f4 = -1) || inB x.f4 x.f2 time) := by
  unfold impl_MachineOk_1.f
  simp only [from_eq]
  constructor
  · by_cases h : x.f3 = -1 <;> simp [h]
  · by_cases h : x.f4 = -1 <;> simp [h]
def linN (cs : List S134) : Nat → Nat
  | 0 => 0
  | i + 1 => if 0 ≤ (cs.getD i z134).f3 then linN cs i + 1 else linN cs i
theorem linN_le (cs : List S134) : ∀ i, linN cs i ≤ i
  | 0 => Nat.le_refl _
  | i + 1 => by
    have := linN_le cs i
    unfold linN
    split <;> omega
def ordV (cs : List S134) (ord : List Int) (i : Nat) : Bool :=
  inB (ord.getD i 0) 0 ((cs.length : Int) - 1) && (decide (0 ≤ (cs.getD (ord.getD i 0).toNat z134).f3) && (decide (idxI (ord.take i) (ord.getD i 0) < 0) && (decide (i = 0) || decide ((cs.getD (ord.getD (i - 1) 0).toNat z134).f3 ≤ (cs.getD (ord.getD i 0).toNat z134).f3))))
def orderB (cs : List S134) (ord : List Int) : Bool := (List.range ord.length).all (ordV cs ord) && decide ((linN cs cs.length : Int) = ord.length)
theorem ordV_in {cs : List S134} {ord : List Int} {i : Nat} (h : ordV cs ord i = true) : 0 ≤ ord.getD i 0 ∧ ord.getD i 0 ≤ (cs.length : Int) - 1 := by
  unfold ordV at h
  simp only [Bool.and_eq_true] at h
  simpa [inB] using h.1
theorem rdC {cs : List S134} {v : Int} : rd_T134 cs v = cs.getD v.toNat z134 := by
  show cs.getD v.toNat z134 = _
  exact id rfl
theorem ev_impl_orderOk (ws : List S39) (ds : List S52) (ts : List S82) (time : Int) (cs : List S134) (ord held : List Int) (st : Int) (hc : cs.length ≤ 1048576) (ho : ord.length ≤ 1048576) :
    Ev (fun k => impl_orderOk.f k ws ds ts time cs ord held st) (orderB cs ord) := by
  have L1 : ∀ c : Int, Ev (fun k => impl_orderOk.l1 k c ord (ord.length : Int) 0 ws ds ts time cs ord held st) ((List.range ord.length).all (ordV cs ord) && decide (c = (ord.length : Int))) := by
    intro c
    refine ev_idxP (g := fun k i => impl_orderOk.l1 k c ord (ord.length : Int) i ws ds ts time cs ord held st) ord.length (ordV cs ord) _ (fun i hi hp => ?_) ?_
    · have hC := ev_Contains (ord.take i) (ord.getD i 0) (by simp; omega)
      have hprev : 0 < i → (0 ≤ ord.getD (i - 1) 0 ∧ ord.getD (i - 1) 0 ≤ (cs.length : Int) - 1) := fun h0 => ordV_in (hp (i - 1) (by omega))
      have hw : 0 < i → wrap64 ((i : Int) - 1) = ((i - 1 : Nat) : Int) := fun h0 => by rw [wrap_in (by omega) (by omega)]; omega
      unfold ordV
      generalize hv : ord.getD i 0 = v at hC ⊢
      generalize hu : ord.getD (i - 1) 0 = u at hprev ⊢
      cases h0 : inB v 0 ((cs.length : Int) - 1) with
      | false =>
        refine ⟨fun hq => by simp at hq, fun _ => ev_succ (fun k => ?_)⟩
        simp only [impl_orderOk.l1, rd_nat, hv, from_eq, Option.bind_some]
        rw [wrap_in (x := (cs.length : Int) - 1) (by omega) (by omega), h0, if_pos (by omega), if_pos (by omega), if_pos (by omega), if_neg (by simp)]
      | true =>
        have h0' : 0 ≤ v ∧ v ≤ (cs.length : Int) - 1 := by simpa [inB] using h0
        by_cases h1 : 0 ≤ (cs.getD v.toNat z134).f3
        · have F : ∀ r, ((decide (idxI (ord.take i) v < 0) && (decide (i = 0) || decide ((cs.getD u.toNat z134).f3 ≤ (cs.getD v.toNat z134).f3))) = true → Ev (fun k => impl_orderOk.l1 k c ord (ord.length : Int) ((i + 1 : Nat) : Int) ws ds ts time cs ord held st) r) →
              Ev (fun k => impl_orderOk.l1 k c ord (ord.length : Int) (i : Int) ws ds ts time cs ord held st) (if (decide (idxI (ord.take i) v < 0) && (decide (i = 0) || decide ((cs.getD u.toNat z134).f3 ≤ (cs.getD v.toNat z134).f3))) = true then r else false) := by
            intro r hr
            refine Ev.step (f := fun k => (slices_Contains_int_int.f k (ord.take i) v).bind fun t => if t = true then some false else (if (i : Int) > 0 then (if (cs.getD u.toNat z134).f3 > (cs.getD v.toNat z134).f3 then some false else impl_orderOk.l1 k c ord (ord.length : Int) ((i + 1 : Nat) : Int) ws ds ts time cs ord held st) else impl_orderOk.l1 k c ord (ord.length : Int) ((i + 1 : Nat) : Int) ws ds ts time cs ord held st)) (fun k => ?_) (Ev.bind hC ?_)
            · simp only [impl_orderOk.l1, rd_nat, hv, from_eq, Option.bind_some, Int.toNat_natCast]
              rw [wrap_in (x := (cs.length : Int) - 1) (by omega) (by omega), h0, if_pos (by omega), if_pos (by omega), if_pos (by omega), if_pos rfl, if_pos h0'.1, if_pos (by omega)]
              simp only [rdC]
              rw [if_neg (by omega), if_pos (by omega), wrap_succ hi (by omega)]
              congr 1
              funext t
              by_cases hi0 : (i : Int) > 0
              · have hp' := hprev (by omega)
                simp only [hw (by omega), rd_nat, hu]
                rw [if_pos hi0, if_pos hi0, if_pos (show (0 : Int) ≤ ((i - 1 : Nat) : Int) by omega), if_pos (show ((i - 1 : Nat) : Int) < (ord.length : Int) by omega), if_pos hp'.1, if_pos (show u < (cs.length : Int) by omega)]
              · rw [if_neg hi0, if_neg hi0]
            · by_cases hx : idxI (ord.take i) v < 0
              · refine ev_neg (by rw [decide_eq_true_eq]; omega) ?_
                by_cases hi0 : i = 0
                · refine ev_neg (by omega) ?_
                  have hcond : (decide (idxI (ord.take i) v < 0) && (decide (i = 0) || decide ((cs.getD u.toNat z134).f3 ≤ (cs.getD v.toNat z134).f3))) = true := by rw [decide_eq_true hx, decide_eq_true hi0]; rfl
                  rw [if_pos hcond]
                  exact hr hcond
                · refine ev_pos (by omega) ?_
                  by_cases hle : (cs.getD u.toNat z134).f3 ≤ (cs.getD v.toNat z134).f3
                  · have hcond : (decide (idxI (ord.take i) v < 0) && (decide (i = 0) || decide ((cs.getD u.toNat z134).f3 ≤ (cs.getD v.toNat z134).f3))) = true := by rw [decide_eq_true hx, decide_eq_true hle]; simp
                    rw [if_pos hcond]
                    exact ev_neg (by omega) (hr hcond)
                  · rw [if_neg (by rw [decide_eq_false hle, decide_eq_false hi0]; simp)]
                    exact ev_pos (by omega) (Ev.now _)
              · rw [if_neg (by rw [decide_eq_false hx]; simp)]
                exact ev_pos (by rw [decide_eq_true_eq]; omega) (Ev.now _)
          rw [decide_eq_true h1, Bool.true_and, Bool.true_and]
          constructor
          · intro hq r hr
            exact ev_to (F r (fun _ => hr)) (by rw [if_pos hq])
          · intro hq
            exact ev_to (F false (fun hc => by rw [hq] at hc; cases hc)) (by rw [hq]; simp)
        · refine ⟨fun hq => by rw [decide_eq_false h1] at hq; simp at hq, fun _ => ev_succ (fun k => ?_)⟩
          simp only [impl_orderOk.l1, rd_nat, hv, from_eq, Option.bind_some]
          rw [wrap_in (x := (cs.length : Int) - 1) (by omega) (by omega), h0, if_pos (by omega), if_pos (by omega), if_pos (by omega), if_pos rfl, if_pos h0'.1, if_pos (by omega)]
          simp only [rdC]
          rw [if_pos (by omega)]
    · refine ev_succ (fun k => ?_)
      simp only [impl_orderOk.l1]
      rw [if_neg (by omega), Option.some.injEq, Bool.eq_iff_iff]
      simp
  have key : ∀ (d i : Nat), i + d = cs.length → Ev (fun k => impl_orderOk.l0 k (linN cs i : Int) cs (cs.length : Int) (i : Int) ws ds ts time cs ord held st) (orderB cs ord) := by
    intro d
    induction d with
    | zero =>
      intro i hi
      obtain rfl : i = cs.length := by omega
      refine Ev.step (fun k => ?_) (L1 (linN cs cs.length : Int))
      simp only [impl_orderOk.l0]
      rw [if_neg (by omega)]
    | succ d ih =>
      intro i hi
      have hn := linN_le cs i
      have h := ih (i + 1) (by omega)
      have e1 : wrap64 ((i : Int) + 1) = ((i + 1 : Nat) : Int) := by rw [wrap_in (by omega) (by omega)]; omega
      unfold linN at h
      by_cases h3 : 0 ≤ (cs.getD i z134).f3
      · rw [if_pos h3] at h
        refine Ev.step (fun k => ?_) h
        simp only [impl_orderOk.l0, rd134]
        rw [if_pos (by omega), if_pos (by omega), if_pos (by omega), if_pos (by omega), e1, wrap_in (x := (linN cs i : Int) + 1) (by omega) (by omega)]
        rfl
      · rw [if_neg h3] at h
        refine Ev.step (fun k => ?_) h
        simp only [impl_orderOk.l0, rd134]
        rw [if_pos (by omega), if_pos (by omega), if_pos (by omega), if_neg (by omega), e1]
  exact key cs.length 0 (by omega)
theorem idx_all (l : List Int) (v : Int) (i : Nat) (hi : i ≤ l.length) : (List.range i).all (fun j => decide (¬ l.getD j 0 = v)) = decide (idxI (l.take i) v < 0) := by
  have hb := idxFrom_bd v (l.take i) 0
  have hm := idxFrom_mem v (l.take i) 0
  have h1 : idxI (l.take i) v < 0 ↔ v ∉ l.take i := by
    rw [← hm]
    unfold idxI
    omega
  rw [Bool.eq_iff_iff, List.all_eq_true, decide_eq_true_eq, h1]
  constructor
  · intro h hv
    obtain ⟨j, hj, e⟩ := List.getElem_of_mem hv
    have hj2 : j < i ∧ j < l.length := by rw [List.length_take] at hj; omega
    have := h j (List.mem_range.2 hj2.1)
    rw [decide_eq_true_eq] at this
    apply this
    rw [List.getElem_take] at e
    simp [List.getD_eq_getElem?_getD, List.getElem?_eq_getElem hj2.2, e]
  · intro h j hj
    have hj' := List.mem_range.1 hj
    rw [decide_eq_true_eq]
    intro e
    apply h
    have hjl : j < l.length := by omega
    rw [← e]
    have : l.getD j 0 = (l.take i)[j]'(by simp; omega) := by
      rw [List.getElem_take]
      simp [List.getD_eq_getElem?_getD, List.getElem?_eq_getElem hjl]
    rw [this]
    exact List.getElem_mem _
theorem ev_spec_Calls (ws : List S39) (ds : List S52) (ts : List S82) (time : Int) (cs : List S134) (ord held : List Int) (st : Int) (ht : ts.length ≤ 1048576) (hc : cs.length ≤ 1048576) (ho : ord.length ≤ 1048576) :
    Ev (fun k => spec_l9Calls.f k ws ds ts time cs ord held st) (cs.all (callB ts.length time) && (decide (cs.length ≤ 40) && orderB cs ord)) := by
  have L1 : ∀ c : Int, Ev (fun k => spec_l9Calls.l1 k c 0 ws ds ts time cs ord held st) ((List.range ord.length).all (ordV cs ord) && (decide (cs.length ≤ 40) && decide (c = (ord.length : Int)))) := by
    intro c
    refine ev_idxP (g := fun k i => spec_l9Calls.l1 k c i ws ds ts time cs ord held st) ord.length (ordV cs ord) _ (fun i hi hp => ?_) ?_
    · have hprev : 0 < i → (0 ≤ ord.getD (i - 1) 0 ∧ ord.getD (i - 1) 0 ≤ (cs.length : Int) - 1) := fun h0 => ordV_in (hp (i - 1) (by omega))
      have hw : 0 < i → wrap64 ((i : Int) - 1) = ((i - 1 : Nat) : Int) := fun h0 => by rw [wrap_in (by omega) (by omega)]; omega
      have hall := idx_all ord (ord.getD i 0) i (by omega)
      -- behind the tests: no number twice
      have J : ∀ (b : Bool) (v : Int), ord.getD i 0 = v → ∀ r, Ev (fun k => spec_l9Calls.l1 k c ((i + 1 : Nat) : Int) ws ds ts time cs ord held st) r → Ev (fun k => spec_l9Calls.j2 k c (i : Int) v b ws ds ts time cs ord held st) (!b && (decide (idxI (ord.take i) v < 0) && r)) := by
        intro b v hv r hr
        cases b with
        | true => exact ev_succ (fun k => by simp [spec_l9Calls.j2])
        | false =>
          rw [hv] at hall
          refine ev_to (Ev.step (f := fun k => spec_l9Calls.l2 k c (i : Int) v 0 ws ds ts time cs ord held st) (fun k => by simp [spec_l9Calls.j2]) (ev_idx (g := fun k j => spec_l9Calls.l2 k c (i : Int) v j ws ds ts time cs ord held st) i (fun j => decide (¬ ord.getD j 0 = v)) r (fun j hj => ?_) ?_)) (by rw [hall]; simp)
          · constructor
            · intro hq r' hr'
              rw [decide_eq_true_eq] at hq
              refine Ev.step (fun k => ?_) hr'
              simp only [spec_l9Calls.l2, rd_nat]
              rw [if_pos (by omega), if_pos (by omega), if_pos (by omega), if_neg hq, wrap_succ hj (by omega)]
            · intro hq
              rw [decide_eq_false_iff_not, Decidable.not_not] at hq
              refine ev_succ (fun k => ?_)
              simp only [spec_l9Calls.l2, rd_nat]
              rw [if_pos (by omega), if_pos (by omega), if_pos (by omega), if_pos hq]
          · refine Ev.step (fun k => ?_) hr
            simp only [spec_l9Calls.l2]
            rw [if_neg (by omega), wrap_succ hi (by omega)]
      have JF : ∀ (b : Bool) (v : Int), ord.getD i 0 = v → (!b && decide (idxI (ord.take i) v < 0)) = false → Ev (fun k => spec_l9Calls.j2 k c (i : Int) v b ws ds ts time cs ord held st) false := by
        intro b v hv hq
        cases b with
        | true => exact ev_succ (fun k => by simp [spec_l9Calls.j2])
        | false =>
          rw [hv] at hall
          have hbad : decide (idxI (ord.take i) v < 0) = false := by simpa using hq
          -- some place before it holds the same
          have hex : ∃ j, j < i ∧ ord.getD j 0 = v ∧ ∀ m, m < j → ¬ ord.getD m 0 = v := by
            rw [hbad] at hall
            have hne : ∃ j, j < i ∧ ord.getD j 0 = v := by
              by_cases hne : ∃ j, j < i ∧ ord.getD j 0 = v
              · exact hne
              · exfalso
                have : (List.range i).all (fun j => decide (¬ ord.getD j 0 = v)) = true := by
                  rw [List.all_eq_true]
                  intro j hj
                  rw [decide_eq_true_eq]
                  intro e
                  exact hne ⟨j, List.mem_range.1 hj, e⟩
                rw [this] at hall
                cases hall
            obtain ⟨j, hj, e⟩ := hne
            have P : ∀ n j, j ≤ n → j < i → ord.getD j 0 = v → ∃ j, j < i ∧ ord.getD j 0 = v ∧ ∀ m, m < j → ¬ ord.getD m 0 = v := by
              intro n
              induction n with
              | zero => intro j hj hji e; exact ⟨j, hji, e, fun m hm => by omega⟩
              | succ n ih =>
                intro j hj hji e
                by_cases hm : ∃ m, m < j ∧ ord.getD m 0 = v
                · obtain ⟨m, hm1, hm2⟩ := hm
                  exact ih m (by omega) (by omega) hm2
                · exact ⟨j, hji, e, fun m hm1 hm2 => hm ⟨m, hm1, hm2⟩⟩
            exact P j j (Nat.le_refl _) hj e
          obtain ⟨j, hj, e, hmin⟩ := hex
          have D : ∀ (d m : Nat), m + d = j → Ev (fun k => spec_l9Calls.l2 k c (i : Int) v (m : Int) ws ds ts time cs ord held st) false := by
            intro d
            induction d with
            | zero =>
              intro m hm
              obtain rfl : m = j := by omega
              refine ev_succ (fun k => ?_)
              simp only [spec_l9Calls.l2, rd_nat]
              rw [if_pos (by omega), if_pos (by omega), if_pos (by omega), if_pos e]
            | succ d ihd =>
              intro m hm
              refine Ev.step (fun k => ?_) (ihd (m + 1) (by omega))
              simp only [spec_l9Calls.l2, rd_nat]
              rw [if_pos (by omega), if_pos (by omega), if_pos (by omega), if_neg (hmin m (by omega)), wrap_succ (show m < i by omega) (by omega)]
          exact Ev.step (f := fun k => spec_l9Calls.l2 k c (i : Int) v 0 ws ds ts time cs ord held st) (fun k => by simp [spec_l9Calls.j2]) (D j 0 (by omega))
      unfold ordV
      generalize hv : ord.getD i 0 = v at J JF ⊢
      generalize hu : ord.getD (i - 1) 0 = u at hprev ⊢
      cases h0 : inB v 0 ((cs.length : Int) - 1) with
      | false =>
        refine ⟨fun hq => by simp at hq, fun _ => Ev.step (fun k => ?_) (JF true v rfl (by simp))⟩
        simp only [spec_l9Calls.l1, rd_nat, hv, l1In_eq, Option.bind_some]
        rw [wrap_in (x := (cs.length : Int) - 1) (by omega) (by omega), h0, if_pos (by omega), if_pos (by omega), if_neg (by simp)]
      | true =>
        have h0' : 0 ≤ v ∧ v ≤ (cs.length : Int) - 1 := by simpa [inB] using h0
        by_cases h1 : 0 ≤ (cs.getD v.toNat z134).f3
        · have E : ∀ r, Ev (fun k => spec_l9Calls.j2 k c (i : Int) v (if i = 0 then false else decide ((cs.getD u.toNat z134).f3 > (cs.getD v.toNat z134).f3)) ws ds ts time cs ord held st) r → Ev (fun k => spec_l9Calls.l1 k c (i : Int) ws ds ts time cs ord held st) r := by
            intro r hr
            refine Ev.step (fun k => ?_) hr
            simp only [spec_l9Calls.l1, rd_nat, hv, l1In_eq, Option.bind_some]
            rw [wrap_in (x := (cs.length : Int) - 1) (by omega) (by omega), h0, if_pos (by omega), if_pos (by omega), if_pos rfl, if_pos h0'.1, if_pos (by omega)]
            simp only [rdC]
            rw [if_neg (by omega)]
            by_cases hi0 : i = 0
            · rw [if_neg (by omega), if_pos hi0]
            · have hp' := hprev (by omega)
              simp only [hw (by omega), rd_nat, hu]
              rw [if_pos (by omega), if_pos (show (0 : Int) ≤ ((i - 1 : Nat) : Int) by omega), if_pos (show ((i - 1 : Nat) : Int) < (ord.length : Int) by omega), if_pos hp'.1, if_pos (show u < (cs.length : Int) by omega), if_neg hi0]
          have hb : (!(if i = 0 then false else decide ((cs.getD u.toNat z134).f3 > (cs.getD v.toNat z134).f3))) = (decide (i = 0) || decide ((cs.getD u.toNat z134).f3 ≤ (cs.getD v.toNat z134).f3)) := by
            by_cases hi0 : i = 0
            · simp [hi0]
            · rw [if_neg hi0, decide_eq_false hi0, Bool.false_or]
              by_cases hle : (cs.getD u.toNat z134).f3 ≤ (cs.getD v.toNat z134).f3
              · rw [decide_eq_true hle, decide_eq_false (by omega)]; rfl
              · rw [decide_eq_false hle, decide_eq_true (by omega)]; rfl
          rw [decide_eq_true h1, Bool.true_and, Bool.true_and]
          constructor
          · intro hq r hr
            refine E r (ev_to (J _ v rfl r hr) ?_)
            rw [hb]
            simp only [Bool.and_eq_true] at hq
            rw [hq.1, hq.2]
            simp
          · intro hq
            refine E false (JF _ v rfl ?_)
            rw [hb, Bool.and_comm]
            exact hq
        · refine ⟨fun hq => by rw [decide_eq_false h1] at hq; simp at hq, fun _ => Ev.step (fun k => ?_) (JF true v rfl (by simp))⟩
          simp only [spec_l9Calls.l1, rd_nat, hv, l1In_eq, Option.bind_some]
          rw [wrap_in (x := (cs.length : Int) - 1) (by omega) (by omega), h0, if_pos (by omega), if_pos (by omega), if_pos rfl, if_pos h0'.1, if_pos (by omega)]
          simp only [rdC]
          rw [if_pos (by omega)]
    · refine ev_succ (fun k => ?_)
      simp only [spec_l9Calls.l1]
      rw [if_neg (by omega)]
      by_cases h40 : cs.length ≤ 40
      · rw [if_pos (by omega), decide_eq_true h40, Bool.true_and, Option.some.injEq, Bool.eq_iff_iff]; simp
      · rw [if_neg (by omega), decide_eq_false h40]; rfl
  have key : ∀ (d i : Nat), i + d = cs.length → Ev (fun k => spec_l9Calls.l0 k (linN cs i : Int) (i : Int) ws ds ts time cs ord held st) ((cs.drop i).all (callB ts.length time) && (decide (cs.length ≤ 40) && orderB cs ord)) := by
    intro d
    induction d with
    | zero =>
      intro i hi
      obtain rfl : i = cs.length := by omega
      refine ev_to (Ev.step (fun k => ?_) (L1 (linN cs cs.length : Int))) (by
        unfold orderB
        simp only [List.drop_length, List.all_nil, Bool.true_and]
        generalize (List.range ord.length).all (ordV cs ord) = a
        generalize decide (cs.length ≤ 40) = b
        cases a <;> cases b <;> simp)
      simp only [spec_l9Calls.l0]
      rw [if_neg (by omega)]
    | succ d ih =>
      intro i hi
      have hlt : i < cs.length := by omega
      have hn := linN_le cs i
      have h := ih (i + 1) (by omega)
      have hX := ev_spec_Call ws ds ts time cs ord held st (cs.getD i z134) ht
      have hd : (cs.drop i).all (callB ts.length time) = (callB ts.length time (cs.getD i z134) && (cs.drop (i + 1)).all (callB ts.length time)) := by
        rw [List.drop_eq_getElem_cons hlt, List.all_cons, getD134 hlt]
      rw [hd]
      generalize hg : cs.getD i z134 = x at hX ⊢
      have h2 : Ev (fun k => (spec_l1Bit.f (decide (x.f3 ≥ 0))).bind fun t => spec_l9Calls.l0 k (wrap64 ((linN cs i : Int) + t)) ((i + 1 : Nat) : Int) ws ds ts time cs ord held st) ((cs.drop (i + 1)).all (callB ts.length time) && (decide (cs.length ≤ 40) && orderB cs ord)) := by
        unfold linN at h
        rw [hg] at h
        unfold spec_l1Bit.f
        by_cases h3 : 0 ≤ x.f3
        · rw [if_pos h3] at h
          simp only [ge_iff_le, h3, decide_true, if_true, Option.bind_some]
          rw [wrap_in (x := (linN cs i : Int) + 1) (by omega) (by omega)]
          exact h
        · rw [if_neg h3] at h
          simp only [ge_iff_le, h3, decide_false, Bool.false_eq_true, if_false, Option.bind_some, Int.add_zero]
          rw [wrap_in (x := (linN cs i : Int)) (by omega) (by omega)]
          exact h
      refine ev_to (Ev.step (f := fun k => (spec_l9Call.f k ws ds ts time cs ord held st x.f0 x.f1.f0 x.f1.f1 x.f1.f2 x.f2 x.f3 x.f4 x.f5.f0 x.f5.f1).bind fun t => if t = true then (spec_l1Bit.f (decide (x.f3 ≥ 0))).bind fun t => spec_l9Calls.l0 k (wrap64 ((linN cs i : Int) + t)) ((i + 1 : Nat) : Int) ws ds ts time cs ord held st else some false) (fun k => ?_) (r := if callB ts.length time x = true then ((cs.drop (i + 1)).all (callB ts.length time) && (decide (cs.length ≤ 40) && orderB cs ord)) else false) (Ev.bind hX ?_)) (by cases callB ts.length time x <;> simp)
      · simp only [spec_l9Calls.l0, rd134, hg]
        rw [if_pos (by omega), if_pos (by omega), wrap_succ hlt (by omega)]
      · cases callB ts.length time x with
        | true => exact ev_pos rfl (by simpa using h2)
        | false => exact ev_neg (by simp) (Ev.now _)
  have h := key cs.length 0 (by omega)
  rw [List.drop_zero] at h
  exact h
end Go.Proofs.YtopikhjcbcpiaaaGreat.Q
end
