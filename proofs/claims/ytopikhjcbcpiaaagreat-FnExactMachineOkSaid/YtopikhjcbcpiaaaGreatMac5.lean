/- Part 5 of the steps by which the law is shown: what each function of the program, of the reference and of the law computes. No condition. -/
import Derived.Deep.Slices
import Derived.DataReads
import Derived.Test.YtopikhjcbcpiaaaGreatMac4
namespace Go.Proofs.YtopikhjcbcpiaaaGreat.Q
open Go.RowKit Go.Proofs.YtopikhjcbcpiaaaGreatW.PrintWords Go.Proofs.YtopikhjcbcpiaaaGreatW.PrintLast Go.Proofs.YtopikhjcbcpiaaaGreatW.PrintMore
attribute [local go_sem] max2_int min2_int max_two min_two max_three min_three max_four min_four   -- for this text's walks alone
set_option linter.unusedVariables false
set_option linter.unusedSimpArgs false
def laws_FnExactMachineOk.f (k : Nat) (l0_0 : List (S207)) (l0_1 : List (S201)) (l0_2 : List (S171)) (a0_3 : Int) (l0_4 : List (S176)) (l0_5 : List Int) (l0_6 : List Int) (a0_7 : Int) : Option (Bool) := (laws_szMachine.f k l0_0 l0_1 l0_2 a0_3 l0_4 l0_5 l0_6 a0_7 1048576).bind fun t576 => (if t576 < 0 then (some true) else ((laws_toMachine.f k l0_0 l0_1 l0_2 a0_3 l0_4 l0_5 l0_6 a0_7).bind fun bt577 => ((spec_MachineOk.f k bt577.1 bt577.2.1 bt577.2.2.1 bt577.2.2.2.1 bt577.2.2.2.2.1 bt577.2.2.2.2.2.1 bt577.2.2.2.2.2.2.1 bt577.2.2.2.2.2.2.2).bind fun t597 => ((laws_toMachine.f k l0_0 l0_1 l0_2 a0_3 l0_4 l0_5 l0_6 a0_7).bind fun bt598 => ((impl_MachineOk.f k bt598.1 bt598.2.1 bt598.2.2.1 bt598.2.2.2.1 bt598.2.2.2.2.1 bt598.2.2.2.2.2.1 bt598.2.2.2.2.2.2.1 bt598.2.2.2.2.2.2.2).bind fun t619 => (if (t619 != t597) = true then (some false) else ((laws_toMachine.f k l0_0 l0_1 l0_2 a0_3 l0_4 l0_5 l0_6 a0_7).bind fun bt620 => ((laws_eqMachine.f k bt598.1 bt598.2.1 bt598.2.2.1 bt598.2.2.2.1 bt598.2.2.2.2.1 bt598.2.2.2.2.2.1 bt598.2.2.2.2.2.2.1 bt598.2.2.2.2.2.2.2 bt620.1 bt620.2.1 bt620.2.2.1 bt620.2.2.2.1 bt620.2.2.2.2.1 bt620.2.2.2.2.2.1 bt620.2.2.2.2.2.2.1 bt620.2.2.2.2.2.2.2).bind fun t640 => (if t640 = true then (some true) else (some false))))))))))
set_option maxHeartbeats 8000000 in
set_option maxRecDepth 100000 in
theorem laws_FnExactMachineOk.calls (k : Nat) (A0_0 : Option Addr) (c0_0 : Nat) (l0_0 : List (S207)) (A0_1 : Option Addr) (c0_1 : Nat) (l0_1 : List (S201)) (A0_2 : Option Addr) (c0_2 : Nat) (l0_2 : List (S171)) (a0_3 : Int) (A0_4 : Option Addr) (c0_4 : Nat) (l0_4 : List (S176)) (A0_5 : Option Addr) (c0_5 : Nat) (l0_5 : List Int) (A0_6 : Option Addr) (c0_6 : Nat) (l0_6 : List Int) (a0_7 : Int) (r : Bool) (w : World) (hr0_0 : Kd.C k207 w A0_0 l0_0.length l0_0) (hc0_0 : l0_0.length ≤ c0_0) (hr0_1 : Kd.C k201 w A0_1 l0_1.length l0_1) (hc0_1 : l0_1.length ≤ c0_1) (hr0_2 : Kd.C k171 w A0_2 l0_2.length l0_2) (hc0_2 : l0_2.length ≤ c0_2) (hr0_4 : Kd.C k176 w A0_4 l0_4.length l0_4) (hc0_4 : l0_4.length ≤ c0_4) (hr0_5 : Kd.C (Kd.int .i64) w A0_5 l0_5.length l0_5) (hc0_5 : l0_5.length ≤ c0_5) (hr0_6 : Kd.C (Kd.int .i64) w A0_6 l0_6.length l0_6) (hc0_6 : l0_6.length ≤ c0_6) (h : laws_FnExactMachineOk.f k l0_0 l0_1 l0_2 a0_3 l0_4 l0_5 l0_6 a0_7 = some r) (hr_ : r = true) :
  Calls Tryz.prog 5 #[.agg #[.slice A0_0 l0_0.length c0_0, .slice A0_1 l0_1.length c0_1, .slice A0_2 l0_2.length c0_2, .int .i64 a0_3, .slice A0_4 l0_4.length c0_4, .slice A0_5 l0_5.length c0_5, .slice A0_6 l0_6.length c0_6, .int .i64 a0_7]] w fun e w' => e = .returned (.bool r) ∧ Below w.heap.size w w' := by
 have hu68 := Tryz.underlying68
 have hu75 := Tryz.underlying75
 have HR0_0 := Aside0.mk hr0_0
 have HC0_0 := Aside0.mk hc0_0
 clear hr0_0 hc0_0
 have HR0_1 := Aside0.mk hr0_1
 have HC0_1 := Aside0.mk hc0_1
 clear hr0_1 hc0_1
 have HR0_2 := Aside0.mk hr0_2
 have HC0_2 := Aside0.mk hc0_2
 clear hr0_2 hc0_2
 have HR0_4 := Aside0.mk hr0_4
 have HC0_4 := Aside0.mk hc0_4
 clear hr0_4 hc0_4
 have HR0_5 := Aside0.mk hr0_5
 have HC0_5 := Aside0.mk hc0_5
 clear hr0_5 hc0_5
 have HR0_6 := Aside0.mk hr0_6
 have HC0_6 := Aside0.mk hc0_6
 clear hr0_6 hc0_6
 have HB := Aside0.mk (Below.refl w.heap.size w)
 have H := h
 clear h
 unfold laws_FnExactMachineOk.f at H
 obtain ⟨t576, A2, H⟩ := bn H
 try dsimp only at H
 revert H; refine icd (fun c3b0 H => ?pos) fun c3b0 H => ?_
 case pos =>
  obtain rfl := oin H
  go_enter Tryz.func5, Tryz.ntmps5
  go_wp2_with (first | ((with_reducible refine gq 1 rfl ?_); refine bx0 HB (N := 1) (t := 68) ?_; clear HB; intro gb575 w4 BK575 GE575 HB; have hz5 := cs8_ BK575) | ((with_reducible refine gf 24 rfl ?_); refine gL 9 Tryz.func24 #[.agg #[.slice A0_0 l0_0.length c0_0, .slice A0_1 l0_1.length c0_1, .slice A0_2 l0_2.length c0_2, .int .i64 a0_3, .slice A0_4 l0_4.length c0_4, .slice A0_5 l0_5.length c0_5, .slice A0_6 l0_6.length c0_6, .int .i64 a0_7], .int .i64 1048576] ?_; (with_reducible refine (laws_szMachine.calls k _ _ l0_0 _ _ l0_1 _ _ l0_2 a0_3 _ _ l0_4 _ _ l0_5 _ _ l0_6 a0_7 1048576 t576 _ (kc HR0_0 HB) HC0_0.out (kc HR0_1 HB) HC0_1.out (kc HR0_2 HB) HC0_2.out (kc HR0_4 HB) HC0_4.out (kc HR0_5 HB) HC0_5.out (kc HR0_6 HB) HC0_6.out A2.out).mono ?_); rintro e w6 ⟨rfl, hb⟩; refine ⟨_, rfl, ?_⟩; replace BK575 := bb BK575 hb; replace HB := bs HB hb; (try clear hb)))
  go_ret
  exact ⟨er, tb HB⟩
 obtain ⟨⟨t577, t580, t583, t586, t587, t590, t593, t596⟩, A7, H⟩ := bn H
 try dsimp only at H
 obtain ⟨t597, A8, H⟩ := bn H
 try dsimp only at H
 obtain ⟨⟨t598, t601, t604, t607, t608, t611, t614, t617⟩, A9, H⟩ := bn H
 try dsimp only at H
 obtain ⟨t619, A10, H⟩ := bn H
 try dsimp only at H
 by_cases c11 : (t619 != t597) = true
 case pos =>
  rw [if_pos c11] at H
  exact absurd (Option.some.inj (H.trans (congrArg some hr_))) (by simp)
 rw [if_neg c11] at H
 have c11b0 : (t619 != t597) = false := by simpa using c11
 (try (have c11b1 : decide (t619 = t597) = true := by simpa using c11))
 (try (have c11b2 : (t619 == t597) = true := by simpa using c11))
 clear c11
 obtain ⟨⟨t620, t623, t626, t629, t630, t633, t636, t639⟩, A12, H⟩ := bn H
 try dsimp only at H
 obtain ⟨t640, A13, H⟩ := bn H
 try dsimp only at H
 cases t640
 case false =>
  replace H := ipf H
  exact absurd (Option.some.inj (H.trans (congrArg some hr_))) (by simp)
 replace H := ipt H
 obtain rfl := oin H
 go_enter Tryz.func5, Tryz.ntmps5
 try go_wp2_with (first | ((with_reducible refine gq 1 rfl ?_); refine bx0 HB (N := 1) (t := 68) ?_; clear HB; intro gb575 w15 BK575 GE575 HB; have hz16 := cs8_ BK575) | ((with_reducible refine gf 24 rfl ?_); refine gL 9 Tryz.func24 #[.agg #[.slice A0_0 l0_0.length c0_0, .slice A0_1 l0_1.length c0_1, .slice A0_2 l0_2.length c0_2, .int .i64 a0_3, .slice A0_4 l0_4.length c0_4, .slice A0_5 l0_5.length c0_5, .slice A0_6 l0_6.length c0_6, .int .i64 a0_7], .int .i64 1048576] ?_; (with_reducible refine (laws_szMachine.calls k _ _ l0_0 _ _ l0_1 _ _ l0_2 a0_3 _ _ l0_4 _ _ l0_5 _ _ l0_6 a0_7 1048576 t576 _ (kc HR0_0 HB) HC0_0.out (kc HR0_1 HB) HC0_1.out (kc HR0_2 HB) HC0_2.out (kc HR0_4 HB) HC0_4.out (kc HR0_5 HB) HC0_5.out (kc HR0_6 HB) HC0_6.out A2.out).mono ?_); rintro e w17 ⟨rfl, hb⟩; refine ⟨_, rfl, ?_⟩; replace BK575 := bb BK575 hb; replace HB := bs HB hb; (try clear hb); have hz18 := cs8_ BK575) | ((with_reducible refine gf 26 rfl ?_); refine gL 13 Tryz.func26 #[.agg #[.slice A0_0 l0_0.length c0_0, .slice A0_1 l0_1.length c0_1, .slice A0_2 l0_2.length c0_2, .int .i64 a0_3, .slice A0_4 l0_4.length c0_4, .slice A0_5 l0_5.length c0_5, .slice A0_6 l0_6.length c0_6, .int .i64 a0_7]] ?_; (with_reducible refine (laws_toMachine.calls k _ _ l0_0 _ _ l0_1 _ _ l0_2 a0_3 _ _ l0_4 _ _ l0_5 _ _ l0_6 a0_7 t577 t580 t583 t586 t587 t590 t593 t596 _ (kc HR0_0 HB) HC0_0.out (kc HR0_1 HB) HC0_1.out (kc HR0_2 HB) HC0_2.out (kc HR0_4 HB) HC0_4.out (kc HR0_5 HB) HC0_5.out (kc HR0_6 HB) HC0_6.out A7.out).mono ?_); rintro e w19 ⟨v578, v581, v584, v588, v591, v594, rfl, ho0, ho1, ho2, ho3, ho4, ho5, hb⟩; refine ⟨_, rfl, ?_⟩; have HO579 := Aside0.mk (Kd.R_lower ho0 (below_size (tb HB))); have HO582 := Aside0.mk (Kd.S_lower ho1 (below_size (tb HB))); have HO585 := Aside0.mk (Kd.S_lower ho2 (below_size (tb HB))); have HO589 := Aside0.mk (Kd.S_lower ho3 (below_size (tb HB))); have HO592 := Aside0.mk (Kd.R_lower ho4 (below_size (tb HB))); have HO595 := Aside0.mk (Kd.R_lower ho5 (below_size (tb HB))); replace BK575 := bb BK575 hb; replace HB := bs HB hb; (try clear hb); (try clear ho0); (try clear ho1); (try clear ho2); (try clear ho3); (try clear ho4); (try clear ho5); obtain ⟨Ao20, co20, eo20⟩ := Kd.R_slice HO579.out; subst eo20; obtain ⟨Ao21, co21, eo21⟩ := Kd.S_slice HO582.out; subst eo21; obtain ⟨Ao22, co22, eo22⟩ := Kd.S_slice HO585.out; subst eo22; obtain ⟨Ao23, co23, eo23⟩ := Kd.S_slice HO589.out; subst eo23; obtain ⟨Ao24, co24, eo24⟩ := Kd.R_slice HO592.out; subst eo24; obtain ⟨Ao25, co25, eo25⟩ := Kd.R_slice HO595.out; subst eo25) | ((with_reducible refine gf 25 rfl ?_); refine gL 14 Tryz.func25 #[.agg #[.slice Ao20 t577.length co20, .slice Ao21 t580.length co21, .slice Ao22 t583.length co22, .int .i64 t586, .slice Ao23 t587.length co23, .slice Ao24 t590.length co24, .slice Ao25 t593.length co25, .int .i64 t596]] ?_; (with_reducible refine (spec_MachineOk.calls k _ _ t577 _ _ t580 _ _ t583 t586 _ _ t587 _ _ t590 _ _ t593 t596 t597 _ ?side1 ?side2 ?side3 ?side4 ?side5 ?side6 ?side7 ?side8 ?side9 ?side10 ?side11 ?side12 A8.out).mono ?_); (case side1 => repeat (first | exact (Kd.R_reads' HO579.out).2.2 | (with_reducible refine Kd.C_alloc ?_ _) | (with_reducible refine Kd.C_drewN ?_ _) | (with_reducible refine Kd.C_drew ?_))); (case side2 => exact (Kd.R_reads' HO579.out).2.1); (case side3 => repeat (first | exact (Kd.S_reads' HO582.out).2.2 | (with_reducible refine Kd.C_alloc ?_ _) | (with_reducible refine Kd.C_drewN ?_ _) | (with_reducible refine Kd.C_drew ?_))); (case side4 => exact (Kd.S_reads' HO582.out).2.1); (case side5 => repeat (first | exact (Kd.S_reads' HO585.out).2.2 | (with_reducible refine Kd.C_alloc ?_ _) | (with_reducible refine Kd.C_drewN ?_ _) | (with_reducible refine Kd.C_drew ?_))); (case side6 => exact (Kd.S_reads' HO585.out).2.1); (case side7 => repeat (first | exact (Kd.S_reads' HO589.out).2.2 | (with_reducible refine Kd.C_alloc ?_ _) | (with_reducible refine Kd.C_drewN ?_ _) | (with_reducible refine Kd.C_drew ?_))); (case side8 => exact (Kd.S_reads' HO589.out).2.1); (case side9 => repeat (first | exact (Kd.R_reads' HO592.out).2.2 | (with_reducible refine Kd.C_alloc ?_ _) | (with_reducible refine Kd.C_drewN ?_ _) | (with_reducible refine Kd.C_drew ?_))); (case side10 => exact (Kd.R_reads' HO592.out).2.1); (case side11 => repeat (first | exact (Kd.R_reads' HO595.out).2.2 | (with_reducible refine Kd.C_alloc ?_ _) | (with_reducible refine Kd.C_drewN ?_ _) | (with_reducible refine Kd.C_drew ?_))); (case side12 => exact (Kd.R_reads' HO595.out).2.1); rintro e w26 ⟨rfl, hb⟩; refine ⟨_, rfl, ?_⟩; replace HO579 := rb HO579 hb; replace HO582 := Aside0.mk (Kd.S_below (by (with_reducible repeat (first | apply Kd.S_alloc | apply Kd.S_drewN | apply Kd.S_drew)); exact HO582.out) hb); replace HO585 := Aside0.mk (Kd.S_below (by (with_reducible repeat (first | apply Kd.S_alloc | apply Kd.S_drewN | apply Kd.S_drew)); exact HO585.out) hb); replace HO589 := Aside0.mk (Kd.S_below (by (with_reducible repeat (first | apply Kd.S_alloc | apply Kd.S_drewN | apply Kd.S_drew)); exact HO589.out) hb); replace HO592 := rb HO592 hb; replace HO595 := rb HO595 hb; replace BK575 := bb BK575 hb; replace HB := bs HB hb; (try clear hb); have hz27 := cs8_ BK575) | ((with_reducible refine gf 26 rfl ?_); refine gL 16 Tryz.func26 #[.agg #[.slice A0_0 l0_0.length c0_0, .slice A0_1 l0_1.length c0_1, .slice A0_2 l0_2.length c0_2, .int .i64 a0_3, .slice A0_4 l0_4.length c0_4, .slice A0_5 l0_5.length c0_5, .slice A0_6 l0_6.length c0_6, .int .i64 a0_7]] ?_; (with_reducible refine (laws_toMachine.calls k _ _ l0_0 _ _ l0_1 _ _ l0_2 a0_3 _ _ l0_4 _ _ l0_5 _ _ l0_6 a0_7 t598 t601 t604 t607 t608 t611 t614 t617 _ (kc HR0_0 HB) HC0_0.out (kc HR0_1 HB) HC0_1.out (kc HR0_2 HB) HC0_2.out (kc HR0_4 HB) HC0_4.out (kc HR0_5 HB) HC0_5.out (kc HR0_6 HB) HC0_6.out A9.out).mono ?_); rintro e w28 ⟨v599, v602, v605, v609, v612, v615, rfl, ho0, ho1, ho2, ho3, ho4, ho5, hb⟩; refine ⟨_, rfl, ?_⟩; have HO600 := Aside0.mk (Kd.R_lower (Kd.R_new' ho0 (Kd.R_lt (kr HO579.out))) (below_size (tb HB))); replace HO579 := Aside0.mk (Kd.R_elder' (kr HO579.out) (Kd.R_base ho0) hb); have HO603 := Aside0.mk (Kd.S_lower (Kd.S_new' (Kd.S_new' (Kd.S_new' ho1 (Kd.S_lt (by (with_reducible repeat (first | apply Kd.S_alloc | apply Kd.S_drewN | apply Kd.S_drew)); exact HO582.out))) (Kd.R_lt (kr HO592.out))) (Kd.R_lt (kr HO595.out))) (below_size (tb HB))); replace HO582 := Aside0.mk (Kd.S_mono (Kd.S_told (Kd.S_told (Kd.S_told (Kd.S_old (by (with_reducible repeat (first | apply Kd.S_alloc | apply Kd.S_drewN | apply Kd.S_drew)); exact HO582.out) hb) (Kd.S_base ho1)) (Kd.R_base ho4)) (Kd.R_base ho5)) (fun _ h_ => h_.1)); have HO606 := Aside0.mk (Kd.S_lower (Kd.S_new' ho2 (Kd.S_lt (by (with_reducible repeat (first | apply Kd.S_alloc | apply Kd.S_drewN | apply Kd.S_drew)); exact HO585.out))) (below_size (tb HB))); replace HO585 := Aside0.mk (Kd.S_elder' (by (with_reducible repeat (first | apply Kd.S_alloc | apply Kd.S_drewN | apply Kd.S_drew)); exact HO585.out) (Kd.S_base ho2) hb); have HO610 := Aside0.mk (Kd.S_lower (Kd.S_new' (Kd.S_new' (Kd.S_new' ho3 (Kd.S_lt (by (with_reducible repeat (first | apply Kd.S_alloc | apply Kd.S_drewN | apply Kd.S_drew)); exact HO589.out))) (Kd.R_lt (kr HO592.out))) (Kd.R_lt (kr HO595.out))) (below_size (tb HB))); replace HO589 := Aside0.mk (Kd.S_mono (Kd.S_told (Kd.S_told (Kd.S_told (Kd.S_old (by (with_reducible repeat (first | apply Kd.S_alloc | apply Kd.S_drewN | apply Kd.S_drew)); exact HO589.out) hb) (Kd.S_base ho3)) (Kd.R_base ho4)) (Kd.R_base ho5)) (fun _ h_ => h_.1)); have HO613 := Aside0.mk (Kd.R_lower (Kd.R_new' (Kd.R_new' ho4 (Kd.R_lt (kr HO592.out))) (Kd.R_lt (kr HO595.out))) (below_size (tb HB))); have HO616 := Aside0.mk (Kd.R_lower (Kd.R_new' (Kd.R_new' ho5 (Kd.R_lt (kr HO592.out))) (Kd.R_lt (kr HO595.out))) (below_size (tb HB))); replace HO592 := Aside0.mk (Kd.R_mono (Kd.R_told (Kd.R_told (Kd.R_old (kr HO592.out) hb) (Kd.R_base ho4)) (Kd.R_base ho5)) (fun _ h_ => h_.1)); replace HO595 := Aside0.mk (Kd.R_mono (Kd.R_told (Kd.R_told (Kd.R_old (kr HO595.out) hb) (Kd.R_base ho4)) (Kd.R_base ho5)) (fun _ h_ => h_.1)); replace BK575 := bb BK575 hb; replace HB := bs HB hb; (try clear hb); (try clear ho0); (try clear ho1); (try clear ho2); (try clear ho3); (try clear ho4); (try clear ho5)) | ((with_reducible refine gq 5 rfl ?_); refine bx (N := 5) (cs := #[.slice none 0 0, .slice none 0 0, .slice none 0 0, .int .i64 0, .slice none 0 0, .slice none 0 0, .slice none 0 0, .int .i64 0]) (t := 75) ?_; intro gb618 hg w29 hbox hb; replace HO579 := rb HO579 hb; replace HO582 := Aside0.mk (Kd.S_below (by (with_reducible repeat (first | apply Kd.S_alloc | apply Kd.S_drewN | apply Kd.S_drew)); exact HO582.out) hb); replace HO585 := Aside0.mk (Kd.S_below (by (with_reducible repeat (first | apply Kd.S_alloc | apply Kd.S_drewN | apply Kd.S_drew)); exact HO585.out) hb); replace HO589 := Aside0.mk (Kd.S_below (by (with_reducible repeat (first | apply Kd.S_alloc | apply Kd.S_drewN | apply Kd.S_drew)); exact HO589.out) hb); replace HO592 := rb HO592 hb; replace HO595 := rb HO595 hb; replace HO600 := rb HO600 hb; replace HO603 := Aside0.mk (Kd.S_below (by (with_reducible repeat (first | apply Kd.S_alloc | apply Kd.S_drewN | apply Kd.S_drew)); exact HO603.out) hb); replace HO606 := Aside0.mk (Kd.S_below (by (with_reducible repeat (first | apply Kd.S_alloc | apply Kd.S_drewN | apply Kd.S_drew)); exact HO606.out) hb); replace HO610 := Aside0.mk (Kd.S_below (by (with_reducible repeat (first | apply Kd.S_alloc | apply Kd.S_drewN | apply Kd.S_drew)); exact HO610.out) hb); replace HO613 := rb HO613 hb; replace HO616 := rb HO616 hb; have BK618 := Aside0.mk (hbox); have GE618 := Aside0.mk (ge_ hg HB); replace HB := bs HB hb; have NB575_618 := Aside0.mk (nl_ hg BK575); have NB618_575 := Aside0.mk (ng_ hg BK575); replace BK575 := bb BK575 hb; clear hb hbox hg; obtain ⟨Ao30, co30, eo30⟩ := Kd.R_slice HO600.out; subst eo30; have hnb31 := NB618_575.out; have hnc31 := NB575_618.out; have hz32 := cs8_ BK618; obtain ⟨Ao33, co33, eo33⟩ := Kd.S_slice HO603.out; subst eo33; obtain ⟨Ao34, co34, eo34⟩ := Kd.S_slice HO606.out; subst eo34; obtain ⟨Ao35, co35, eo35⟩ := Kd.S_slice HO610.out; subst eo35; obtain ⟨Ao36, co36, eo36⟩ := Kd.R_slice HO613.out; subst eo36; obtain ⟨Ao37, co37, eo37⟩ := Kd.R_slice HO616.out; subst eo37) | ((with_reducible refine gf 27 rfl ?_); refine gL 18 Tryz.func27 #[.agg #[.slice Ao30 t598.length co30, .slice Ao33 t601.length co33, .slice Ao34 t604.length co34, .int .i64 t607, .slice Ao35 t608.length co35, .slice Ao36 t611.length co36, .slice Ao37 t614.length co37, .int .i64 t617]] ?_; (with_reducible refine (impl_MachineOk.calls k _ _ t598 _ _ t601 _ _ t604 t607 _ _ t608 _ _ t611 _ _ t614 t617 t619 _ ?side1 ?side2 ?side3 ?side4 ?side5 ?side6 ?side7 ?side8 ?side9 ?side10 ?side11 ?side12 A10.out).mono ?_); (case side1 => refine (Kd.R_reads' (e := 39) (base := w.heap.size) (ok := fun k_ => (True ∧ some k_ ≠ (.slice Ao20 t577.length co20 : Value).ownBlock)) (n := t598.length) (c := co30) ?_).2.2; exact (kr ((Kd.R_mono (Kd.R_far (p := ⟨gb618, 7, none⟩) (Kd.R_far (p := ⟨gb618, 6, none⟩) (Kd.R_far (p := ⟨gb618, 5, none⟩) (Kd.R_far (p := ⟨gb618, 4, none⟩) (Kd.R_far (p := ⟨gb618, 3, none⟩) (Kd.R_far (p := ⟨gb618, 2, none⟩) (Kd.R_far (p := ⟨gb618, 1, none⟩) (Kd.R_far (p := ⟨gb618, 0, none⟩) (Kd.R_types HO600.out BK618.out (by decide)) (fun _ hk => hk.2) (.slice Ao30 t598.length co30)) (fun _ hk => hk.2) (.slice Ao33 t601.length co33)) (fun _ hk => hk.2) (.slice Ao34 t604.length co34)) (fun _ hk => hk.2) (.int .i64 t607)) (fun _ hk => hk.2) (.slice Ao35 t608.length co35)) (fun _ hk => hk.2) (.slice Ao36 t611.length co36)) (fun _ hk => hk.2) (.slice Ao37 t614.length co37)) (fun _ hk => hk.2) (.int .i64 t617)) (fun _ h_ => h_.1))))); (case side2 => exact (Kd.R_reads' HO600.out).2.1); (case side3 => refine (Kd.S_reads' (e := 52) (base := w.heap.size) (ok := fun k_ => ((((some k_ ≠ (.slice Ao36 t611.length co36 : Value).ownBlock ∧ some k_ ≠ (.slice Ao37 t614.length co37 : Value).ownBlock) ∧ some k_ ≠ (.slice Ao21 t580.length co21 : Value).ownBlock) ∧ some k_ ≠ (.slice Ao24 t590.length co24 : Value).ownBlock) ∧ some k_ ≠ (.slice Ao25 t593.length co25 : Value).ownBlock)) (n := t601.length) (c := co33) ?_).2.2; exact (by (with_reducible repeat (first | apply Kd.S_alloc | apply Kd.S_drewN | apply Kd.S_drew)); exact (Kd.S_mono (Kd.S_far (p := ⟨gb618, 7, none⟩) (Kd.S_far (p := ⟨gb618, 6, none⟩) (Kd.S_far (p := ⟨gb618, 5, none⟩) (Kd.S_far (p := ⟨gb618, 4, none⟩) (Kd.S_far (p := ⟨gb618, 3, none⟩) (Kd.S_far (p := ⟨gb618, 2, none⟩) (Kd.S_far (p := ⟨gb618, 1, none⟩) (Kd.S_far (p := ⟨gb618, 0, none⟩) (Kd.S_types HO603.out BK618.out (by decide)) (fun _ hk => hk.2) (.slice Ao30 t598.length co30)) (fun _ hk => hk.2) (.slice Ao33 t601.length co33)) (fun _ hk => hk.2) (.slice Ao34 t604.length co34)) (fun _ hk => hk.2) (.int .i64 t607)) (fun _ hk => hk.2) (.slice Ao35 t608.length co35)) (fun _ hk => hk.2) (.slice Ao36 t611.length co36)) (fun _ hk => hk.2) (.slice Ao37 t614.length co37)) (fun _ hk => hk.2) (.int .i64 t617)) (fun _ h_ => h_.1)))); (case side4 => exact (Kd.S_reads' HO603.out).2.1); (case side5 => refine (Kd.S_reads' (e := 82) (base := w.heap.size) (ok := fun k_ => (True ∧ some k_ ≠ (.slice Ao22 t583.length co22 : Value).ownBlock)) (n := t604.length) (c := co34) ?_).2.2; exact (by (with_reducible repeat (first | apply Kd.S_alloc | apply Kd.S_drewN | apply Kd.S_drew)); exact (Kd.S_mono (Kd.S_far (p := ⟨gb618, 7, none⟩) (Kd.S_far (p := ⟨gb618, 6, none⟩) (Kd.S_far (p := ⟨gb618, 5, none⟩) (Kd.S_far (p := ⟨gb618, 4, none⟩) (Kd.S_far (p := ⟨gb618, 3, none⟩) (Kd.S_far (p := ⟨gb618, 2, none⟩) (Kd.S_far (p := ⟨gb618, 1, none⟩) (Kd.S_far (p := ⟨gb618, 0, none⟩) (Kd.S_types HO606.out BK618.out (by decide)) (fun _ hk => hk.2) (.slice Ao30 t598.length co30)) (fun _ hk => hk.2) (.slice Ao33 t601.length co33)) (fun _ hk => hk.2) (.slice Ao34 t604.length co34)) (fun _ hk => hk.2) (.int .i64 t607)) (fun _ hk => hk.2) (.slice Ao35 t608.length co35)) (fun _ hk => hk.2) (.slice Ao36 t611.length co36)) (fun _ hk => hk.2) (.slice Ao37 t614.length co37)) (fun _ hk => hk.2) (.int .i64 t617)) (fun _ h_ => h_.1)))); (case side6 => exact (Kd.S_reads' HO606.out).2.1); (case side7 => refine (Kd.S_reads' (e := 134) (base := w.heap.size) (ok := fun k_ => ((((some k_ ≠ (.slice Ao36 t611.length co36 : Value).ownBlock ∧ some k_ ≠ (.slice Ao37 t614.length co37 : Value).ownBlock) ∧ some k_ ≠ (.slice Ao23 t587.length co23 : Value).ownBlock) ∧ some k_ ≠ (.slice Ao24 t590.length co24 : Value).ownBlock) ∧ some k_ ≠ (.slice Ao25 t593.length co25 : Value).ownBlock)) (n := t608.length) (c := co35) ?_).2.2; exact (by (with_reducible repeat (first | apply Kd.S_alloc | apply Kd.S_drewN | apply Kd.S_drew)); exact (Kd.S_mono (Kd.S_far (p := ⟨gb618, 7, none⟩) (Kd.S_far (p := ⟨gb618, 6, none⟩) (Kd.S_far (p := ⟨gb618, 5, none⟩) (Kd.S_far (p := ⟨gb618, 4, none⟩) (Kd.S_far (p := ⟨gb618, 3, none⟩) (Kd.S_far (p := ⟨gb618, 2, none⟩) (Kd.S_far (p := ⟨gb618, 1, none⟩) (Kd.S_far (p := ⟨gb618, 0, none⟩) (Kd.S_types HO610.out BK618.out (by decide)) (fun _ hk => hk.2) (.slice Ao30 t598.length co30)) (fun _ hk => hk.2) (.slice Ao33 t601.length co33)) (fun _ hk => hk.2) (.slice Ao34 t604.length co34)) (fun _ hk => hk.2) (.int .i64 t607)) (fun _ hk => hk.2) (.slice Ao35 t608.length co35)) (fun _ hk => hk.2) (.slice Ao36 t611.length co36)) (fun _ hk => hk.2) (.slice Ao37 t614.length co37)) (fun _ hk => hk.2) (.int .i64 t617)) (fun _ h_ => h_.1)))); (case side8 => exact (Kd.S_reads' HO610.out).2.1); (case side9 => refine (Kd.R_reads' (e := 3) (base := w.heap.size) (ok := fun k_ => ((some k_ ≠ (.slice Ao37 t614.length co37 : Value).ownBlock ∧ some k_ ≠ (.slice Ao24 t590.length co24 : Value).ownBlock) ∧ some k_ ≠ (.slice Ao25 t593.length co25 : Value).ownBlock)) (n := t611.length) (c := co36) ?_).2.2; exact (kr ((Kd.R_mono (Kd.R_far (p := ⟨gb618, 7, none⟩) (Kd.R_far (p := ⟨gb618, 6, none⟩) (Kd.R_far (p := ⟨gb618, 5, none⟩) (Kd.R_far (p := ⟨gb618, 4, none⟩) (Kd.R_far (p := ⟨gb618, 3, none⟩) (Kd.R_far (p := ⟨gb618, 2, none⟩) (Kd.R_far (p := ⟨gb618, 1, none⟩) (Kd.R_far (p := ⟨gb618, 0, none⟩) (Kd.R_types HO613.out BK618.out (by decide)) (fun _ hk => hk.2) (.slice Ao30 t598.length co30)) (fun _ hk => hk.2) (.slice Ao33 t601.length co33)) (fun _ hk => hk.2) (.slice Ao34 t604.length co34)) (fun _ hk => hk.2) (.int .i64 t607)) (fun _ hk => hk.2) (.slice Ao35 t608.length co35)) (fun _ hk => hk.2) (.slice Ao36 t611.length co36)) (fun _ hk => hk.2) (.slice Ao37 t614.length co37)) (fun _ hk => hk.2) (.int .i64 t617)) (fun _ h_ => h_.1))))); (case side10 => exact (Kd.R_reads' HO613.out).2.1); (case side11 => refine (Kd.R_reads' (e := 3) (base := w.heap.size) (ok := fun k_ => ((some k_ ≠ (.slice Ao36 t611.length co36 : Value).ownBlock ∧ some k_ ≠ (.slice Ao24 t590.length co24 : Value).ownBlock) ∧ some k_ ≠ (.slice Ao25 t593.length co25 : Value).ownBlock)) (n := t614.length) (c := co37) ?_).2.2; exact (kr ((Kd.R_mono (Kd.R_far (p := ⟨gb618, 7, none⟩) (Kd.R_far (p := ⟨gb618, 6, none⟩) (Kd.R_far (p := ⟨gb618, 5, none⟩) (Kd.R_far (p := ⟨gb618, 4, none⟩) (Kd.R_far (p := ⟨gb618, 3, none⟩) (Kd.R_far (p := ⟨gb618, 2, none⟩) (Kd.R_far (p := ⟨gb618, 1, none⟩) (Kd.R_far (p := ⟨gb618, 0, none⟩) (Kd.R_types HO616.out BK618.out (by decide)) (fun _ hk => hk.2) (.slice Ao30 t598.length co30)) (fun _ hk => hk.2) (.slice Ao33 t601.length co33)) (fun _ hk => hk.2) (.slice Ao34 t604.length co34)) (fun _ hk => hk.2) (.int .i64 t607)) (fun _ hk => hk.2) (.slice Ao35 t608.length co35)) (fun _ hk => hk.2) (.slice Ao36 t611.length co36)) (fun _ hk => hk.2) (.slice Ao37 t614.length co37)) (fun _ hk => hk.2) (.int .i64 t617)) (fun _ h_ => h_.1))))); (case side12 => exact (Kd.R_reads' HO616.out).2.1); rintro e w38 ⟨rfl, hb⟩; refine ⟨_, rfl, ?_⟩; replace HO579 := Aside0.mk (Kd.R_below (kr ((Kd.R_mono (Kd.R_far (p := ⟨gb618, 7, none⟩) (Kd.R_far (p := ⟨gb618, 6, none⟩) (Kd.R_far (p := ⟨gb618, 5, none⟩) (Kd.R_far (p := ⟨gb618, 4, none⟩) (Kd.R_far (p := ⟨gb618, 3, none⟩) (Kd.R_far (p := ⟨gb618, 2, none⟩) (Kd.R_far (p := ⟨gb618, 1, none⟩) (Kd.R_far (p := ⟨gb618, 0, none⟩) (Kd.R_types HO579.out BK618.out (by decide)) (fun _ hk => hk.2) (.slice Ao30 t598.length co30)) (fun _ hk => hk.2) (.slice Ao33 t601.length co33)) (fun _ hk => hk.2) (.slice Ao34 t604.length co34)) (fun _ hk => hk.2) (.int .i64 t607)) (fun _ hk => hk.2) (.slice Ao35 t608.length co35)) (fun _ hk => hk.2) (.slice Ao36 t611.length co36)) (fun _ hk => hk.2) (.slice Ao37 t614.length co37)) (fun _ hk => hk.2) (.int .i64 t617)) (fun _ h_ => h_.1)))) hb); replace HO582 := Aside0.mk (Kd.S_below (by (with_reducible repeat (first | apply Kd.S_alloc | apply Kd.S_drewN | apply Kd.S_drew)); exact (Kd.S_mono (Kd.S_far (p := ⟨gb618, 7, none⟩) (Kd.S_far (p := ⟨gb618, 6, none⟩) (Kd.S_far (p := ⟨gb618, 5, none⟩) (Kd.S_far (p := ⟨gb618, 4, none⟩) (Kd.S_far (p := ⟨gb618, 3, none⟩) (Kd.S_far (p := ⟨gb618, 2, none⟩) (Kd.S_far (p := ⟨gb618, 1, none⟩) (Kd.S_far (p := ⟨gb618, 0, none⟩) (Kd.S_types HO582.out BK618.out (by decide)) (fun _ hk => hk.2) (.slice Ao30 t598.length co30)) (fun _ hk => hk.2) (.slice Ao33 t601.length co33)) (fun _ hk => hk.2) (.slice Ao34 t604.length co34)) (fun _ hk => hk.2) (.int .i64 t607)) (fun _ hk => hk.2) (.slice Ao35 t608.length co35)) (fun _ hk => hk.2) (.slice Ao36 t611.length co36)) (fun _ hk => hk.2) (.slice Ao37 t614.length co37)) (fun _ hk => hk.2) (.int .i64 t617)) (fun _ h_ => h_.1))) hb); replace HO585 := Aside0.mk (Kd.S_below (by (with_reducible repeat (first | apply Kd.S_alloc | apply Kd.S_drewN | apply Kd.S_drew)); exact (Kd.S_mono (Kd.S_far (p := ⟨gb618, 7, none⟩) (Kd.S_far (p := ⟨gb618, 6, none⟩) (Kd.S_far (p := ⟨gb618, 5, none⟩) (Kd.S_far (p := ⟨gb618, 4, none⟩) (Kd.S_far (p := ⟨gb618, 3, none⟩) (Kd.S_far (p := ⟨gb618, 2, none⟩) (Kd.S_far (p := ⟨gb618, 1, none⟩) (Kd.S_far (p := ⟨gb618, 0, none⟩) (Kd.S_types HO585.out BK618.out (by decide)) (fun _ hk => hk.2) (.slice Ao30 t598.length co30)) (fun _ hk => hk.2) (.slice Ao33 t601.length co33)) (fun _ hk => hk.2) (.slice Ao34 t604.length co34)) (fun _ hk => hk.2) (.int .i64 t607)) (fun _ hk => hk.2) (.slice Ao35 t608.length co35)) (fun _ hk => hk.2) (.slice Ao36 t611.length co36)) (fun _ hk => hk.2) (.slice Ao37 t614.length co37)) (fun _ hk => hk.2) (.int .i64 t617)) (fun _ h_ => h_.1))) hb); replace HO589 := Aside0.mk (Kd.S_below (by (with_reducible repeat (first | apply Kd.S_alloc | apply Kd.S_drewN | apply Kd.S_drew)); exact (Kd.S_mono (Kd.S_far (p := ⟨gb618, 7, none⟩) (Kd.S_far (p := ⟨gb618, 6, none⟩) (Kd.S_far (p := ⟨gb618, 5, none⟩) (Kd.S_far (p := ⟨gb618, 4, none⟩) (Kd.S_far (p := ⟨gb618, 3, none⟩) (Kd.S_far (p := ⟨gb618, 2, none⟩) (Kd.S_far (p := ⟨gb618, 1, none⟩) (Kd.S_far (p := ⟨gb618, 0, none⟩) (Kd.S_types HO589.out BK618.out (by decide)) (fun _ hk => hk.2) (.slice Ao30 t598.length co30)) (fun _ hk => hk.2) (.slice Ao33 t601.length co33)) (fun _ hk => hk.2) (.slice Ao34 t604.length co34)) (fun _ hk => hk.2) (.int .i64 t607)) (fun _ hk => hk.2) (.slice Ao35 t608.length co35)) (fun _ hk => hk.2) (.slice Ao36 t611.length co36)) (fun _ hk => hk.2) (.slice Ao37 t614.length co37)) (fun _ hk => hk.2) (.int .i64 t617)) (fun _ h_ => h_.1))) hb); replace HO592 := Aside0.mk (Kd.R_below (kr ((Kd.R_mono (Kd.R_far (p := ⟨gb618, 7, none⟩) (Kd.R_far (p := ⟨gb618, 6, none⟩) (Kd.R_far (p := ⟨gb618, 5, none⟩) (Kd.R_far (p := ⟨gb618, 4, none⟩) (Kd.R_far (p := ⟨gb618, 3, none⟩) (Kd.R_far (p := ⟨gb618, 2, none⟩) (Kd.R_far (p := ⟨gb618, 1, none⟩) (Kd.R_far (p := ⟨gb618, 0, none⟩) (Kd.R_types HO592.out BK618.out (by decide)) (fun _ hk => hk.2) (.slice Ao30 t598.length co30)) (fun _ hk => hk.2) (.slice Ao33 t601.length co33)) (fun _ hk => hk.2) (.slice Ao34 t604.length co34)) (fun _ hk => hk.2) (.int .i64 t607)) (fun _ hk => hk.2) (.slice Ao35 t608.length co35)) (fun _ hk => hk.2) (.slice Ao36 t611.length co36)) (fun _ hk => hk.2) (.slice Ao37 t614.length co37)) (fun _ hk => hk.2) (.int .i64 t617)) (fun _ h_ => h_.1)))) hb); replace HO595 := Aside0.mk (Kd.R_below (kr ((Kd.R_mono (Kd.R_far (p := ⟨gb618, 7, none⟩) (Kd.R_far (p := ⟨gb618, 6, none⟩) (Kd.R_far (p := ⟨gb618, 5, none⟩) (Kd.R_far (p := ⟨gb618, 4, none⟩) (Kd.R_far (p := ⟨gb618, 3, none⟩) (Kd.R_far (p := ⟨gb618, 2, none⟩) (Kd.R_far (p := ⟨gb618, 1, none⟩) (Kd.R_far (p := ⟨gb618, 0, none⟩) (Kd.R_types HO595.out BK618.out (by decide)) (fun _ hk => hk.2) (.slice Ao30 t598.length co30)) (fun _ hk => hk.2) (.slice Ao33 t601.length co33)) (fun _ hk => hk.2) (.slice Ao34 t604.length co34)) (fun _ hk => hk.2) (.int .i64 t607)) (fun _ hk => hk.2) (.slice Ao35 t608.length co35)) (fun _ hk => hk.2) (.slice Ao36 t611.length co36)) (fun _ hk => hk.2) (.slice Ao37 t614.length co37)) (fun _ hk => hk.2) (.int .i64 t617)) (fun _ h_ => h_.1)))) hb); replace HO600 := Aside0.mk (Kd.R_below (kr ((Kd.R_mono (Kd.R_far (p := ⟨gb618, 7, none⟩) (Kd.R_far (p := ⟨gb618, 6, none⟩) (Kd.R_far (p := ⟨gb618, 5, none⟩) (Kd.R_far (p := ⟨gb618, 4, none⟩) (Kd.R_far (p := ⟨gb618, 3, none⟩) (Kd.R_far (p := ⟨gb618, 2, none⟩) (Kd.R_far (p := ⟨gb618, 1, none⟩) (Kd.R_far (p := ⟨gb618, 0, none⟩) (Kd.R_types HO600.out BK618.out (by decide)) (fun _ hk => hk.2) (.slice Ao30 t598.length co30)) (fun _ hk => hk.2) (.slice Ao33 t601.length co33)) (fun _ hk => hk.2) (.slice Ao34 t604.length co34)) (fun _ hk => hk.2) (.int .i64 t607)) (fun _ hk => hk.2) (.slice Ao35 t608.length co35)) (fun _ hk => hk.2) (.slice Ao36 t611.length co36)) (fun _ hk => hk.2) (.slice Ao37 t614.length co37)) (fun _ hk => hk.2) (.int .i64 t617)) (fun _ h_ => h_.1)))) hb); replace HO603 := Aside0.mk (Kd.S_below (by (with_reducible repeat (first | apply Kd.S_alloc | apply Kd.S_drewN | apply Kd.S_drew)); exact (Kd.S_mono (Kd.S_far (p := ⟨gb618, 7, none⟩) (Kd.S_far (p := ⟨gb618, 6, none⟩) (Kd.S_far (p := ⟨gb618, 5, none⟩) (Kd.S_far (p := ⟨gb618, 4, none⟩) (Kd.S_far (p := ⟨gb618, 3, none⟩) (Kd.S_far (p := ⟨gb618, 2, none⟩) (Kd.S_far (p := ⟨gb618, 1, none⟩) (Kd.S_far (p := ⟨gb618, 0, none⟩) (Kd.S_types HO603.out BK618.out (by decide)) (fun _ hk => hk.2) (.slice Ao30 t598.length co30)) (fun _ hk => hk.2) (.slice Ao33 t601.length co33)) (fun _ hk => hk.2) (.slice Ao34 t604.length co34)) (fun _ hk => hk.2) (.int .i64 t607)) (fun _ hk => hk.2) (.slice Ao35 t608.length co35)) (fun _ hk => hk.2) (.slice Ao36 t611.length co36)) (fun _ hk => hk.2) (.slice Ao37 t614.length co37)) (fun _ hk => hk.2) (.int .i64 t617)) (fun _ h_ => h_.1))) hb); replace HO606 := Aside0.mk (Kd.S_below (by (with_reducible repeat (first | apply Kd.S_alloc | apply Kd.S_drewN | apply Kd.S_drew)); exact (Kd.S_mono (Kd.S_far (p := ⟨gb618, 7, none⟩) (Kd.S_far (p := ⟨gb618, 6, none⟩) (Kd.S_far (p := ⟨gb618, 5, none⟩) (Kd.S_far (p := ⟨gb618, 4, none⟩) (Kd.S_far (p := ⟨gb618, 3, none⟩) (Kd.S_far (p := ⟨gb618, 2, none⟩) (Kd.S_far (p := ⟨gb618, 1, none⟩) (Kd.S_far (p := ⟨gb618, 0, none⟩) (Kd.S_types HO606.out BK618.out (by decide)) (fun _ hk => hk.2) (.slice Ao30 t598.length co30)) (fun _ hk => hk.2) (.slice Ao33 t601.length co33)) (fun _ hk => hk.2) (.slice Ao34 t604.length co34)) (fun _ hk => hk.2) (.int .i64 t607)) (fun _ hk => hk.2) (.slice Ao35 t608.length co35)) (fun _ hk => hk.2) (.slice Ao36 t611.length co36)) (fun _ hk => hk.2) (.slice Ao37 t614.length co37)) (fun _ hk => hk.2) (.int .i64 t617)) (fun _ h_ => h_.1))) hb); replace HO610 := Aside0.mk (Kd.S_below (by (with_reducible repeat (first | apply Kd.S_alloc | apply Kd.S_drewN | apply Kd.S_drew)); exact (Kd.S_mono (Kd.S_far (p := ⟨gb618, 7, none⟩) (Kd.S_far (p := ⟨gb618, 6, none⟩) (Kd.S_far (p := ⟨gb618, 5, none⟩) (Kd.S_far (p := ⟨gb618, 4, none⟩) (Kd.S_far (p := ⟨gb618, 3, none⟩) (Kd.S_far (p := ⟨gb618, 2, none⟩) (Kd.S_far (p := ⟨gb618, 1, none⟩) (Kd.S_far (p := ⟨gb618, 0, none⟩) (Kd.S_types HO610.out BK618.out (by decide)) (fun _ hk => hk.2) (.slice Ao30 t598.length co30)) (fun _ hk => hk.2) (.slice Ao33 t601.length co33)) (fun _ hk => hk.2) (.slice Ao34 t604.length co34)) (fun _ hk => hk.2) (.int .i64 t607)) (fun _ hk => hk.2) (.slice Ao35 t608.length co35)) (fun _ hk => hk.2) (.slice Ao36 t611.length co36)) (fun _ hk => hk.2) (.slice Ao37 t614.length co37)) (fun _ hk => hk.2) (.int .i64 t617)) (fun _ h_ => h_.1))) hb); replace HO613 := Aside0.mk (Kd.R_below (kr ((Kd.R_mono (Kd.R_far (p := ⟨gb618, 7, none⟩) (Kd.R_far (p := ⟨gb618, 6, none⟩) (Kd.R_far (p := ⟨gb618, 5, none⟩) (Kd.R_far (p := ⟨gb618, 4, none⟩) (Kd.R_far (p := ⟨gb618, 3, none⟩) (Kd.R_far (p := ⟨gb618, 2, none⟩) (Kd.R_far (p := ⟨gb618, 1, none⟩) (Kd.R_far (p := ⟨gb618, 0, none⟩) (Kd.R_types HO613.out BK618.out (by decide)) (fun _ hk => hk.2) (.slice Ao30 t598.length co30)) (fun _ hk => hk.2) (.slice Ao33 t601.length co33)) (fun _ hk => hk.2) (.slice Ao34 t604.length co34)) (fun _ hk => hk.2) (.int .i64 t607)) (fun _ hk => hk.2) (.slice Ao35 t608.length co35)) (fun _ hk => hk.2) (.slice Ao36 t611.length co36)) (fun _ hk => hk.2) (.slice Ao37 t614.length co37)) (fun _ hk => hk.2) (.int .i64 t617)) (fun _ h_ => h_.1)))) hb); replace HO616 := Aside0.mk (Kd.R_below (kr ((Kd.R_mono (Kd.R_far (p := ⟨gb618, 7, none⟩) (Kd.R_far (p := ⟨gb618, 6, none⟩) (Kd.R_far (p := ⟨gb618, 5, none⟩) (Kd.R_far (p := ⟨gb618, 4, none⟩) (Kd.R_far (p := ⟨gb618, 3, none⟩) (Kd.R_far (p := ⟨gb618, 2, none⟩) (Kd.R_far (p := ⟨gb618, 1, none⟩) (Kd.R_far (p := ⟨gb618, 0, none⟩) (Kd.R_types HO616.out BK618.out (by decide)) (fun _ hk => hk.2) (.slice Ao30 t598.length co30)) (fun _ hk => hk.2) (.slice Ao33 t601.length co33)) (fun _ hk => hk.2) (.slice Ao34 t604.length co34)) (fun _ hk => hk.2) (.int .i64 t607)) (fun _ hk => hk.2) (.slice Ao35 t608.length co35)) (fun _ hk => hk.2) (.slice Ao36 t611.length co36)) (fun _ hk => hk.2) (.slice Ao37 t614.length co37)) (fun _ hk => hk.2) (.int .i64 t617)) (fun _ h_ => h_.1)))) hb); replace BK575 := bbf BK575 hb; replace BK618 := bbp8 BK618 hb; replace HB := bs HB hb; (try clear hb); (try clear hk)))
 replace HO579 := rd_ HO579
 replace HO582 := Aside0.mk (Kd.S_drew HO582.out)
 replace HO585 := Aside0.mk (Kd.S_drew HO585.out)
 replace HO589 := Aside0.mk (Kd.S_drew HO589.out)
 replace HO592 := rd_ HO592
 replace HO595 := rd_ HO595
 replace HO600 := rd_ HO600
 replace HO603 := Aside0.mk (Kd.S_drew HO603.out)
 replace HO606 := Aside0.mk (Kd.S_drew HO606.out)
 replace HO610 := Aside0.mk (Kd.S_drew HO610.out)
 replace HO613 := rd_ HO613
 replace HO616 := rd_ HO616
 replace BK575 := bd BK575
 replace BK618 := bd BK618
 replace HB := Aside0.mk (below_drew1 HB.out)
 refine start_ (n := 5) (S := fun w' => cS8 gb618 (.slice Ao30 t598.length co30) (.slice Ao33 t601.length co33) (.slice Ao34 t604.length co34) (.int .i64 t607) (.slice Ao35 t608.length co35) (.slice Ao36 t611.length co36) (.slice Ao37 t614.length co37) (.int .i64 t617) w' ∧ cS8 gb575 (.slice A0_0 l0_0.length c0_0) (.slice A0_1 l0_1.length c0_1) (.slice A0_2 l0_2.length c0_2) (.int .i64 a0_3) (.slice A0_4 l0_4.length c0_4) (.slice A0_5 l0_5.length c0_5) (.slice A0_6 l0_6.length c0_6) (.int .i64 a0_7) w') (ds := []) #[false, false, false, false, false] (by kernel_rfl) rfl rfl ⟨ds8_ BK618, ds8_ BK575⟩ (fun hHeld => ?_)
 generalize w38.drew = w39 at HO579 HO582 HO585 HO589 HO592 HO595 HO600 HO603 HO606 HO610 HO613 HO616 BK575 BK618 HB hHeld ⊢
 refine ta 0 22 ?_; refine ta 1 23 ?_
 refine one_ (i := 2) (N := some 24) #[true, true, true, false, false] rfl rfl (by kernel_rfl) (by decide) (fun K hK => ?_)
 refine gS Tryz.func26 #[.agg #[.slice A0_0 l0_0.length c0_0, .slice A0_1 l0_1.length c0_1, .slice A0_2 l0_2.length c0_2, .int .i64 a0_3, .slice A0_4 l0_4.length c0_4, .slice A0_5 l0_5.length c0_5, .slice A0_6 l0_6.length c0_6, .int .i64 a0_7]] ?_
 with_reducible refine (laws_toMachine.calls k _ _ l0_0 _ _ l0_1 _ _ l0_2 a0_3 _ _ l0_4 _ _ l0_5 _ _ l0_6 a0_7 t620 t623 t626 t629 t630 t633 t636 t639 _ ?side1 ?side2 ?side3 ?side4 ?side5 ?side6 ?side7 ?side8 ?side9 ?side10 ?side11 ?side12 A12.out).mono ?_
 (case side1 => exact kc HR0_0 HB)
 (case side2 => exact HC0_0.out)
 (case side3 => exact kc HR0_1 HB)
 (case side4 => exact HC0_1.out)
 (case side5 => exact kc HR0_2 HB)
 (case side6 => exact HC0_2.out)
 (case side7 => exact kc HR0_4 HB)
 (case side8 => exact HC0_4.out)
 (case side9 => exact kc HR0_5 HB)
 (case side10 => exact HC0_5.out)
 (case side11 => exact kc HR0_6 HB)
 (case side12 => exact HC0_6.out)
 rintro e w40 ⟨v621, v624, v627, v631, v634, v637, rfl, ho0, ho1, ho2, ho3, ho4, ho5, hb⟩
 refine ⟨_, rfl, ?_⟩
 have HO622 := Aside0.mk (Kd.R_lower (Kd.R_new' (Kd.R_new' ho0 (Kd.R_lt (kr HO579.out))) (Kd.R_lt (kr HO600.out))) (below_size (tb HB)))
 replace HO579 := Aside0.mk (Kd.R_elder' (kr HO579.out) (Kd.R_base ho0) hb)
 replace HO600 := Aside0.mk (Kd.R_elder' (kr HO600.out) (Kd.R_base ho0) hb)
 have HO625 := Aside0.mk (Kd.S_lower (Kd.S_new' (Kd.S_new' (Kd.S_new' (Kd.S_new' (Kd.S_new' (Kd.S_new' ho1 (Kd.S_lt (by (with_reducible repeat (first | apply Kd.S_alloc | apply Kd.S_drewN | apply Kd.S_drew)); exact HO582.out))) (Kd.R_lt (kr HO592.out))) (Kd.R_lt (kr HO595.out))) (Kd.S_lt (by (with_reducible repeat (first | apply Kd.S_alloc | apply Kd.S_drewN | apply Kd.S_drew)); exact HO603.out))) (Kd.R_lt (kr HO613.out))) (Kd.R_lt (kr HO616.out))) (below_size (tb HB)))
 replace HO582 := Aside0.mk (Kd.S_mono (Kd.S_told (Kd.S_told (Kd.S_told (Kd.S_old (by (with_reducible repeat (first | apply Kd.S_alloc | apply Kd.S_drewN | apply Kd.S_drew)); exact HO582.out) hb) (Kd.S_base ho1)) (Kd.R_base ho4)) (Kd.R_base ho5)) (fun _ h_ => h_.1))
 replace HO603 := Aside0.mk (Kd.S_mono (Kd.S_told (Kd.S_told (Kd.S_told (Kd.S_old (by (with_reducible repeat (first | apply Kd.S_alloc | apply Kd.S_drewN | apply Kd.S_drew)); exact HO603.out) hb) (Kd.S_base ho1)) (Kd.R_base ho4)) (Kd.R_base ho5)) (fun _ h_ => h_.1))
 have HO628 := Aside0.mk (Kd.S_lower (Kd.S_new' (Kd.S_new' ho2 (Kd.S_lt (by (with_reducible repeat (first | apply Kd.S_alloc | apply Kd.S_drewN | apply Kd.S_drew)); exact HO585.out))) (Kd.S_lt (by (with_reducible repeat (first | apply Kd.S_alloc | apply Kd.S_drewN | apply Kd.S_drew)); exact HO606.out))) (below_size (tb HB)))
 replace HO585 := Aside0.mk (Kd.S_elder' (by (with_reducible repeat (first | apply Kd.S_alloc | apply Kd.S_drewN | apply Kd.S_drew)); exact HO585.out) (Kd.S_base ho2) hb)
 replace HO606 := Aside0.mk (Kd.S_elder' (by (with_reducible repeat (first | apply Kd.S_alloc | apply Kd.S_drewN | apply Kd.S_drew)); exact HO606.out) (Kd.S_base ho2) hb)
 have HO632 := Aside0.mk (Kd.S_lower (Kd.S_new' (Kd.S_new' (Kd.S_new' (Kd.S_new' (Kd.S_new' (Kd.S_new' ho3 (Kd.S_lt (by (with_reducible repeat (first | apply Kd.S_alloc | apply Kd.S_drewN | apply Kd.S_drew)); exact HO589.out))) (Kd.R_lt (kr HO592.out))) (Kd.R_lt (kr HO595.out))) (Kd.S_lt (by (with_reducible repeat (first | apply Kd.S_alloc | apply Kd.S_drewN | apply Kd.S_drew)); exact HO610.out))) (Kd.R_lt (kr HO613.out))) (Kd.R_lt (kr HO616.out))) (below_size (tb HB)))
 replace HO589 := Aside0.mk (Kd.S_mono (Kd.S_told (Kd.S_told (Kd.S_told (Kd.S_old (by (with_reducible repeat (first | apply Kd.S_alloc | apply Kd.S_drewN | apply Kd.S_drew)); exact HO589.out) hb) (Kd.S_base ho3)) (Kd.R_base ho4)) (Kd.R_base ho5)) (fun _ h_ => h_.1))
 replace HO610 := Aside0.mk (Kd.S_mono (Kd.S_told (Kd.S_told (Kd.S_told (Kd.S_old (by (with_reducible repeat (first | apply Kd.S_alloc | apply Kd.S_drewN | apply Kd.S_drew)); exact HO610.out) hb) (Kd.S_base ho3)) (Kd.R_base ho4)) (Kd.R_base ho5)) (fun _ h_ => h_.1))
 have HO635 := Aside0.mk (Kd.R_lower (Kd.R_new' (Kd.R_new' (Kd.R_new' (Kd.R_new' ho4 (Kd.R_lt (kr HO592.out))) (Kd.R_lt (kr HO595.out))) (Kd.R_lt (kr HO613.out))) (Kd.R_lt (kr HO616.out))) (below_size (tb HB)))
 have HO638 := Aside0.mk (Kd.R_lower (Kd.R_new' (Kd.R_new' (Kd.R_new' (Kd.R_new' ho5 (Kd.R_lt (kr HO592.out))) (Kd.R_lt (kr HO595.out))) (Kd.R_lt (kr HO613.out))) (Kd.R_lt (kr HO616.out))) (below_size (tb HB)))
 replace HO592 := Aside0.mk (Kd.R_mono (Kd.R_told (Kd.R_told (Kd.R_old (kr HO592.out) hb) (Kd.R_base ho4)) (Kd.R_base ho5)) (fun _ h_ => h_.1))
 replace HO595 := Aside0.mk (Kd.R_mono (Kd.R_told (Kd.R_told (Kd.R_old (kr HO595.out) hb) (Kd.R_base ho4)) (Kd.R_base ho5)) (fun _ h_ => h_.1))
 replace HO613 := Aside0.mk (Kd.R_mono (Kd.R_told (Kd.R_told (Kd.R_old (kr HO613.out) hb) (Kd.R_base ho4)) (Kd.R_base ho5)) (fun _ h_ => h_.1))
 replace HO616 := Aside0.mk (Kd.R_mono (Kd.R_told (Kd.R_told (Kd.R_old (kr HO616.out) hb) (Kd.R_base ho4)) (Kd.R_base ho5)) (fun _ h_ => h_.1))
 replace BK575 := bb BK575 hb
 replace BK618 := bb BK618 hb
 replace HB := bs HB hb
 (try clear hb)
 (try clear hb2)
 (try clear hk)
 (try clear hi)
 (try clear ho0)
 (try clear ho1)
 (try clear ho2)
 (try clear ho3)
 (try clear ho4)
 (try clear ho5)
 obtain ⟨Ao41, co41, eo41⟩ := Kd.R_slice HO622.out
 (first | subst eo41 | (injection eo41 with f1_ f2_ f3_; have f4_ := f1_.symm; have f5_ := f3_.symm; clear f1_ f2_ f3_; subst f4_; subst f5_))
 obtain ⟨Ao42, co42, eo42⟩ := Kd.S_slice HO625.out
 (first | subst eo42 | (injection eo42 with f1_ f2_ f3_; have f4_ := f1_.symm; have f5_ := f3_.symm; clear f1_ f2_ f3_; subst f4_; subst f5_))
 obtain ⟨Ao43, co43, eo43⟩ := Kd.S_slice HO628.out
 (first | subst eo43 | (injection eo43 with f1_ f2_ f3_; have f4_ := f1_.symm; have f5_ := f3_.symm; clear f1_ f2_ f3_; subst f4_; subst f5_))
 obtain ⟨Ao44, co44, eo44⟩ := Kd.S_slice HO632.out
 (first | subst eo44 | (injection eo44 with f1_ f2_ f3_; have f4_ := f1_.symm; have f5_ := f3_.symm; clear f1_ f2_ f3_; subst f4_; subst f5_))
 obtain ⟨Ao45, co45, eo45⟩ := Kd.R_slice HO635.out
 (first | subst eo45 | (injection eo45 with f1_ f2_ f3_; have f4_ := f1_.symm; have f5_ := f3_.symm; clear f1_ f2_ f3_; subst f4_; subst f5_))
 obtain ⟨Ao46, co46, eo46⟩ := Kd.R_slice HO638.out
 (first | subst eo46 | (injection eo46 with f1_ f2_ f3_; have f4_ := f1_.symm; have f5_ := f3_.symm; clear f1_ f2_ f3_; subst f4_; subst f5_))
 refine hK.out _ _ ⟨ds8_ BK618, ds8_ BK575⟩ (fun hHeld => ?_)
 clear hK K
 refine nm 24 ?_
 refine one_ (i := 3) (N := some 25) #[true, true, true, true, false] rfl rfl (by kernel_rfl) (by decide) (fun K hK => ?_)
 refine gS Tryz.func28 #[.agg #[.slice Ao30 t598.length co30, .slice Ao33 t601.length co33, .slice Ao34 t604.length co34, .int .i64 t607, .slice Ao35 t608.length co35, .slice Ao36 t611.length co36, .slice Ao37 t614.length co37, .int .i64 t617], .agg #[.slice Ao41 t620.length co41, .slice Ao42 t623.length co42, .slice Ao43 t626.length co43, .int .i64 t629, .slice Ao44 t630.length co44, .slice Ao45 t633.length co45, .slice Ao46 t636.length co46, .int .i64 t639]] ?_
 with_reducible refine (laws_eqMachine.calls k _ _ t598 _ _ t601 _ _ t604 t607 _ _ t608 _ _ t611 _ _ t614 t617 _ _ t620 _ _ t623 _ _ t626 t629 _ _ t630 _ _ t633 _ _ t636 t639 true _ ?side1 ?side2 ?side3 ?side4 ?side5 ?side6 ?side7 ?side8 ?side9 ?side10 ?side11 ?side12 ?side13 ?side14 ?side15 ?side16 ?side17 ?side18 ?side19 ?side20 ?side21 ?side22 ?side23 ?side24 A13.out).mono ?_
 (case side1 => repeat (first | exact (Kd.R_reads' HO600.out).2.2 | (with_reducible refine Kd.C_alloc ?_ _) | (with_reducible refine Kd.C_drewN ?_ _) | (with_reducible refine Kd.C_drew ?_)))
 (case side2 => exact (Kd.R_reads' HO600.out).2.1)
 (case side3 => repeat (first | exact (Kd.S_reads' HO603.out).2.2 | (with_reducible refine Kd.C_alloc ?_ _) | (with_reducible refine Kd.C_drewN ?_ _) | (with_reducible refine Kd.C_drew ?_)))
 (case side4 => exact (Kd.S_reads' HO603.out).2.1)
 (case side5 => repeat (first | exact (Kd.S_reads' HO606.out).2.2 | (with_reducible refine Kd.C_alloc ?_ _) | (with_reducible refine Kd.C_drewN ?_ _) | (with_reducible refine Kd.C_drew ?_)))
 (case side6 => exact (Kd.S_reads' HO606.out).2.1)
 (case side7 => repeat (first | exact (Kd.S_reads' HO610.out).2.2 | (with_reducible refine Kd.C_alloc ?_ _) | (with_reducible refine Kd.C_drewN ?_ _) | (with_reducible refine Kd.C_drew ?_)))
 (case side8 => exact (Kd.S_reads' HO610.out).2.1)
 (case side9 => repeat (first | exact (Kd.R_reads' HO613.out).2.2 | (with_reducible refine Kd.C_alloc ?_ _) | (with_reducible refine Kd.C_drewN ?_ _) | (with_reducible refine Kd.C_drew ?_)))
 (case side10 => exact (Kd.R_reads' HO613.out).2.1)
 (case side11 => repeat (first | exact (Kd.R_reads' HO616.out).2.2 | (with_reducible refine Kd.C_alloc ?_ _) | (with_reducible refine Kd.C_drewN ?_ _) | (with_reducible refine Kd.C_drew ?_)))
 (case side12 => exact (Kd.R_reads' HO616.out).2.1)
 (case side13 => repeat (first | exact (Kd.R_reads' HO622.out).2.2 | (with_reducible refine Kd.C_alloc ?_ _) | (with_reducible refine Kd.C_drewN ?_ _) | (with_reducible refine Kd.C_drew ?_)))
 (case side14 => exact (Kd.R_reads' HO622.out).2.1)
 (case side15 => repeat (first | exact (Kd.S_reads' HO625.out).2.2 | (with_reducible refine Kd.C_alloc ?_ _) | (with_reducible refine Kd.C_drewN ?_ _) | (with_reducible refine Kd.C_drew ?_)))
 (case side16 => exact (Kd.S_reads' HO625.out).2.1)
 (case side17 => repeat (first | exact (Kd.S_reads' HO628.out).2.2 | (with_reducible refine Kd.C_alloc ?_ _) | (with_reducible refine Kd.C_drewN ?_ _) | (with_reducible refine Kd.C_drew ?_)))
 (case side18 => exact (Kd.S_reads' HO628.out).2.1)
 (case side19 => repeat (first | exact (Kd.S_reads' HO632.out).2.2 | (with_reducible refine Kd.C_alloc ?_ _) | (with_reducible refine Kd.C_drewN ?_ _) | (with_reducible refine Kd.C_drew ?_)))
 (case side20 => exact (Kd.S_reads' HO632.out).2.1)
 (case side21 => repeat (first | exact (Kd.R_reads' HO635.out).2.2 | (with_reducible refine Kd.C_alloc ?_ _) | (with_reducible refine Kd.C_drewN ?_ _) | (with_reducible refine Kd.C_drew ?_)))
 (case side22 => exact (Kd.R_reads' HO635.out).2.1)
 (case side23 => repeat (first | exact (Kd.R_reads' HO638.out).2.2 | (with_reducible refine Kd.C_alloc ?_ _) | (with_reducible refine Kd.C_drewN ?_ _) | (with_reducible refine Kd.C_drew ?_)))
 (case side24 => exact (Kd.R_reads' HO638.out).2.1)
 rintro e w47 ⟨rfl, hb⟩
 refine ⟨_, rfl, ?_⟩
 replace HO579 := rb HO579 hb
 replace HO582 := Aside0.mk (Kd.S_below (by (with_reducible repeat (first | apply Kd.S_alloc | apply Kd.S_drewN | apply Kd.S_drew)); exact HO582.out) hb)
 replace HO585 := Aside0.mk (Kd.S_below (by (with_reducible repeat (first | apply Kd.S_alloc | apply Kd.S_drewN | apply Kd.S_drew)); exact HO585.out) hb)
 replace HO589 := Aside0.mk (Kd.S_below (by (with_reducible repeat (first | apply Kd.S_alloc | apply Kd.S_drewN | apply Kd.S_drew)); exact HO589.out) hb)
 replace HO592 := rb HO592 hb
 replace HO595 := rb HO595 hb
 replace HO600 := rb HO600 hb
 replace HO603 := Aside0.mk (Kd.S_below (by (with_reducible repeat (first | apply Kd.S_alloc | apply Kd.S_drewN | apply Kd.S_drew)); exact HO603.out) hb)
 replace HO606 := Aside0.mk (Kd.S_below (by (with_reducible repeat (first | apply Kd.S_alloc | apply Kd.S_drewN | apply Kd.S_drew)); exact HO606.out) hb)
 replace HO610 := Aside0.mk (Kd.S_below (by (with_reducible repeat (first | apply Kd.S_alloc | apply Kd.S_drewN | apply Kd.S_drew)); exact HO610.out) hb)
 replace HO613 := rb HO613 hb
 replace HO616 := rb HO616 hb
 replace HO622 := rb HO622 hb
 replace HO625 := Aside0.mk (Kd.S_below (by (with_reducible repeat (first | apply Kd.S_alloc | apply Kd.S_drewN | apply Kd.S_drew)); exact HO625.out) hb)
 replace HO628 := Aside0.mk (Kd.S_below (by (with_reducible repeat (first | apply Kd.S_alloc | apply Kd.S_drewN | apply Kd.S_drew)); exact HO628.out) hb)
 replace HO632 := Aside0.mk (Kd.S_below (by (with_reducible repeat (first | apply Kd.S_alloc | apply Kd.S_drewN | apply Kd.S_drew)); exact HO632.out) hb)
 replace HO635 := rb HO635 hb
 replace HO638 := rb HO638 hb
 replace BK575 := bb BK575 hb
 replace BK618 := bb BK618 hb
 replace HB := bs HB hb
 (try clear hb)
 (try clear hb2)
 (try clear hk)
 (try clear hi)
 refine hK.out _ _ ⟨ds8_ BK618, ds8_ BK575⟩ (fun hHeld => ?_)
 clear hK K
 refine nm 25 ?_
 refine pu 4 26 ?_
 refine done_ (by kernel_rfl) ?_
 try go_wp2
 go_ret
 exact ⟨er, tb HB⟩
end Go.Proofs.YtopikhjcbcpiaaaGreat.Q
section
namespace Go.Proofs.YtopikhjcbcpiaaaGreatX
open Go.RowKit Go.Proofs.YtopikhjcbcpiaaaGreatW.PrintWords Go.Deep Go.ChangeShapes Go.WideShapes
section
variable {H : Type} {enc : TypeId × Value → H} {P : Program} {w : World}
def Opens (enc : TypeId × Value → H) (P : Program) (w : World) {α : Type} (d : Kd α) (T : TypeId) (ok : α → Prop) : Prop :=
  P.cellsOf T = d.sz ∧ ∀ fuel cs x, DataW.trod enc P w 0 (fun _ => true) true fuel T cs = some x → ∃ a : α, d.K w a cs ∧ ok a
theorem Opens.int {T : TypeId} {k : IntKind} (hu : P.underlying T = some (.int k)) (hc : P.cellsOf T = 1) : Opens enc P w (Kd.int k) T (fun n => (Lit.int k n).wf = true) :=
  ⟨hc, fun fuel cs x h => by
    obtain ⟨n, rfl, _, hw⟩ := DataW.trod_int hu h
    exact ⟨n, rfl, hw⟩⟩
theorem Opens.bool {T : TypeId} (hu : P.underlying T = some .bool) (hc : P.cellsOf T = 1) : Opens enc P w Kd.bool T (fun _ => True) :=
  ⟨hc, fun fuel cs x h => by
    obtain ⟨b, rfl, _⟩ := DataW.trod_bool hu h
    exact ⟨b, rfl, trivial⟩⟩
theorem list_of_index {α : Type} (p : Nat → α → Prop) : ∀ n : Nat, (∀ i, i < n → ∃ a, p i a) → ∃ l : List α, l.length = n ∧ ∀ i a, l[i]? = some a → p i a
  | 0, _ => ⟨[], rfl, fun i a h => by simp at h⟩
  | n + 1, h => by
    obtain ⟨l, hl, hp⟩ := list_of_index p n (fun i hi => h i (by omega))
    obtain ⟨a, ha⟩ := h n (by omega)
    refine ⟨l ++ [a], by simp [hl], fun i b hb => ?_⟩
    rcases Nat.lt_trichotomy i n with h' | h' | h'
    · rw [List.getElem?_append_left (by omega)] at hb
      exact hp i b hb
    · subst h'
      rw [List.getElem?_append_right (by omega)] at hb
      simp [hl] at hb
      exact hb ▸ ha
    · rw [List.getElem?_eq_none (by simp [hl]; omega)] at hb
      cases hb
theorem Opens.slice {α : Type} {d : Kd α} {T e : TypeId} {ok : α → Prop} (hu : P.underlying T = some (.slice e)) (hc : P.cellsOf T = 1) (h : Opens enc P w d e ok) :
    Opens enc P w (Kd.slice e d) T (fun l => l.length ≤ 9223372036854775807 ∧ ∀ a ∈ l, ok a) :=
  ⟨hc, fun fuel cs x hx => by
    rcases open_slice hu hx with ⟨rfl, _⟩ | ⟨a, len, cap, m, n, D, Pl, rfl, hb, hl, hm, hmm, _, hel⟩
    · exact ⟨[], ⟨none, 0, rfl, Nat.le_refl _, ⟨rfl, by simp, fun h => absurd h (by simp)⟩⟩, by simp, fun a ha => by cases ha⟩
    · simp only [if_true] at hmm
      subst hmm
      obtain ⟨l, hll, hlp⟩ := list_of_index (fun i a' => (∃ c : List Value, c.length = d.sz ∧ d.K w a' c ∧ ∀ j u, c[j]? = some u → w.cell? (a.add (i * d.sz + j)) = some u) ∧ ok a') len (fun i hi => by
        obtain ⟨cs', hcs, ht⟩ := hel i (by omega)
        obtain ⟨a', hk, ha'⟩ := h.2 _ _ _ ht
        refine ⟨a', ⟨cs', d.K_len hk, hk, fun j u hu => ?_⟩, ha'⟩
        rw [h.1] at hcs
        obtain ⟨_, hlen, hcell⟩ := World.cells?_some hcs
        have hj : j < d.sz := by have := (List.getElem?_eq_some_iff.1 hu).1; rw [d.K_len hk] at this; exact this
        have := hcell j hj
        rw [Go.Deep.add_add] at this
        rw [this]
        exact hu)
      refine ⟨l, ⟨some a, m, by rw [hll], by omega, ⟨rfl, by simp only [maxLen] at hm; omega, fun _ => ⟨a, rfl, fun j p hp => (hlp j p hp).1⟩⟩⟩, by rw [hll]; simp only [maxLen] at hm; omega, fun a' ha' => ?_⟩
      obtain ⟨i, hi⟩ := List.getElem?_of_mem ha'
      exact (hlp i a' hi).2⟩
def OpensFs (enc : TypeId × Value → H) (P : Program) (w : World) {α : Type} (d : Kd α) (off : Nat) (fs : List Field) (ok : α → Prop) : Prop :=
  ∀ (n : Nat) (cs : List Value), off + d.sz = cs.length → (∀ f ∈ fs, ∃ x, DataW.trod enc P w 0 (fun _ => true) true n f.type ((cs.drop f.offset).take (P.cellsOf f.type)) = some x) → ∃ a : α, d.K w a (cs.drop off) ∧ ok a
theorem OpensFs.last {α : Type} {d : Kd α} {off : Nat} {f : Field} {ok : α → Prop} (hf : f.offset = off) (h : Opens enc P w d f.type ok) : OpensFs enc P w d off [f] ok := by
  intro n cs hl hx
  obtain ⟨x, hx⟩ := hx f (by simp)
  rw [hf, h.1, List.take_of_length_le (by simp; omega)] at hx
  exact h.2 _ _ _ hx
theorem OpensFs.cons {α β : Type} {d : Kd α} {d' : Kd β} {off : Nat} {f : Field} {fs : List Field} {ok : α → Prop} {ok' : β → Prop} (hf : f.offset = off) (h : Opens enc P w d f.type ok) (h' : OpensFs enc P w d' (off + d.sz) fs ok') :
    OpensFs enc P w (Kd.pair d d') off (f :: fs) (fun x => ok x.1 ∧ ok' x.2) := by
  intro n cs hl hx
  have hl' : off + (d.sz + d'.sz) = cs.length := hl
  obtain ⟨b, hb, hob⟩ := h' n cs (by omega) (fun g hg => hx g (by simp [hg]))
  obtain ⟨x, hx⟩ := hx f (by simp)
  rw [hf, h.1] at hx
  obtain ⟨a, ha, hoa⟩ := h.2 _ _ _ hx
  refine ⟨(a, b), ⟨(cs.drop off).take d.sz, cs.drop (off + d.sz), ?_, ha, hb⟩, hoa, hob⟩
  rw [← List.drop_drop]
  exact (List.take_append_drop _ _).symm
theorem Opens.struct {α β : Type} {d : Kd α} {f : β → α} {g : α → β} (hg : ∀ a, f (g a) = a) {T : TypeId} {fs : Array Field} {ok : α → Prop} (hu : P.underlying T = some (.struct fs)) (hc : P.cellsOf T = d.sz) (h : OpensFs enc P w d 0 fs.toList ok) :
    Opens enc P w (Kd.iso d f) T (fun b => ok (f b)) :=
  ⟨hc, fun fuel cs x hx => by
    obtain ⟨xs, n, rfl, _, hl, hlen, hfs⟩ := DataW.trod_struct hu hx
    obtain ⟨a, ha, hoa⟩ := h n cs (by rw [hl, hc]; omega) (fun f hf => by
      obtain ⟨i, hi⟩ := List.getElem?_of_mem hf
      have hi' : fs[i]? = some f := by simpa using hi
      have := hfs i f hi'
      have hlt : i < xs.length := by rw [hlen]; exact (Array.getElem?_eq_some_iff.1 hi').1
      rw [List.getElem?_eq_getElem hlt] at this
      exact ⟨_, this⟩)
    exact ⟨g a, by show d.K w (f (g a)) cs; rw [hg]; simpa using ha, by show ok (f (g a)); rw [hg]; exact hoa⟩⟩
theorem Opens.agg {α : Type} {d : Kd α} {T : TypeId} {ok : α → Prop} {fs : Array Field} {r : Reach} {b0 : Nat} {v : Value} {x : DataW H} {p : List MemPlace} (h : Opens enc P w d T ok) (hu : P.underlying T = some (.struct fs))
    (hv : Value.okWide P w r b0 T v) (hx : DataW.Trod enc P w 0 (fun _ => true) true T v x p) : ∃ (a : α) (cs : List Value), v = .agg cs.toArray ∧ d.K w a cs ∧ ok a := by
  obtain ⟨cs, rfl, _⟩ := okWide_struct hu hv
  obtain ⟨fuel, hf⟩ := hx
  obtain ⟨a, ha, hoa⟩ := h.2 _ _ _ hf
  exact ⟨a, cs.toList, rfl, ha, hoa⟩
end
end Go.Proofs.YtopikhjcbcpiaaaGreatX
end
section
namespace Go.Proofs.YtopikhjcbcpiaaaGreat.Q
open Go.RowKit Go.Proofs.YtopikhjcbcpiaaaGreatW.PrintWords Go.Proofs.YtopikhjcbcpiaaaGreatX
structure S62 where
  f0 : List S207
  f1 : List S201
def k62 : Kd S62 := Kd.iso (Kd.pair (Kd.slice 207 k207) (Kd.slice 201 k201)) (fun x : S62 => (x.f0, x.f1))
theorem k62_open {w : World} {x : S62} {cs : List Value} (h : k62.K w x cs) : ∃ A0 c0 A1 c1, cs = [.slice A0 x.f0.length c0, .slice A1 x.f1.length c1] ∧ x.f0.length ≤ c0 ∧ k207.C w A0 x.f0.length x.f0 ∧ x.f1.length ≤ c1 ∧ k201.C w A1 x.f1.length x.f1 := by
  obtain ⟨_, _, rfl, ⟨A0, c0, rfl, l0, g0⟩, ⟨A1, c1, rfl, l1, g1⟩⟩ := h
  exact ⟨A0, c0, A1, c1, rfl, l0, g0, l1, g1⟩
structure S66 where
  f0 : List Int
  f1 : Int
def k66 : Kd S66 := Kd.iso (Kd.pair (Kd.slice 3 (Kd.int .i64)) (Kd.int .i64)) (fun x : S66 => (x.f0, x.f1))
theorem k66_open {w : World} {x : S66} {cs : List Value} (h : k66.K w x cs) : ∃ A0 c0, cs = [.slice A0 x.f0.length c0, .int .i64 x.f1] ∧ x.f0.length ≤ c0 ∧ (Kd.int .i64).C w A0 x.f0.length x.f0 := by
  obtain ⟨_, _, rfl, ⟨A0, c0, rfl, l0, g0⟩, rfl⟩ := h
  exact ⟨A0, c0, rfl, l0, g0⟩
structure S68 where
  f0 : S62
  f1 : List S171
  f2 : Int
  f3 : List S176
  f4 : List Int
  f5 : S66
def k68 : Kd S68 := Kd.iso (Kd.pair k62 (Kd.pair (Kd.slice 171 k171) (Kd.pair (Kd.int .i64) (Kd.pair (Kd.slice 176 k176) (Kd.pair (Kd.slice 3 (Kd.int .i64)) k66))))) (fun x : S68 => (x.f0, x.f1, x.f2, x.f3, x.f4, x.f5))
theorem k68_open {w : World} {x : S68} {cs : List Value} (h : k68.K w x cs) : ∃ A0 c0 A1 c1 A2 c2 A4 c4 A5 c5 A6 c6, cs = [.slice A0 x.f0.f0.length c0, .slice A1 x.f0.f1.length c1, .slice A2 x.f1.length c2, .int .i64 x.f2, .slice A4 x.f3.length c4, .slice A5 x.f4.length c5, .slice A6 x.f5.f0.length c6, .int .i64 x.f5.f1] ∧ x.f0.f0.length ≤ c0 ∧ k207.C w A0 x.f0.f0.length x.f0.f0 ∧ x.f0.f1.length ≤ c1 ∧ k201.C w A1 x.f0.f1.length x.f0.f1 ∧ x.f1.length ≤ c2 ∧ k171.C w A2 x.f1.length x.f1 ∧ x.f3.length ≤ c4 ∧ k176.C w A4 x.f3.length x.f3 ∧ x.f4.length ≤ c5 ∧ (Kd.int .i64).C w A5 x.f4.length x.f4 ∧ x.f5.f0.length ≤ c6 ∧ (Kd.int .i64).C w A6 x.f5.f0.length x.f5.f0 := by
  obtain ⟨_, _, rfl, s0, ⟨_, _, rfl, ⟨A2, c2, rfl, l2, g2⟩, ⟨_, _, rfl, rfl, ⟨_, _, rfl, ⟨A4, c4, rfl, l4, g4⟩, ⟨_, _, rfl, ⟨A5, c5, rfl, l5, g5⟩, s6⟩⟩⟩⟩⟩ := h
  obtain ⟨A0, c0, A1, c1, rfl, l0, g0, l1, g1⟩ := k62_open s0
  obtain ⟨A6, c6, rfl, l6, g6⟩ := k66_open s6
  exact ⟨A0, c0, A1, c1, A2, c2, A4, c4, A5, c5, A6, c6, rfl, l0, g0, l1, g1, l2, g2, l4, g4, l5, g5, l6, g6⟩
def ok207 (x : S207) : Prop := (Lit.int .i64 x.f0).wf = true ∧ (Lit.int .i64 x.f1).wf = true ∧ (Lit.int .i64 x.f2).wf = true
theorem opens207 {H : Type} {enc : TypeId × Value → H} {W : World} : Opens enc Tryz.prog W k207 207 ok207 :=
  Opens.struct (g := fun a => ⟨a.1, a.2.1, a.2.2⟩) (fun a => rfl) Tryz.underlying207 (by kernel_rfl) (OpensFs.cons rfl (Opens.int Tryz.underlying3 (by kernel_rfl)) (OpensFs.cons rfl (Opens.int Tryz.underlying3 (by kernel_rfl)) (OpensFs.last rfl (Opens.int Tryz.underlying3 (by kernel_rfl)))))
def ok236 (x : S236) : Prop := (Lit.int .i64 x.f0).wf = true ∧ (Lit.int .i64 x.f1).wf = true ∧ (Lit.int .i64 x.f2).wf = true
theorem opens236 {H : Type} {enc : TypeId × Value → H} {W : World} : Opens enc Tryz.prog W k236 236 ok236 :=
  Opens.struct (g := fun a => ⟨a.1, a.2.1, a.2.2⟩) (fun a => rfl) Tryz.underlying236 (by kernel_rfl) (OpensFs.cons rfl (Opens.int Tryz.underlying3 (by kernel_rfl)) (OpensFs.cons rfl (Opens.int Tryz.underlying3 (by kernel_rfl)) (OpensFs.last rfl (Opens.int Tryz.underlying3 (by kernel_rfl)))))
def ok174 (x : S174) : Prop := (Lit.int .i64 x.f0).wf = true ∧ (x.f1.length ≤ 9223372036854775807 ∧ ∀ a ∈ x.f1, (Lit.int .i64 a).wf = true)
theorem opens174 {H : Type} {enc : TypeId × Value → H} {W : World} : Opens enc Tryz.prog W k174 174 ok174 :=
  Opens.struct (g := fun a => ⟨a.1, a.2⟩) (fun a => rfl) Tryz.underlying174 (by kernel_rfl) (OpensFs.cons rfl (Opens.int Tryz.underlying3 (by kernel_rfl)) (OpensFs.last rfl (Opens.slice Tryz.underlying29 (by kernel_rfl) (Opens.int Tryz.underlying3 (by kernel_rfl)))))
def ok201 (x : S201) : Prop := (Lit.int .i64 x.f0).wf = true ∧ (Lit.int .i64 x.f1).wf = true ∧ (x.f2.length ≤ 9223372036854775807 ∧ ∀ a ∈ x.f2, ok236 a) ∧ ok174 x.f3
theorem opens201 {H : Type} {enc : TypeId × Value → H} {W : World} : Opens enc Tryz.prog W k201 201 ok201 :=
  Opens.struct (g := fun a => ⟨a.1, a.2.1, a.2.2.1, a.2.2.2⟩) (fun a => rfl) Tryz.underlying201 (by kernel_rfl) (OpensFs.cons rfl (Opens.int Tryz.underlying3 (by kernel_rfl)) (OpensFs.cons rfl (Opens.int Tryz.underlying3 (by kernel_rfl)) (OpensFs.cons rfl (Opens.slice Tryz.underlying199 (by kernel_rfl) opens236) (OpensFs.last rfl opens174))))
def ok173 (x : S173) : Prop := (Lit.int .i64 x.f0).wf = true ∧ (Lit.int .i64 x.f1).wf = true ∧ (Lit.int .i64 x.f2).wf = true
theorem opens173 {H : Type} {enc : TypeId × Value → H} {W : World} : Opens enc Tryz.prog W k173 173 ok173 :=
  Opens.struct (g := fun a => ⟨a.1, a.2.1, a.2.2⟩) (fun a => rfl) Tryz.underlying173 (by kernel_rfl) (OpensFs.cons rfl (Opens.int Tryz.underlying3 (by kernel_rfl)) (OpensFs.cons rfl (Opens.int Tryz.underlying3 (by kernel_rfl)) (OpensFs.last rfl (Opens.int Tryz.underlying3 (by kernel_rfl)))))
def ok224 (x : S224) : Prop := (Lit.int .i64 x.f0).wf = true ∧ (Lit.int .i64 x.f1).wf = true
theorem opens224 {H : Type} {enc : TypeId × Value → H} {W : World} : Opens enc Tryz.prog W k224 224 ok224 :=
  Opens.struct (g := fun a => ⟨a.1, a.2⟩) (fun a => rfl) Tryz.underlying224 (by kernel_rfl) (OpensFs.cons rfl (Opens.int Tryz.underlying3 (by kernel_rfl)) (OpensFs.last rfl (Opens.int Tryz.underlying3 (by kernel_rfl))))
def ok226 (x : S226) : Prop := (Lit.int .i64 x.f0).wf = true ∧ (Lit.int .i64 x.f1).wf = true ∧ (Lit.int .i64 x.f2).wf = true ∧ (Lit.int .i64 x.f3).wf = true
theorem opens226 {H : Type} {enc : TypeId × Value → H} {W : World} : Opens enc Tryz.prog W k226 226 ok226 :=
  Opens.struct (g := fun a => ⟨a.1, a.2.1, a.2.2.1, a.2.2.2⟩) (fun a => rfl) Tryz.underlying226 (by kernel_rfl) (OpensFs.cons rfl (Opens.int Tryz.underlying3 (by kernel_rfl)) (OpensFs.cons rfl (Opens.int Tryz.underlying3 (by kernel_rfl)) (OpensFs.cons rfl (Opens.int Tryz.underlying3 (by kernel_rfl)) (OpensFs.last rfl (Opens.int Tryz.underlying3 (by kernel_rfl))))))
def ok171 (x : S171) : Prop := (x.f0.length ≤ 9223372036854775807 ∧ ∀ a ∈ x.f0, ok173 a) ∧ (Lit.int .i64 x.f1).wf = true ∧ True ∧ (x.f3.length ≤ 9223372036854775807 ∧ ∀ a ∈ x.f3, ok224 a) ∧ (x.f4.length ≤ 9223372036854775807 ∧ ∀ a ∈ x.f4, ok226 a)
theorem opens171 {H : Type} {enc : TypeId × Value → H} {W : World} : Opens enc Tryz.prog W k171 171 ok171 :=
  Opens.struct (g := fun a => ⟨a.1, a.2.1, a.2.2.1, a.2.2.2.1, a.2.2.2.2⟩) (fun a => rfl) Tryz.underlying171 (by kernel_rfl) (OpensFs.cons rfl (Opens.slice Tryz.underlying167 (by kernel_rfl) opens173) (OpensFs.cons rfl (Opens.int Tryz.underlying3 (by kernel_rfl)) (OpensFs.cons rfl (Opens.bool Tryz.underlying4 (by kernel_rfl)) (OpensFs.cons rfl (Opens.slice Tryz.underlying168 (by kernel_rfl) opens224) (OpensFs.last rfl (Opens.slice Tryz.underlying169 (by kernel_rfl) opens226))))))
def ok176 (x : S176) : Prop := (Lit.int .i64 x.f0).wf = true ∧ ok173 x.f1 ∧ (Lit.int .i64 x.f2).wf = true ∧ (Lit.int .i64 x.f3).wf = true ∧ (Lit.int .i64 x.f4).wf = true ∧ ok174 x.f5
theorem opens176 {H : Type} {enc : TypeId × Value → H} {W : World} : Opens enc Tryz.prog W k176 176 ok176 :=
  Opens.struct (g := fun a => ⟨a.1, a.2.1, a.2.2.1, a.2.2.2.1, a.2.2.2.2.1, a.2.2.2.2.2⟩) (fun a => rfl) Tryz.underlying176 (by kernel_rfl) (OpensFs.cons rfl (Opens.int Tryz.underlying3 (by kernel_rfl)) (OpensFs.cons rfl opens173 (OpensFs.cons rfl (Opens.int Tryz.underlying3 (by kernel_rfl)) (OpensFs.cons rfl (Opens.int Tryz.underlying3 (by kernel_rfl)) (OpensFs.cons rfl (Opens.int Tryz.underlying3 (by kernel_rfl)) (OpensFs.last rfl opens174))))))
def ok62 (x : S62) : Prop := (x.f0.length ≤ 9223372036854775807 ∧ ∀ a ∈ x.f0, ok207 a) ∧ (x.f1.length ≤ 9223372036854775807 ∧ ∀ a ∈ x.f1, ok201 a)
theorem opens62 {H : Type} {enc : TypeId × Value → H} {W : World} : Opens enc Tryz.prog W k62 62 ok62 :=
  Opens.struct (g := fun a => ⟨a.1, a.2⟩) (fun a => rfl) Tryz.underlying62 (by kernel_rfl) (OpensFs.cons rfl (Opens.slice Tryz.underlying59 (by kernel_rfl) opens207) (OpensFs.last rfl (Opens.slice Tryz.underlying60 (by kernel_rfl) opens201)))
def ok66 (x : S66) : Prop := (x.f0.length ≤ 9223372036854775807 ∧ ∀ a ∈ x.f0, (Lit.int .i64 a).wf = true) ∧ (Lit.int .i64 x.f1).wf = true
theorem opens66 {H : Type} {enc : TypeId × Value → H} {W : World} : Opens enc Tryz.prog W k66 66 ok66 :=
  Opens.struct (g := fun a => ⟨a.1, a.2⟩) (fun a => rfl) Tryz.underlying66 (by kernel_rfl) (OpensFs.cons rfl (Opens.slice Tryz.underlying29 (by kernel_rfl) (Opens.int Tryz.underlying3 (by kernel_rfl))) (OpensFs.last rfl (Opens.int Tryz.underlying3 (by kernel_rfl))))
def ok68 (x : S68) : Prop := ok62 x.f0 ∧ (x.f1.length ≤ 9223372036854775807 ∧ ∀ a ∈ x.f1, ok171 a) ∧ (Lit.int .i64 x.f2).wf = true ∧ (x.f3.length ≤ 9223372036854775807 ∧ ∀ a ∈ x.f3, ok176 a) ∧ (x.f4.length ≤ 9223372036854775807 ∧ ∀ a ∈ x.f4, (Lit.int .i64 a).wf = true) ∧ ok66 x.f5
theorem opens68 {H : Type} {enc : TypeId × Value → H} {W : World} : Opens enc Tryz.prog W k68 68 ok68 :=
  Opens.struct (g := fun a => ⟨a.1, a.2.1, a.2.2.1, a.2.2.2.1, a.2.2.2.2.1, a.2.2.2.2.2⟩) (fun a => rfl) Tryz.underlying68 (by kernel_rfl) (OpensFs.cons rfl opens62 (OpensFs.cons rfl (Opens.slice Tryz.underlying63 (by kernel_rfl) opens171) (OpensFs.cons rfl (Opens.int Tryz.underlying3 (by kernel_rfl)) (OpensFs.cons rfl (Opens.slice Tryz.underlying64 (by kernel_rfl) opens176) (OpensFs.cons rfl (Opens.slice Tryz.underlying29 (by kernel_rfl) (Opens.int Tryz.underlying3 (by kernel_rfl))) (OpensFs.last rfl opens66))))))
end Go.Proofs.YtopikhjcbcpiaaaGreat.Q
end
section
/- The one statement about numbers and lists that is left of the law FnExactMachineOk. -/
namespace Go.Proofs.YtopikhjcbcpiaaaGreat.Q
open Go.RowKit Go.Proofs.YtopikhjcbcpiaaaGreatW.PrintWords
def laws_FnExactMachineOk.Pure : Prop := ∀ (a0 : S68), ok68 a0 → ∃ k, laws_FnExactMachineOk.f k a0.f0.f0 a0.f0.f1 a0.f1 a0.f2 a0.f3 a0.f4 a0.f5.f0 a0.f5.f1 = some true
end Go.Proofs.YtopikhjcbcpiaaaGreat.Q
end
section
namespace Go.Proofs.YtopikhjcbcpiaaaGreatX
open Go.RowKit Go.Proofs.YtopikhjcbcpiaaaGreatW.PrintWords
theorem wrap_succ {i n : Nat} (h : i < n) (hn : n ≤ 9223372036854775807) : wrap64 ((i : Int) + 1) = ((i + 1 : Nat) : Int) := by
  unfold wrap64; omega
theorem wrap_in {x : Int} (h0 : -9223372036854775808 ≤ x) (h1 : x ≤ 9223372036854775807) : wrap64 x = x := by
  unfold wrap64; omega
theorem ev_of {α : Type} {g : Nat → Option α} {r : α} (h : ∀ k, g k = some r) : Ev g r := ⟨0, fun k _ => h k⟩
theorem ev_succ {α : Type} {g : Nat → Option α} {r : α} (h : ∀ k, g (k + 1) = some r) : Ev g r := Ev.step (f := fun _ => Option.some r) h (Ev.now r)
theorem ev_to {α : Type} {g : Nat → Option α} {r q : α} (h : Ev g r) (e : r = q) : Ev g q := e ▸ h
theorem ev_pos {α : Type} {c : Prop} [Decidable c] {g f : Nat → Option α} {r : α} (hc : c) (h : Ev g r) : Ev (fun k => if c then g k else f k) r := by simp only [if_pos hc]; exact h
theorem ev_neg {α : Type} {c : Prop} [Decidable c] {g f : Nat → Option α} {r : α} (hc : ¬ c) (h : Ev f r) : Ev (fun k => if c then g k else f k) r := by simp only [if_neg hc]; exact h
theorem ev_ite {α : Type} {c : Prop} [Decidable c] {g f : Nat → Option α} {r : α} (h : c → Ev g r) (h' : ¬ c → Ev f r) : Ev (fun k => if c then g k else f k) r := by
  by_cases hc : c
  · exact ev_pos hc (h hc)
  · exact ev_neg hc (h' hc)
theorem ev_down {β : Type} {g : Nat → Int → Option β} {R : Nat → β} {n : Nat} (h : ∀ i : Nat, i ≤ n → (i < n → Ev (fun k => g k ((i + 1 : Nat) : Int)) (R (i + 1))) → Ev (fun k => g k (i : Int)) (R i)) :
    ∀ i : Nat, i ≤ n → Ev (fun k => g k (i : Int)) (R i) := by
  have key : ∀ d i : Nat, i + d = n → Ev (fun k => g k (i : Int)) (R i) := by
    intro d
    induction d with
    | zero => intro i hi; exact h i (by omega) (fun hlt => by omega)
    | succ d ih => intro i hi; exact h i (by omega) (fun _ => ih (i + 1) (by omega))
  intro i hi
  exact key (n - i) i (by omega)
theorem ev_fill {α β : Type} {g : Nat → List β → Int → Option (List β)} {l : List α} {cv : α → β} {za : α}
    (hstep : ∀ (acc : List β) (i : Nat) (r : List β), i < l.length → acc.length = l.length → Ev (fun k => g k (acc.set i (cv (l.getD i za))) ((i + 1 : Nat) : Int)) r → Ev (fun k => g k acc (i : Int)) r)
    (hend : ∀ acc : List β, acc.length = l.length → Ev (fun k => g k acc (l.length : Int)) acc) (acc : List β) (hacc : acc.length = l.length) : Ev (fun k => g k acc 0) (l.map cv) := by
  have key : ∀ (d i : Nat) (acc : List β), acc.length = l.length → i + d = l.length → Ev (fun k => g k acc (i : Int)) (acc.take i ++ (l.drop i).map cv) := by
    intro d
    induction d with
    | zero =>
      intro i acc ha hi
      obtain rfl : i = l.length := by omega
      refine ev_to (hend acc ha) ?_
      simp [← ha]
    | succ d ih =>
      intro i acc ha hi
      refine hstep acc i _ (by omega) ha (ev_to (ih (i + 1) _ (by simpa using ha) (by omega)) ?_)
      have hl : i < l.length := by omega
      have e : l.getD i za = l[i] := by simp [List.getD_eq_getElem?_getD, List.getElem?_eq_getElem hl]
      rw [List.drop_eq_getElem_cons hl, List.map_cons, e]
      have h2 : (acc.set i (cv l[i])).take (i + 1) = acc.take i ++ [cv l[i]] := by
        rw [List.take_succ_eq_append_getElem (by simp; omega)]
        simp [List.take_set_of_le]
      rw [h2, List.append_assoc]
      rfl
  have := key l.length 0 acc hacc (by omega)
  simpa using this
end Go.Proofs.YtopikhjcbcpiaaaGreatX
end
section
namespace Go.Proofs.YtopikhjcbcpiaaaGreat.Q
open Go.RowKit Go.Proofs.YtopikhjcbcpiaaaGreatW.PrintWords Go.Proofs.YtopikhjcbcpiaaaGreatX
def inB (a b c : Int) : Bool := decide (b ≤ a ∧ a ≤ c)
theorem l1In_eq (a b c : Int) : spec_l1In.f a b c = some (inB a b c) := by
  unfold spec_l1In.f inB
  by_cases h : a ≥ b
  · rw [if_pos h]; simp; omega
  · rw [if_neg h]; simp; omega
theorem from_eq (a b c : Int) : impl_from.f a b c = some (inB a b c) := by
  unfold impl_from.f inB
  by_cases h : a ≥ b
  · rw [if_pos h]; simp; omega
  · rw [if_neg h]; simp; omega
def opOkB (a b c : Int) : Bool :=
  if a = 1 ∨ a = 2 then inB b 0 3 && inB c 1 6 else if a = 3 ∨ a = 4 then inB b 0 3 && decide (c = 0)
  else if a = 5 ∨ a = 10 then decide (b = 0) && inB c 1 6 else if a = 6 then inB b 0 2 && decide (c = 0)
  else if a = 7 ∨ a = 8 ∨ a = 9 then decide (b = 0) && decide (c = 0) else false
theorem kinds10 (a : Int) : a = 1 ∨ a = 2 ∨ a = 3 ∨ a = 4 ∨ a = 5 ∨ a = 6 ∨ a = 7 ∨ a = 8 ∨ a = 9 ∨ a = 10 ∨ (a < 1 ∨ 10 < a) := by omega
theorem ev_spec_OpOk (a b c : Int) : Ev (fun k => spec_OpOk.f k a b c) (opOkB a b c) := by
  refine ⟨3, fun k hk => ?_⟩
  obtain ⟨k, rfl⟩ : ∃ j, k = j + 3 := ⟨k - 3, by omega⟩
  show spec_OpOk.f (k + 3) a b c = _
  simp only [spec_OpOk.f, spec_OpOk.j0, spec_OpOk.j1, spec_l4Key.f, spec_KeyOk.f, spec_l4Val.f, spec_ValOk.f, l1In_eq, Option.bind_some]
  rcases kinds10 a with rfl | rfl | rfl | rfl | rfl | rfl | rfl | rfl | rfl | rfl | h
  case inr.inr.inr.inr.inr.inr.inr.inr.inr.inr =>
    have h1 : inB a 1 10 = false := by unfold inB; simp; omega
    have h2 : ¬ (a = 1 ∨ a = 2) := by omega
    have h3 : ¬ (a = 3 ∨ a = 4) := by omega
    have h4 : ¬ (a = 5 ∨ a = 10) := by omega
    have h5 : ¬ a = 6 := by omega
    have h6 : ¬ (a = 7 ∨ a = 8 ∨ a = 9) := by omega
    simp [opOkB, h1, h2, h3, h4, h5, h6]
  all_goals
    unfold opOkB
    generalize inB b 0 3 = p
    generalize inB c 1 6 = q
    generalize inB b 0 2 = s
    by_cases hc : c = 0 <;> by_cases hb : b = 0 <;> cases p <;> cases q <;> cases s <;> simp [inB, hc, hb]
theorem ev_impl_OpOk (a b c : Int) : Ev (fun k => impl_OpOk.f k a b c) (opOkB a b c) := by
  refine ⟨4, fun k hk => ?_⟩
  obtain ⟨k, rfl⟩ : ∃ j, k = j + 4 := ⟨k - 4, by omega⟩
  show impl_OpOk.f (k + 4) a b c = _
  simp only [impl_OpOk.f, impl_OpOk.j0, impl_OpOk.j1, impl_OpOk.j2, impl_KeyOk.f, impl_ValOk.f, impl_isClass.f, from_eq, Option.bind_some]
  rcases kinds10 a with rfl | rfl | rfl | rfl | rfl | rfl | rfl | rfl | rfl | rfl | h
  case inr.inr.inr.inr.inr.inr.inr.inr.inr.inr =>
    have g1 : ¬ a = 1 := by omega
    have g2 : ¬ a = 2 := by omega
    have g3 : ¬ a = 3 := by omega
    have g4 : ¬ a = 4 := by omega
    have g5 : ¬ a = 5 := by omega
    have g6 : ¬ a = 6 := by omega
    have g7 : ¬ a = 7 := by omega
    have g8 : ¬ a = 8 := by omega
    have g9 : ¬ a = 9 := by omega
    have g10 : ¬ a = 10 := by omega
    simp [opOkB, g1, g2, g3, g4, g5, g6, g7, g8, g9, g10]
  all_goals
    unfold opOkB
    generalize inB b 0 3 = p
    generalize inB c 1 6 = q
    generalize inB b 0 2 = s
    by_cases hc : c = 0 <;> by_cases hb : b = 0 <;> cases p <;> cases q <;> cases s <;> simp [hc, hb]
end Go.Proofs.YtopikhjcbcpiaaaGreat.Q
end
section
namespace Go.Proofs.YtopikhjcbcpiaaaGreat.Q
open Go.RowKit Go.Proofs.YtopikhjcbcpiaaaGreatW.PrintWords Go.Proofs.YtopikhjcbcpiaaaGreatX
theorem rd_nat (l : List Int) (i : Nat) : rd l (i : Int) = l.getD i 0 := by simp [rd]
theorem getD_at {l : List Int} {i : Nat} (h : i < l.length) : l.getD i 0 = l[i] := by simp [List.getD_eq_getElem?_getD, List.getElem?_eq_getElem h]
def idxFrom (v : Int) : List Int → Nat → Int
  | [], _ => -1
  | x :: xs, i => if x = v then (i : Int) else idxFrom v xs (i + 1)
def idxI (l : List Int) (v : Int) : Int := idxFrom v l 0
theorem idxFrom_at (v : Int) (l : List Int) (i : Nat) (h : i < l.length) : idxFrom v (l.drop i) i = if l.getD i 0 = v then (i : Int) else idxFrom v (l.drop (i + 1)) (i + 1) := by
  rw [List.drop_eq_getElem_cons h, idxFrom, getD_at h]
theorem ev_spec_KeyOf (l : List Int) (st v : Int) (hl : l.length ≤ 1048576) : Ev (fun k => spec_KeyOf.f k l st v) (idxI l v) := by
  refine ev_to (ev_down (g := fun k i => spec_KeyOf.l0 k v i l st) (R := fun i => idxFrom v (l.drop i) i) (n := l.length) (fun i hi h => ?_) 0 (by omega)) (by simp [idxI])
  by_cases hlt : i < l.length
  · rw [idxFrom_at v l i hlt]
    by_cases e : l.getD i 0 = v
    · rw [if_pos e]
      refine ev_succ (fun k => ?_)
      simp only [spec_KeyOf.l0, rd_nat]
      rw [if_pos (by omega), if_pos (by omega), if_pos e]
    · rw [if_neg e]
      refine Ev.step (fun k => ?_) (h hlt)
      simp only [spec_KeyOf.l0, rd_nat]
      rw [if_pos (by omega), if_pos (by omega), if_neg e, wrap_succ hlt (by omega)]
  · obtain rfl : i = l.length := by omega
    refine ev_succ (fun k => ?_)
    simp only [spec_KeyOf.l0]
    rw [if_neg (by omega)]
    simp [idxFrom]
theorem ev_Index (l : List Int) (v : Int) (hl : l.length ≤ 1048576) : Ev (fun k => slices_Index_int_int.f k l v) (idxI l v) := by
  refine ev_to (ev_down (g := fun k i => slices_Index_int_int.l0 k l v (l.length : Int) i) (R := fun i => idxFrom v (l.drop i) i) (n := l.length) (fun i hi h => ?_) 0 (by omega)) (by simp [idxI])
  by_cases hlt : i < l.length
  · rw [idxFrom_at v l i hlt]
    by_cases e : l.getD i 0 = v
    · rw [if_pos e]
      refine ev_succ (fun k => ?_)
      simp only [slices_Index_int_int.l0, rd_nat]
      rw [if_pos (by omega), if_pos (by omega), if_pos (by omega), if_pos e.symm]
    · rw [if_neg e]
      refine Ev.step (fun k => ?_) (h hlt)
      simp only [slices_Index_int_int.l0, rd_nat]
      rw [if_pos (by omega), if_pos (by omega), if_pos (by omega), if_neg (Ne.symm e), wrap_succ hlt (by omega)]
  · obtain rfl : i = l.length := by omega
    refine ev_succ (fun k => ?_)
    simp only [slices_Index_int_int.l0]
    rw [if_neg (by omega)]
    simp [idxFrom]
theorem ev_Contains (l : List Int) (v : Int) (hl : l.length ≤ 1048576) : Ev (fun k => slices_Contains_int_int.f k l v) (decide (idxI l v ≥ 0)) :=
  Ev.bind (f := fun _ t => some (decide (t ≥ 0))) (ev_Index l v hl) (Ev.now _)
theorem idxFrom_bd (v : Int) : ∀ (l : List Int) (i : Nat), idxFrom v l i = -1 ∨ ((i : Int) ≤ idxFrom v l i ∧ idxFrom v l i < i + l.length)
  | [], i => .inl rfl
  | x :: xs, i => by
    unfold idxFrom
    by_cases e : x = v
    · rw [if_pos e]; right; simp; omega
    · rw [if_neg e]
      rcases idxFrom_bd v xs (i + 1) with h | ⟨h1, h2⟩
      · exact .inl h
      · right; simp only [List.length_cons]; omega
theorem idxFrom_mem (v : Int) : ∀ (l : List Int) (i : Nat), idxFrom v l i = -1 ↔ v ∉ l
  | [], i => by simp [idxFrom]
  | x :: xs, i => by
    unfold idxFrom
    by_cases e : x = v
    · rw [if_pos e]; simp [e]
    · rw [if_neg e, idxFrom_mem v xs (i + 1)]; simp [Ne.symm e]
theorem idxFrom_append (v : Int) : ∀ (l m : List Int) (i : Nat), v ∉ l → idxFrom v (l ++ m) i = idxFrom v m (i + l.length)
  | [], m, i, _ => by simp
  | x :: xs, m, i, h => by
    simp only [List.mem_cons, not_or] at h
    show (if x = v then (i : Int) else idxFrom v (xs ++ m) (i + 1)) = _
    rw [if_neg (Ne.symm h.1), idxFrom_append v xs m (i + 1) h.2]
    simp only [List.length_cons]
    congr 1
    omega
theorem idx_first (l : List Int) (i : Nat) (h : i < l.length) : idxI l (l.getD i 0) = (i : Int) ↔ ¬ idxI (l.take i) (l.getD i 0) ≥ 0 := by
  have hv := getD_at h
  constructor
  · intro he hc
    rcases idxFrom_bd (l.getD i 0) (l.take i) 0 with h1 | ⟨h1, h2⟩
    · unfold idxI at hc; omega
    · have hm : l.getD i 0 ∈ l.take i := by
        by_cases hm : l.getD i 0 ∈ l.take i
        · exact hm
        · have := (idxFrom_mem _ _ 0).2 hm
          unfold idxI at hc
          omega
      have key : ∀ (v : Int) (a b : List Int) (j : Nat), v ∈ a → idxFrom v (a ++ b) j = idxFrom v a j := by
        intro v a
        induction a with
        | nil => intro b j hm; cases hm
        | cons x xs ih =>
          intro b j hm
          show (if x = v then (j : Int) else idxFrom v (xs ++ b) (j + 1)) = (if x = v then (j : Int) else idxFrom v xs (j + 1))
          by_cases e : x = v
          · rw [if_pos e, if_pos e]
          · rw [if_neg e, if_neg e]
            refine ih b (j + 1) ?_
            rcases List.mem_cons.1 hm with h' | h'
            · exact absurd h'.symm e
            · exact h'
      unfold idxI at he
      have hs : l = l.take i ++ l.drop i := (List.take_append_drop i l).symm
      rw [hs, key _ _ _ 0 (by rw [← hs]; exact hm)] at he
      rw [← hs] at he
      rw [he] at h2
      simp at h2
      omega
  · intro hc
    have hm : l.getD i 0 ∉ l.take i := by
      refine (idxFrom_mem _ _ 0).1 ?_
      rcases idxFrom_bd (l.getD i 0) (l.take i) 0 with h1 | ⟨h1, h2⟩
      · exact h1
      · exact absurd (by unfold idxI; omega) hc
    have e : idxFrom (l.getD i 0) (l.take i ++ l.drop i) 0 = idxFrom (l.getD i 0) (l.drop i) (0 + (l.take i).length) := idxFrom_append _ _ _ _ hm
    rw [List.take_append_drop] at e
    unfold idxI
    rw [e, List.drop_eq_getElem_cons h, idxFrom, if_pos hv.symm]
    simp
    omega
def rowB (l : List Int) (i : Nat) : Bool := decide (l.getD i 0 = 0) || (inB (l.getD i 0) 1 6 && decide (idxI l (l.getD i 0) = (i : Int)))
def rowsOkB (l : List Int) (st : Int) : Bool := (List.range l.length).all (rowB l) && (decide (l.length = 4) && inB st 0 5)
theorem rowsDown {g : Nat → Int → Option Bool} (l : List Int) (rest : Bool)
    (hstep : ∀ i : Nat, i < l.length → (rowB l i = true → ∀ r, Ev (fun k => g k ((i + 1 : Nat) : Int)) r → Ev (fun k => g k (i : Int)) r) ∧ (rowB l i = false → Ev (fun k => g k (i : Int)) false))
    (hend : Ev (fun k => g k (l.length : Int)) rest) : Ev (fun k => g k 0) ((List.range l.length).all (rowB l) && rest) := by
  have key := ev_down (g := g) (R := fun i => ((List.range l.length).drop i).all (rowB l) && rest) (n := l.length) (fun i hi h => ?_) 0 (by omega)
  · simpa using key
  · by_cases hlt : i < l.length
    · have hd : ((List.range l.length).drop i).all (rowB l) = (rowB l i && ((List.range l.length).drop (i + 1)).all (rowB l)) := by
        rw [List.drop_eq_getElem_cons (by simpa using hlt), List.all_cons]
        simp
      rw [hd]
      have hs := hstep i hlt
      cases hq : rowB l i with
      | true => exact ev_to (hs.1 hq _ (h hlt)) (by simp)
      | false => exact ev_to (hs.2 hq) (by simp)
    · obtain rfl : i = l.length := by omega
      exact ev_to hend (by rw [List.drop_eq_nil_of_le (by simp)]; simp)
theorem ev_spec_RowsOk (l : List Int) (st : Int) (hl : l.length ≤ 1048576) : Ev (fun k => spec_RowsOk.f k l st) (rowsOkB l st) := by
  refine rowsDown (g := fun k i => spec_RowsOk.l0 k i l st) l _ (fun i hi => ?_) ?_
  · have hk := ev_spec_KeyOf l st (l.getD i 0) hl
    have step : ∀ k, spec_RowsOk.l0 (k + 1) (i : Int) l st = if l.getD i 0 = 0 then spec_RowsOk.l0 k ((i + 1 : Nat) : Int) l st else if inB (l.getD i 0) 1 6 = true then (spec_KeyOf.f k l st (l.getD i 0)).bind fun t => if t = (i : Int) then spec_RowsOk.l0 k ((i + 1 : Nat) : Int) l st else some false else some false := by
      intro k
      simp only [spec_RowsOk.l0, rd_nat, spec_ValOk.f, l1In_eq, Option.bind_some]
      rw [if_pos (by omega), if_pos (by omega), wrap_succ hi (by omega)]
    constructor
    · intro hq r hr
      refine Ev.step step ?_
      unfold rowB at hq
      by_cases e0 : l.getD i 0 = 0
      · exact ev_pos e0 hr
      · simp only [decide_eq_false e0, Bool.false_or, Bool.and_eq_true, decide_eq_true_eq] at hq
        refine ev_neg e0 (ev_pos hq.1 (Ev.bind (f := fun k t => if t = (i : Int) then spec_RowsOk.l0 k ((i + 1 : Nat) : Int) l st else some false) hk ?_))
        exact ev_pos hq.2 hr
    · intro hq
      refine Ev.step step ?_
      unfold rowB at hq
      simp only [Bool.or_eq_false_iff, decide_eq_false_iff_not, Bool.and_eq_false_iff] at hq
      refine ev_neg hq.1 (ev_ite (fun c => Ev.bind (f := fun k t => if t = (i : Int) then spec_RowsOk.l0 k ((i + 1 : Nat) : Int) l st else some false) hk ?_) (fun _ => Ev.now _))
      rcases hq.2 with h' | h'
      · rw [h'] at c; cases c
      · exact ev_neg h' (Ev.now _)
  · refine ev_succ (fun k => ?_)
    simp only [spec_RowsOk.l0, l1In_eq, Option.bind_some]
    rw [if_neg (by omega)]
    by_cases e : l.length = 4
    · rw [if_pos (by omega)]; simp [e]
    · rw [if_neg (by omega)]; simp [e]
theorem ev_impl_RowsOk (l : List Int) (st : Int) (hl : l.length ≤ 1048576) : Ev (fun k => impl_RowsOk.f k l st) (rowsOkB l st) := by
  refine rowsDown (g := fun k i => impl_RowsOk.l0 k l (l.length : Int) i l st) l _ (fun i hi => ?_) ?_
  · have hk := ev_Contains (l.take i) (l.getD i 0) (by rw [List.length_take]; omega)
    have hidx := idx_first l i hi
    have step : ∀ k, impl_RowsOk.l0 (k + 1) l (l.length : Int) (i : Int) l st = if l.getD i 0 = 0 then impl_RowsOk.l0 k l (l.length : Int) ((i + 1 : Nat) : Int) l st else if inB (l.getD i 0) 1 6 = true then (slices_Contains_int_int.f k (l.take i) (l.getD i 0)).bind fun t => if t = true then some false else impl_RowsOk.l0 k l (l.length : Int) ((i + 1 : Nat) : Int) l st else some false := by
      intro k
      simp only [impl_RowsOk.l0, rd_nat, impl_ValOk.f, from_eq, Option.bind_some]
      rw [if_pos (by omega), if_pos (by omega), if_pos (by omega), wrap_succ hi (by omega), if_pos (show (i : Int) ≤ (l.length : Int) by omega), Int.toNat_natCast]
    constructor
    · intro hq r hr
      refine Ev.step step ?_
      unfold rowB at hq
      by_cases e0 : l.getD i 0 = 0
      · exact ev_pos e0 hr
      · simp only [decide_eq_false e0, Bool.false_or, Bool.and_eq_true, decide_eq_true_eq] at hq
        refine ev_neg e0 (ev_pos hq.1 (Ev.bind (f := fun k t => if t = true then some false else impl_RowsOk.l0 k l (l.length : Int) ((i + 1 : Nat) : Int) l st) hk ?_))
        exact ev_neg (by simpa using hidx.1 hq.2) hr
    · intro hq
      refine Ev.step step ?_
      unfold rowB at hq
      simp only [Bool.or_eq_false_iff, decide_eq_false_iff_not, Bool.and_eq_false_iff] at hq
      refine ev_neg hq.1 (ev_ite (fun c => Ev.bind (f := fun k t => if t = true then some false else impl_RowsOk.l0 k l (l.length : Int) ((i + 1 : Nat) : Int) l st) hk ?_) (fun _ => Ev.now _))
      rcases hq.2 with h' | h'
      · rw [h'] at c; cases c
      · refine ev_pos ?_ (Ev.now _)
        have := mt hidx.2 h'
        simpa using this
  · refine ev_succ (fun k => ?_)
    simp only [impl_RowsOk.l0, from_eq, Option.bind_some]
    rw [if_neg (by omega)]
    by_cases e : l.length = 4
    · rw [if_pos (by omega)]; simp [e]
    · rw [if_neg (by omega)]; simp [e]
end Go.Proofs.YtopikhjcbcpiaaaGreat.Q
end
section
namespace Go.Proofs.YtopikhjcbcpiaaaGreat.Q
open Go.RowKit Go.Proofs.YtopikhjcbcpiaaaGreatW.PrintWords Go.Proofs.YtopikhjcbcpiaaaGreatX
theorem ev_any {α : Type} {p : Nat → α → Option Bool} {q : α → Bool} : ∀ l : List α, (∀ x ∈ l, Ev (fun k => p k x) (q x)) → Ev (fun k => anyO (p k) l) (l.any q)
  | [], _ => Ev.now false
  | x :: xs, h => by
    have ih := ev_any xs (fun y hy => h y (List.mem_cons_of_mem _ hy))
    show Ev (fun k => (p k x).bind fun b => if b = true then some true else anyO (p k) xs) _
    refine Ev.bind (f := fun k b => if b = true then some true else anyO (p k) xs) (h x List.mem_cons_self) ?_
    cases hq : q x with
    | true => simp only [if_true]; exact ev_to (Ev.now true) (by simp [hq])
    | false => simp only [Bool.false_eq_true, if_false]; exact ev_to ih (by simp [hq])
theorem any_eq {α : Type} {p : α → Option Bool} {q : α → Bool} : ∀ l : List α, (∀ x ∈ l, p x = some (q x)) → anyO p l = some (l.any q)
  | [], _ => rfl
  | x :: xs, h => by
    have ih := any_eq xs (fun y hy => h y (List.mem_cons_of_mem _ hy))
    unfold anyO
    rw [h x List.mem_cons_self, Option.bind_some, ih]
    cases hq : q x <;> simp [hq]
theorem ev_all {α : Type} {g : Nat → Int → Option Bool} (l : List α) (z : α) (q : α → Bool) (rest : Bool)
    (hstep : ∀ i : Nat, i < l.length → (q (l.getD i z) = true → ∀ r, Ev (fun k => g k ((i + 1 : Nat) : Int)) r → Ev (fun k => g k (i : Int)) r) ∧ (q (l.getD i z) = false → Ev (fun k => g k (i : Int)) false))
    (hend : Ev (fun k => g k (l.length : Int)) rest) : Ev (fun k => g k 0) (l.all q && rest) := by
  have key := ev_down (g := g) (R := fun i => (l.drop i).all q && rest) (n := l.length) (fun i hi h => ?_) 0 (by omega)
  · simpa using key
  · by_cases hlt : i < l.length
    · have e : l.getD i z = l[i] := by simp [List.getD_eq_getElem?_getD, List.getElem?_eq_getElem hlt]
      have hs := hstep i hlt
      rw [e] at hs
      have hd : (l.drop i).all q = (q l[i] && (l.drop (i + 1)).all q) := by rw [List.drop_eq_getElem_cons hlt, List.all_cons]
      rw [hd]
      cases hq : q l[i] with
      | true => exact ev_to (hs.1 hq _ (h hlt)) (by simp)
      | false => exact ev_to (hs.2 hq) (by simp)
    · obtain rfl : i = l.length := by omega
      exact ev_to hend (by simp)
def gotB (x : S145) : Bool := inB x.f0 0 19 && inB x.f1 0 1000
def stackB (n : Int) (x : S42) : Bool := decide (0 ≤ x.f0) && decide (x.f0 < n) && inB x.f1 1 1000000 && inB x.f2 0 20 && inB x.f3 0 20
def threadB (ops : List S132) (pc : Int) (on : Bool) (got : List S145) (stack : List S42) (n : Int) : Bool :=
  decide (ops.length ≤ 8) && inB pc 0 ops.length && (if on then decide (pc < ops.length) else decide (got.length + stack.length = 0)) && decide (got.length ≤ 12) && decide (stack.length ≤ 2) &&
  (ops.all (fun o => opOkB o.f0 o.f1 o.f2) && (got.all gotB && stack.all (stackB n)))
theorem ev_spec_l2 (ops : List S132) (pc : Int) (on : Bool) (got : List S145) (stack : List S42) (n : Int) (h : stack.length ≤ 1048576) :
    Ev (fun k => spec_ThreadOk.l2 k n 0 ops pc on got stack) (stack.all (stackB n)) := by
  refine ev_to (ev_all (g := fun k i => spec_ThreadOk.l2 k n i ops pc on got stack) stack z42 (stackB n) true (fun i hi => ?_) ?_) (by simp)
  · have e : rd_T42 stack (i : Int) = stack.getD i z42 := rfl
    generalize hx : stack.getD i z42 = x at e ⊢
    constructor
    · intro hq r hr
      unfold stackB at hq
      simp only [Bool.and_eq_true, decide_eq_true_eq] at hq
      obtain ⟨⟨⟨⟨h0, h1⟩, h2⟩, h3⟩, h4⟩ := hq
      refine Ev.step (fun k => ?_) hr
      simp only [spec_ThreadOk.l2, l1In_eq, Option.bind_some, e, h2, h3, h4]
      rw [if_pos (by omega), if_pos (by omega), if_neg (by omega), if_neg (by omega), wrap_succ hi (by omega)]
      simp
    · intro hq
      refine ev_succ (fun k => ?_)
      simp only [spec_ThreadOk.l2, l1In_eq, Option.bind_some, e]
      rw [if_pos (by omega), if_pos (by omega)]
      unfold stackB at hq
      by_cases a0 : x.f0 < 0
      · rw [if_pos a0]
      · rw [if_neg a0]
        by_cases a1 : x.f0 ≥ n
        · rw [if_pos a1]
        · rw [if_neg a1]
          cases h2 : inB x.f1 1 1000000 <;> cases h3 : inB x.f2 0 20 <;> cases h4 : inB x.f3 0 20 <;> simp_all <;> omega
  · refine ev_succ (fun k => ?_)
    simp only [spec_ThreadOk.l2]
    rw [if_neg (by omega)]
theorem ev_spec_l1 (ops : List S132) (pc : Int) (on : Bool) (got : List S145) (stack : List S42) (n : Int) (hg : got.length ≤ 1048576) (h : stack.length ≤ 1048576) :
    Ev (fun k => spec_ThreadOk.l1 k n 0 ops pc on got stack) (got.all gotB && stack.all (stackB n)) := by
  refine ev_all (g := fun k i => spec_ThreadOk.l1 k n i ops pc on got stack) got z145 gotB _ (fun i hi => ?_) ?_
  · have e : rd_T145 got (i : Int) = got.getD i z145 := rfl
    generalize hx : got.getD i z145 = x at e ⊢
    constructor
    · intro hq r hr
      unfold gotB at hq
      simp only [Bool.and_eq_true] at hq
      refine Ev.step (fun k => ?_) hr
      simp only [spec_ThreadOk.l1, l1In_eq, Option.bind_some, e, hq.1, hq.2]
      rw [if_pos (by omega), if_pos (by omega), wrap_succ hi (by omega)]
      simp
    · intro hq
      refine ev_succ (fun k => ?_)
      simp only [spec_ThreadOk.l1, l1In_eq, Option.bind_some, e]
      rw [if_pos (by omega), if_pos (by omega)]
      unfold gotB at hq
      cases h2 : inB x.f0 0 19 <;> cases h3 : inB x.f1 0 1000 <;> simp_all
  · refine Ev.step (fun k => ?_) (ev_spec_l2 ops pc on got stack n h)
    simp only [spec_ThreadOk.l1]
    rw [if_neg (by omega)]
theorem ev_spec_l0 (ops : List S132) (pc : Int) (on : Bool) (got : List S145) (stack : List S42) (n : Int) (ho : ops.length ≤ 1048576) (hg : got.length ≤ 1048576) (h : stack.length ≤ 1048576) :
    Ev (fun k => spec_ThreadOk.l0 k n 0 ops pc on got stack) (ops.all (fun o => opOkB o.f0 o.f1 o.f2) && (got.all gotB && stack.all (stackB n))) := by
  refine ev_all (g := fun k i => spec_ThreadOk.l0 k n i ops pc on got stack) ops z132 (fun o => opOkB o.f0 o.f1 o.f2) _ (fun i hi => ?_) ?_
  · have e : rd_T132 ops (i : Int) = ops.getD i z132 := rfl
    generalize hx : ops.getD i z132 = x at e ⊢
    have hev := ev_spec_OpOk x.f0 x.f1 x.f2
    constructor
    · intro hq r hr
      rw [hq] at hev
      refine Ev.step (fun k => ?_) (Ev.bind (f := fun k b => if b = true then spec_ThreadOk.l0 k n ((i + 1 : Nat) : Int) ops pc on got stack else some false) hev (by simpa using hr))
      simp only [spec_ThreadOk.l0, e]
      rw [if_pos (by omega), if_pos (by omega), wrap_succ hi (by omega)]
    · intro hq
      rw [hq] at hev
      refine Ev.step (fun k => ?_) (Ev.bind (f := fun k b => if b = true then spec_ThreadOk.l0 k n ((i + 1 : Nat) : Int) ops pc on got stack else some false) hev (by simpa using Ev.now false))
      simp only [spec_ThreadOk.l0, e]
      rw [if_pos (by omega), if_pos (by omega), wrap_succ hi (by omega)]
  · refine Ev.step (fun k => ?_) (ev_spec_l1 ops pc on got stack n hg h)
    simp only [spec_ThreadOk.l0]
    rw [if_neg (by omega)]
theorem ev_spec_j0 (b : Bool) (ops : List S132) (pc : Int) (on : Bool) (got : List S145) (stack : List S42) (n : Int) (ho : ops.length ≤ 1048576) (hg : got.length ≤ 1048576) (h : stack.length ≤ 1048576) :
    Ev (fun k => spec_ThreadOk.j0 k n b ops pc on got stack) (!b && (ops.all (fun o => opOkB o.f0 o.f1 o.f2) && (got.all gotB && stack.all (stackB n)))) := by
  cases b with
  | true => exact ev_succ (fun k => by simp [spec_ThreadOk.j0])
  | false => exact ev_to (Ev.step (fun k => by simp [spec_ThreadOk.j0]) (ev_spec_l0 ops pc on got stack n ho hg h)) (by simp)
theorem ev_spec_ThreadOk (ops : List S132) (pc : Int) (on : Bool) (got : List S145) (stack : List S42) (n : Int) (ho : ops.length ≤ 1048576) (hg : got.length ≤ 1048576) (h : stack.length ≤ 1048576) :
    Ev (fun k => spec_ThreadOk.f k ops pc on got stack n) (threadB ops pc on got stack n) := by
  have J := fun b => ev_spec_j0 b ops pc on got stack n ho hg h
  unfold threadB
  generalize (ops.all (fun o => opOkB o.f0 o.f1 o.f2) && (got.all gotB && stack.all (stackB n))) = rest at J ⊢
  unfold spec_ThreadOk.f
  simp only [l1In_eq, Option.bind_some]
  refine ev_ite (fun c => ev_to (J true) ?_) (fun c => ?_)
  · have : ¬ ops.length ≤ 8 := by omega
    simp [this]
  have c8 : ops.length ≤ 8 := by omega
  cases hp : inB pc 0 (ops.length : Int) with
  | false => exact ev_neg (by simp) (ev_to (J true) (by simp))
  | true =>
    refine ev_pos (by simp) ?_
    cases on with
    | true =>
      refine ev_pos rfl (ev_ite (fun c1 => ev_to (J true) ?_) (fun c1 => ev_ite (fun c2 => ev_to (J true) ?_) (fun c2 => ev_to (J _) ?_)))
      · have : ¬ pc < (ops.length : Int) := by omega
        simp [this]
      · have : ¬ got.length ≤ 12 := by omega
        simp [this]
      · have e1 : pc < (ops.length : Int) := by omega
        have e2 : got.length ≤ 12 := by omega
        by_cases c3 : (stack.length : Int) > 2
        · have : ¬ stack.length ≤ 2 := by omega
          simp [c3, this]
        · have : stack.length ≤ 2 := by omega
          simp [c3, this, e1, e2, c8]
    | false =>
      refine ev_neg (by simp) ?_
      rw [wrap_in (by omega) (by omega)]
      refine ev_ite (fun c1 => ev_to (J true) ?_) (fun c1 => ev_ite (fun c2 => ev_to (J true) ?_) (fun c2 => ev_to (J _) ?_))
      · have : ¬ got.length + stack.length = 0 := by omega
        simp only [Bool.false_eq_true, if_false, decide_eq_false this]
        simp
      · have : ¬ got.length ≤ 12 := by omega
        simp [this]
      · have e1 : got.length + stack.length = 0 := by omega
        have e2 : got.length ≤ 12 := by omega
        have e3 : stack.length ≤ 2 := by omega
        have c3 : ¬ (stack.length : Int) > 2 := by omega
        simp only [Bool.false_eq_true, if_false, decide_eq_true e1, decide_eq_true e2, decide_eq_true e3, decide_eq_true c8, decide_eq_false c3]
        simp
theorem ev_impl_j1 (b : Bool) (ops : List S132) (pc : Int) (on : Bool) (got : List S145) (stack : List S42) (n : Int) (hn : -9223372036854775808 < n) (hn' : n ≤ 9223372036854775807) :
    Ev (fun k => impl_ThreadOk.j1 k b ops pc on got stack n) (!b && (got.all gotB && stack.all (stackB n))) := by
  have h2 : impl_ThreadOk_2_any.f got = some (got.any fun x => !gotB x) := by
    unfold impl_ThreadOk_2_any.f
    refine any_eq _ (fun x _ => ?_)
    simp only [impl_ThreadOk_2.f, impl_isPlace.f, impl_isWordNum.f, from_eq, Option.bind_some, gotB]
    cases inB x.f0 0 19 <;> simp
  have h3 : impl_ThreadOk_3_any.f stack n = some (stack.any fun x => !stackB n x) := by
    unfold impl_ThreadOk_3_any.f
    refine any_eq _ (fun x _ => ?_)
    have e : inB x.f0 0 (wrap64 (n - 1)) = (decide (0 ≤ x.f0) && decide (x.f0 < n)) := by
      rw [wrap_in (by omega) (by omega)]
      unfold inB
      rw [Bool.eq_iff_iff]
      simp
      omega
    simp only [impl_ThreadOk_3.f, from_eq, Option.bind_some, stackB, e]
    cases (decide (0 ≤ x.f0) && decide (x.f0 < n)) <;> cases inB x.f1 1 1000000 <;> cases inB x.f2 0 20 <;> simp
  have e2 : got.all gotB = !(got.any fun x => !gotB x) := by simp [List.all_eq_not_any_not]
  have e3 : stack.all (stackB n) = !(stack.any fun x => !stackB n x) := by simp [List.all_eq_not_any_not]
  refine ev_succ (fun k => ?_)
  simp only [impl_ThreadOk.j1, h2, h3, Option.bind_some]
  rw [e2, e3]
  cases b <;> cases (got.any fun x => !gotB x) <;> simp
theorem ev_impl_j0 (b : Bool) (ops : List S132) (pc : Int) (on : Bool) (got : List S145) (stack : List S42) (n : Int) (hn : -9223372036854775808 < n) (hn' : n ≤ 9223372036854775807) (hg : got.length ≤ 1048576) (h : stack.length ≤ 1048576) :
    Ev (fun k => impl_ThreadOk.j0 k b ops pc on got stack n) (!b && ((on || decide (got.length + stack.length = 0)) && (got.all gotB && stack.all (stackB n)))) := by
  have J := fun b => ev_impl_j1 b ops pc on got stack n hn hn'
  cases b with
  | true => exact ev_succ (fun k => by simp [impl_ThreadOk.j0])
  | false =>
    cases on with
    | true => exact ev_to (Ev.step (fun k => by simp [impl_ThreadOk.j0]) (J false)) (by simp)
    | false =>
      refine ev_to (Ev.step (fun k => ?_) (J (decide ((got.length : Int) + (stack.length : Int) > 0)))) ?_
      · simp only [impl_ThreadOk.j0]
        rw [wrap_in (by omega) (by omega)]
        simp
      · have e : (!decide ((got.length : Int) + (stack.length : Int) > 0)) = decide (got.length + stack.length = 0) := by
          by_cases h0 : got.length + stack.length = 0
          · rw [decide_eq_true h0, decide_eq_false (by omega)]; rfl
          · rw [decide_eq_false h0, decide_eq_true (by omega)]; rfl
        rw [e]
        simp
theorem ev_impl_ThreadOk (ops : List S132) (pc : Int) (on : Bool) (got : List S145) (stack : List S42) (n : Int) (hn : -9223372036854775808 < n) (hn' : n ≤ 9223372036854775807) (hg : got.length ≤ 1048576) (h : stack.length ≤ 1048576) :
    Ev (fun k => impl_ThreadOk.f k ops pc on got stack n) (threadB ops pc on got stack n) := by
  have J := fun b => ev_impl_j0 b ops pc on got stack n hn hn' hg h
  have h1 : Ev (fun k => impl_ThreadOk_1_any.f k ops) (ops.any fun o => !opOkB o.f0 o.f1 o.f2) := by
    unfold impl_ThreadOk_1_any.f
    refine ev_any (p := fun k (x : S132) => impl_ThreadOk_1.f k x.f0 x.f1 x.f2) _ (fun x _ => ?_)
    unfold impl_ThreadOk_1.f
    exact Ev.bind (f := fun _ b => some (!b)) (ev_impl_OpOk _ _ _) (Ev.now _)
  have e1 : ops.all (fun o => opOkB o.f0 o.f1 o.f2) = !(ops.any fun o => !opOkB o.f0 o.f1 o.f2) := by simp [List.all_eq_not_any_not]
  unfold threadB
  rw [e1]
  generalize (got.all gotB && stack.all (stackB n)) = rest at J ⊢
  generalize (ops.any fun o => !opOkB o.f0 o.f1 o.f2) = bad at h1 ⊢
  unfold impl_ThreadOk.f
  refine ev_ite (fun c => ev_to (J true) ?_) (fun c => ?_)
  · have : ¬ ops.length ≤ 8 := by omega
    simp [this]
  have c8 : ops.length ≤ 8 := by omega
  refine Ev.bind (f := fun k b => if b = true then impl_ThreadOk.j0 k true ops pc on got stack n else _) h1 ?_
  cases bad with
  | true => exact ev_pos rfl (ev_to (J true) (by simp))
  | false =>
    refine ev_neg (by simp) ?_
    simp only [from_eq, Option.bind_some]
    cases hp : inB pc 0 (ops.length : Int) with
    | false => exact ev_neg (by simp) (ev_to (J true) (by simp))
    | true =>
      have hp' : 0 ≤ pc ∧ pc ≤ (ops.length : Int) := by simpa [inB] using hp
      refine ev_pos (by simp) ?_
      have last : ∀ b0 : Bool, (on = true → b0 = decide (pc < (ops.length : Int))) → (on = false → b0 = true) → Ev (fun k => if (got.length : Int) > 12 then impl_ThreadOk.j0 k true ops pc on got stack n else impl_ThreadOk.j0 k (decide ((stack.length : Int) > 2)) ops pc on got stack n) (decide (got.length ≤ 12) && decide (stack.length ≤ 2) && ((on || decide (got.length + stack.length = 0)) && rest)) := by
        intro b0 _ _
        refine ev_ite (fun c2 => ev_to (J true) ?_) (fun c2 => ev_to (J _) ?_)
        · have : ¬ got.length ≤ 12 := by omega
          simp [this]
        · have e2 : got.length ≤ 12 := by omega
          have e3 : (!decide ((stack.length : Int) > 2)) = decide (stack.length ≤ 2) := by
            rw [Bool.eq_iff_iff]; simp; omega
          rw [e3]
          simp [e2]
      cases on with
      | true =>
        refine ev_pos rfl (ev_ite (fun c1 => ev_to (J true) ?_) (fun c1 => ev_to (last true (by simp; omega) (by simp)) ?_))
        · have : ¬ pc < (ops.length : Int) := by omega
          simp [this]
        · have : pc < (ops.length : Int) := by omega
          simp [this, c8, Bool.and_assoc]
      | false =>
        refine ev_neg (by simp) (ev_to (last true (by simp) (by simp)) ?_)
        simp only [Bool.false_or, Bool.false_eq_true, if_false, decide_eq_true c8, Bool.true_and, Bool.not_false]
        cases decide (got.length + stack.length = 0) <;> cases decide (got.length ≤ 12) <;> cases decide (stack.length ≤ 2) <;> simp
end Go.Proofs.YtopikhjcbcpiaaaGreat.Q
end
section
namespace Go.Proofs.YtopikhjcbcpiaaaGreat.Q
open Go.RowKit Go.Proofs.YtopikhjcbcpiaaaGreatW.PrintWords Go.Proofs.YtopikhjcbcpiaaaGreatX
theorem ev_idx {g : Nat → Int → Option Bool} (n : Nat) (q : Nat → Bool) (rest : Bool)
    (hstep : ∀ i : Nat, i < n → (q i = true → ∀ r, Ev (fun k => g k ((i + 1 : Nat) : Int)) r → Ev (fun k => g k (i : Int)) r) ∧ (q i = false → Ev (fun k => g k (i : Int)) false))
    (hend : Ev (fun k => g k (n : Int)) rest) : Ev (fun k => g k 0) ((List.range n).all q && rest) := by
  refine ev_all (g := g) (List.range n) 0 q rest (fun i hi => ?_) (by simpa using hend)
  have hi' : i < n := by simpa using hi
  have e : (List.range n).getD i 0 = i := by simp [List.getD_eq_getElem?_getD, hi']
  rw [e]
  exact hstep i hi'
def entE (at_ : Int) : List S37 → Int × Int × Int × Bool
  | [] => (0, 0, 0, false)
  | e :: r => if e.f0 = at_ then (e.f0, e.f1, e.f2, true) else entE at_ r
theorem getD37 {l : List S37} {i : Nat} (h : i < l.length) : l.getD i z37 = l[i] := by simp [List.getD_eq_getElem?_getD, List.getElem?_eq_getElem h]
theorem rd37 {l : List S37} {i : Nat} : rd_T37 l (i : Int) = l.getD i z37 := by
  show l.getD (i : Int).toNat z37 = _
  rw [Int.toNat_natCast]
theorem ev_spec_Entries (a b : Int) (l : List S37) (c : Int) (d : List Int) (at_ : Int) (hl : l.length ≤ 1048576) : Ev (fun k => spec_Entries.f k a b l c d at_) (entE at_ l) := by
  have key := ev_down (g := fun k i => spec_Entries.l0 k at_ i a b l c d) (R := fun i => entE at_ (l.drop i)) (n := l.length) (fun i hi h => ?_) 0 (by omega)
  · simpa [spec_Entries.f] using key
  · by_cases hlt : i < l.length
    · rw [List.drop_eq_getElem_cons hlt]
      by_cases hm : l[i].f0 = at_
      · refine ev_to (ev_succ (fun k => ?_)) (by rw [entE, if_pos hm])
        simp only [spec_Entries.l0, rd37, getD37 hlt]
        rw [if_pos (by omega), if_pos (by omega), if_pos hm]
      · refine ev_to (Ev.step (fun k => ?_) (h hlt)) (by rw [entE, if_neg hm])
        simp only [spec_Entries.l0, rd37, getD37 hlt]
        rw [if_pos (by omega), if_pos (by omega), if_neg hm, wrap_succ hlt (by omega)]
    · refine ev_to (ev_succ (fun k => ?_)) (by rw [List.drop_eq_nil_of_le (by omega)])
      simp only [spec_Entries.l0]
      rw [if_neg (by omega)]
      rfl
theorem ev_impl_Entries (a b : Int) (l : List S37) (c : Int) (d : List Int) (at_ : Int) (hl : l.length ≤ 1048576) : Ev (fun k => impl_Entries.f k a b l c d at_) (entE at_ l) := by
  have key := ev_down (g := fun k i => impl_Entries.l0 k at_ l (l.length : Int) i) (R := fun i => entE at_ (l.drop i)) (n := l.length) (fun i hi h => ?_) 0 (by omega)
  · simpa [impl_Entries.f] using key
  · by_cases hlt : i < l.length
    · rw [List.drop_eq_getElem_cons hlt]
      by_cases hm : l[i].f0 = at_
      · refine ev_to (ev_succ (fun k => ?_)) (by rw [entE, if_pos hm])
        simp only [impl_Entries.l0, rd37, getD37 hlt]
        rw [if_pos (by omega), if_pos (by omega), if_pos (by omega), if_pos hm]
      · refine ev_to (Ev.step (fun k => ?_) (h hlt)) (by rw [entE, if_neg hm])
        simp only [impl_Entries.l0, rd37, getD37 hlt]
        rw [if_pos (by omega), if_pos (by omega), if_pos (by omega), if_neg hm, wrap_succ hlt (by omega)]
    · refine ev_to (ev_succ (fun k => ?_)) (by rw [List.drop_eq_nil_of_le (by omega)])
      simp only [impl_Entries.l0]
      rw [if_neg (by omega)]
      rfl
def entB (l : List S37) (i : Nat) : Bool :=
  inB (l.getD i z37).f0 0 19 && (inB (l.getD i z37).f1 0 1000 && (inB (l.getD i z37).f2 0 1000 && (decide (i = 0) || decide ((l.getD (i - 1) z37).f0 < (l.getD i z37).f0))))
def descB (a b : Int) (l : List S37) (c : Int) (d : List Int) : Bool :=
  if a = 0 then decide (b = 0) && (decide (l.length = 0) && (decide (c = 0) && decide (d.length = 0)))
  else (List.range l.length).all (entB l) && (inB a 1 1000000 && (inB b 1 3 && decide (l.length ≤ 20)))
theorem rd_prev {l : List S37} {i : Nat} (h : i < l.length) (h0 : 0 < i) (hl : l.length ≤ 1048576) : wrap64 ((i : Int) - 1) = ((i - 1 : Nat) : Int) := by
  rw [wrap_in (by omega) (by omega)]; omega
theorem ev_impl_DescOk (a b : Int) (l : List S37) (c : Int) (d : List Int) (hl : l.length ≤ 1048576) : Ev (fun k => impl_DescOk.f k a b l c d) (descB a b l c d) := by
  unfold impl_DescOk.f descB
  by_cases ha : a = 0
  · simp only [if_pos ha]
    refine ev_of (fun k => ?_)
    by_cases hb : b = 0
    · by_cases hl0 : l.length = 0
      · by_cases hc : c = 0
        · simp only [hb, hl0, hc, if_true, Int.natCast_zero, decide_true, Bool.true_and, Option.some.injEq]
          rw [Bool.eq_iff_iff]; simp
        · simp [hb, hl0, hc]
      · have : ¬ (l.length : Int) = 0 := by omega
        simp only [if_pos hb, if_neg this, hl0, decide_false, Bool.false_and, Bool.and_false]
    · simp [hb]
  · simp only [if_neg ha]
    refine ev_idx (g := fun k i => impl_DescOk.l0 k l (l.length : Int) i a b l c d) l.length (entB l) _ (fun i hi => ?_) ?_
    · have hp : 0 < i → wrap64 ((i : Int) - 1) = ((i - 1 : Nat) : Int) := fun h0 => rd_prev hi h0 hl
      constructor
      · intro hq r hr
        unfold entB at hq
        simp only [Bool.and_eq_true, Bool.or_eq_true, decide_eq_true_eq] at hq
        obtain ⟨q0, q1, q2, q3⟩ := hq
        refine Ev.step (fun k => ?_) hr
        simp only [impl_DescOk.l0, impl_isPlace.f, impl_isWordNum.f, from_eq, Option.bind_some, rd37, q0, q1, q2, if_true]
        rw [if_pos (by omega), if_pos (by omega), if_pos (by omega), wrap_succ hi (by omega)]
        by_cases h0 : i = 0
        · rw [if_neg (by omega)]
        · have q3' : (l.getD (i - 1) z37).f0 < (l.getD i z37).f0 := by
            rcases q3 with h | h
            · exact absurd h h0
            · exact h
          rw [if_pos (by omega), hp (by omega), if_pos (by omega), if_pos (by omega), rd37, if_neg (by omega)]
      · intro hq
        refine ev_succ (fun k => ?_)
        simp only [impl_DescOk.l0, impl_isPlace.f, impl_isWordNum.f, from_eq, Option.bind_some, rd37]
        rw [if_pos (by omega), if_pos (by omega), if_pos (by omega)]
        unfold entB at hq
        cases q0 : inB (l.getD i z37).f0 0 19 with
        | false => simp
        | true =>
          cases q1 : inB (l.getD i z37).f1 0 1000 with
          | false => simp
          | true =>
            cases q2 : inB (l.getD i z37).f2 0 1000 with
            | false => simp
            | true =>
              simp only [q0, q1, q2, Bool.true_and, Bool.or_eq_false_iff, decide_eq_false_iff_not] at hq
              simp only [if_true]
              rw [if_pos (by omega), hp (by omega), if_pos (by omega), if_pos (by omega), rd37, if_pos (by omega)]
    · refine ev_succ (fun k => ?_)
      simp only [impl_DescOk.l0, from_eq, Option.bind_some]
      rw [if_neg (by omega)]
      cases inB a 1 1000000 <;> cases inB b 1 3 <;> simp
      exact Iff.intro (by omega) (by omega)
theorem ev_spec_DescOk (a b : Int) (l : List S37) (c : Int) (d : List Int) (hl : l.length ≤ 1048576) : Ev (fun k => spec_DescOk.f k a b l c d) (descB a b l c d) := by
  have J : ∀ x : Bool, Ev (fun k => spec_DescOk.j0 k x a b l c d) (!x && (List.range l.length).all (entB l)) := by
    intro x
    cases x with
    | true => exact ev_succ (fun k => by simp [spec_DescOk.j0])
    | false =>
      refine Ev.step (f := fun k => spec_DescOk.l0 k 0 a b l c d) (fun k => by simp [spec_DescOk.j0]) ?_
      refine ev_to (ev_idx (g := fun k i => spec_DescOk.l0 k i a b l c d) l.length (entB l) true (fun i hi => ?_) ?_) (by simp)
      · have hp : 0 < i → wrap64 ((i : Int) - 1) = ((i - 1 : Nat) : Int) := fun h0 => rd_prev hi h0 hl
        constructor
        · intro hq r hr
          unfold entB at hq
          simp only [Bool.and_eq_true, Bool.or_eq_true, decide_eq_true_eq] at hq
          obtain ⟨q0, q1, q2, q3⟩ := hq
          refine Ev.step (fun k => ?_) hr
          simp only [spec_DescOk.l0, l1In_eq, Option.bind_some, rd37, q0, q1, q2, if_true]
          rw [if_pos (by omega), if_pos (by omega), wrap_succ hi (by omega)]
          by_cases h0 : i = 0
          · rw [if_neg (by omega)]
          · have q3' : (l.getD (i - 1) z37).f0 < (l.getD i z37).f0 := by
              rcases q3 with h | h
              · exact absurd h h0
              · exact h
            rw [if_pos (by omega), hp (by omega), if_pos (by omega), if_pos (by omega), rd37, if_neg (by omega)]
        · intro hq
          refine ev_succ (fun k => ?_)
          simp only [spec_DescOk.l0, l1In_eq, Option.bind_some, rd37]
          rw [if_pos (by omega), if_pos (by omega)]
          unfold entB at hq
          cases q0 : inB (l.getD i z37).f0 0 19 with
          | false => simp
          | true =>
            cases q1 : inB (l.getD i z37).f1 0 1000 with
            | false => simp
            | true =>
              cases q2 : inB (l.getD i z37).f2 0 1000 with
              | false => simp
              | true =>
                simp only [q0, q1, q2, Bool.true_and, Bool.or_eq_false_iff, decide_eq_false_iff_not] at hq
                simp only [if_true]
                rw [if_pos (by omega), hp (by omega), if_pos (by omega), if_pos (by omega), rd37, if_pos (by omega)]
      · refine ev_succ (fun k => ?_)
        simp only [spec_DescOk.l0]
        rw [if_neg (by omega)]
  unfold spec_DescOk.f descB
  by_cases ha : a = 0
  · simp only [if_pos ha]
    refine ev_of (fun k => ?_)
    by_cases hb : b = 0
    · by_cases hl0 : l.length = 0
      · by_cases hc : c = 0
        · simp only [hb, hl0, hc, if_true, Int.natCast_zero, decide_true, Bool.true_and, Option.some.injEq]
          rw [Bool.eq_iff_iff]; simp
        · simp [hb, hl0, hc]
      · have : ¬ (l.length : Int) = 0 := by omega
        simp only [if_pos hb, if_neg this, hl0, decide_false, Bool.false_and, Bool.and_false]
    · simp [hb]
  · simp only [if_neg ha, l1In_eq, Option.bind_some]
    cases inB a 1 1000000 with
    | false => exact ev_neg (by simp) (ev_to (J true) (by simp))
    | true =>
      refine ev_pos rfl ?_
      cases inB b 1 3 with
      | false => exact ev_neg (by simp) (ev_to (J true) (by simp))
      | true =>
        refine ev_pos rfl (ev_to (J _) ?_)
        have e : (!decide ((l.length : Int) > 20)) = decide (l.length ≤ 20) := by
          by_cases h : l.length ≤ 20
          · rw [decide_eq_true h, decide_eq_false (by omega)]; rfl
          · rw [decide_eq_false h, decide_eq_true (by omega)]; rfl
        rw [e, Bool.and_comm]
        simp
def wordB (a b c n : Int) : Bool := if b = 0 then inB a 0 1000 && decide (c = 0) else decide (a = 0) && (inB b 1 n && inB c 1 1000000)
theorem impl_WordOk_eq (a b c n : Int) : impl_WordOk.f a b c n = some (wordB a b c n) := by
  unfold impl_WordOk.f wordB
  simp only [impl_isWordNum.f, from_eq, Option.bind_some]
  by_cases hb : b = 0
  · rw [if_pos hb, if_pos hb]
    cases inB a 0 1000 <;> simp
    rw [Bool.eq_iff_iff]; simp
  · rw [if_neg hb, if_neg hb]
    by_cases ha : a = 0
    · rw [if_pos ha]; cases inB b 1 n <;> simp [ha]
    · rw [if_neg ha]; simp [ha]
theorem spec_WordOk_eq (a b c n : Int) : spec_WordOk.f a b c n = some (wordB a b c n) := by
  unfold spec_WordOk.f wordB
  simp only [l1In_eq, Option.bind_some]
  by_cases hb : b = 0
  · rw [if_pos hb, if_pos hb]
    by_cases hc : c = 0
    · rw [if_pos hc]; simp [hc]
    · rw [if_neg hc]; simp [hc]
  · rw [if_neg hb, if_neg hb]
    by_cases ha : a = 0
    · rw [if_pos ha]; cases inB b 1 n <;> simp [ha]
    · rw [if_neg ha]; simp [ha]
def descV (x : S52) : Bool := descB x.f0 x.f1 x.f2 x.f3.f0 x.f3.f1
def markB (ds : List S52) (w : S39) (i : Nat) : Bool :=
  decide (w.f1 = 0) || ((entE (i : Int) (ds.getD (w.f1 - 1).toNat z52).f2).2.2.2 && decide ((ds.getD (w.f1 - 1).toNat z52).f0 = w.f2))
def wordV (ws : List S39) (ds : List S52) (i : Nat) : Bool :=
  wordB (ws.getD i z39).f0 (ws.getD i z39).f1 (ws.getD i z39).f2 ds.length && markB ds (ws.getD i z39) i
def memB (ws : List S39) (ds : List S52) : Bool :=
  decide (ws.length = 20) && (inB ds.length 1 4 && (ds.all descV && (List.range ws.length).all (wordV ws ds)))
def fitM (ds : List S52) : Prop := ∀ x ∈ ds, x.f2.length ≤ 1048576
theorem wordB_range {a b c n : Int} (h : wordB a b c n = true) (hb : ¬ b = 0) : 1 ≤ b ∧ b ≤ n := by
  unfold wordB at h
  rw [if_neg hb] at h
  simp only [Bool.and_eq_true] at h
  simpa [inB] using h.2.1
theorem getD52 {l : List S52} {i : Nat} (h : i < l.length) : l.getD i z52 = l[i] := by simp [List.getD_eq_getElem?_getD, List.getElem?_eq_getElem h]
theorem ev_impl_words (ws : List S39) (ds : List S52) (hw : ws.length ≤ 1048576) (hd : ds.length ≤ 1048576) (hf : fitM ds) :
    Ev (fun k => impl_MemOk.l0 k ws (ws.length : Int) 0 ws ds) ((List.range ws.length).all (wordV ws ds)) := by
  refine ev_to (ev_idx (g := fun k i => impl_MemOk.l0 k ws (ws.length : Int) i ws ds) ws.length (wordV ws ds) true (fun i hi => ?_) ?_) (by simp)
  · have e : rd_T39 ws (i : Int) = ws.getD i z39 := rfl
    unfold wordV
    generalize hx : ws.getD i z39 = w at e ⊢
    by_cases hb : w.f1 = 0
    · constructor
      · intro hq r hr
        simp only [Bool.and_eq_true] at hq
        refine Ev.step (fun k => ?_) hr
        simp only [impl_MemOk.l0, impl_WordOk_eq, Option.bind_some, e, hq.1]
        rw [if_pos (by omega), if_pos (by omega), if_pos (by omega), if_pos trivial, if_pos hb, wrap_succ hi (by omega)]
      · intro hq
        have hq' : wordB w.f0 w.f1 w.f2 (ds.length : Int) = false := by
          unfold markB at hq
          simpa [hb] using hq
        refine ev_succ (fun k => ?_)
        simp only [impl_MemOk.l0, impl_WordOk_eq, Option.bind_some, e, hq']
        rw [if_pos (by omega), if_pos (by omega), if_pos (by omega), if_neg (by simp)]
    · cases hwb : wordB w.f0 w.f1 w.f2 (ds.length : Int) with
      | false =>
        refine ⟨fun hq => by simp at hq, fun _ => ev_succ (fun k => ?_)⟩
        simp only [impl_MemOk.l0, impl_WordOk_eq, Option.bind_some, e, hwb]
        rw [if_pos (by omega), if_pos (by omega), if_pos (by omega), if_neg (by simp)]
      | true =>
        have hr := wordB_range hwb hb
        have ht : wrap64 (w.f1 - 1) = ((w.f1 - 1).toNat : Int) := by rw [wrap_in (by omega) (by omega)]; omega
        have hlt : (w.f1 - 1).toNat < ds.length := by omega
        have ed : rd_T52 ds (((w.f1 - 1).toNat : Nat) : Int) = ds.getD (w.f1 - 1).toNat z52 := rfl
        have hfit := hf _ (List.getElem_mem hlt)
        rw [← getD52 hlt] at hfit
        unfold markB
        generalize hdd : ds.getD (w.f1 - 1).toNat z52 = dd at ed hfit ⊢
        have hE := ev_impl_Entries dd.f0 dd.f1 dd.f2 dd.f3.f0 dd.f3.f1 (i : Int) hfit
        have hm : decide (w.f1 = 0) = false := decide_eq_false hb
        rw [hm]
        constructor
        · intro hq r hrr
          simp only [Bool.true_and, Bool.false_or, Bool.and_eq_true, decide_eq_true_eq] at hq
          refine Ev.step (f := fun k => (impl_Entries.f k dd.f0 dd.f1 dd.f2 dd.f3.f0 dd.f3.f1 (i : Int)).bind fun bt => if bt.2.2.2 = true then (if dd.f0 = w.f2 then impl_MemOk.l0 k ws (ws.length : Int) ((i + 1 : Nat) : Int) ws ds else some false) else some false) (fun k => ?_) (Ev.bind hE (ev_pos hq.1 (ev_pos hq.2 hrr)))
          simp only [impl_MemOk.l0, impl_WordOk_eq, Option.bind_some, e, hwb, ht, ed]
          rw [if_pos (by omega), if_pos (by omega), if_pos (by omega), if_pos trivial, if_neg hb, if_pos (by omega), if_pos (by omega), wrap_succ hi (by omega)]
        · intro hq
          simp only [Bool.true_and, Bool.false_or] at hq
          refine Ev.step (f := fun k => (impl_Entries.f k dd.f0 dd.f1 dd.f2 dd.f3.f0 dd.f3.f1 (i : Int)).bind fun bt => if bt.2.2.2 = true then (if dd.f0 = w.f2 then impl_MemOk.l0 k ws (ws.length : Int) ((i + 1 : Nat) : Int) ws ds else some false) else some false) (fun k => ?_) (Ev.bind hE ?_)
          · simp only [impl_MemOk.l0, impl_WordOk_eq, Option.bind_some, e, hwb, ht, ed]
            rw [if_pos (by omega), if_pos (by omega), if_pos (by omega), if_pos trivial, if_neg hb, if_pos (by omega), if_pos (by omega), wrap_succ hi (by omega)]
          · cases h4 : (entE (i : Int) dd.f2).2.2.2 with
            | false => exact ev_neg (by simp) (Ev.now _)
            | true =>
              refine ev_pos rfl (ev_neg ?_ (Ev.now _))
              simpa [h4] using hq
  · refine ev_succ (fun k => ?_)
    simp only [impl_MemOk.l0]
    rw [if_neg (by omega)]
theorem ev_spec_words (ws : List S39) (ds : List S52) (hw : ws.length ≤ 1048576) (hd : ds.length ≤ 1048576) (hf : fitM ds) :
    Ev (fun k => spec_MemOk.l1 k 0 ws ds) ((List.range ws.length).all (wordV ws ds)) := by
  refine ev_to (ev_idx (g := fun k i => spec_MemOk.l1 k i ws ds) ws.length (wordV ws ds) true (fun i hi => ?_) ?_) (by simp)
  · have e : rd_T39 ws (i : Int) = ws.getD i z39 := rfl
    unfold wordV
    generalize hx : ws.getD i z39 = w at e ⊢
    by_cases hb : w.f1 = 0
    · constructor
      · intro hq r hr
        simp only [Bool.and_eq_true] at hq
        refine Ev.step (fun k => ?_) hr
        simp only [spec_MemOk.l1, spec_WordOk_eq, Option.bind_some, e, hq.1]
        rw [if_pos (by omega), if_pos (by omega), if_pos trivial, if_neg (by omega), wrap_succ hi (by omega)]
      · intro hq
        have hq' : wordB w.f0 w.f1 w.f2 (ds.length : Int) = false := by
          unfold markB at hq
          simpa [hb] using hq
        refine ev_succ (fun k => ?_)
        simp only [spec_MemOk.l1, spec_WordOk_eq, Option.bind_some, e, hq']
        rw [if_pos (by omega), if_pos (by omega), if_neg (by simp)]
    · cases hwb : wordB w.f0 w.f1 w.f2 (ds.length : Int) with
      | false =>
        refine ⟨fun hq => by simp at hq, fun _ => ev_succ (fun k => ?_)⟩
        simp only [spec_MemOk.l1, spec_WordOk_eq, Option.bind_some, e, hwb]
        rw [if_pos (by omega), if_pos (by omega), if_neg (by simp)]
      | true =>
        have hr := wordB_range hwb hb
        have ht : wrap64 (w.f1 - 1) = ((w.f1 - 1).toNat : Int) := by rw [wrap_in (by omega) (by omega)]; omega
        have hlt : (w.f1 - 1).toNat < ds.length := by omega
        have ed : rd_T52 ds (((w.f1 - 1).toNat : Nat) : Int) = ds.getD (w.f1 - 1).toNat z52 := rfl
        have hfit := hf _ (List.getElem_mem hlt)
        rw [← getD52 hlt] at hfit
        unfold markB
        generalize hdd : ds.getD (w.f1 - 1).toNat z52 = dd at ed hfit ⊢
        have hE := ev_spec_Entries dd.f0 dd.f1 dd.f2 dd.f3.f0 dd.f3.f1 (i : Int) hfit
        have hm : decide (w.f1 = 0) = false := decide_eq_false hb
        rw [hm]
        constructor
        · intro hq r hrr
          simp only [Bool.true_and, Bool.false_or, Bool.and_eq_true, decide_eq_true_eq] at hq
          refine Ev.step (f := fun k => (spec_Entries.f k dd.f0 dd.f1 dd.f2 dd.f3.f0 dd.f3.f1 (i : Int)).bind fun bt => if bt.2.2.2 = true then (if dd.f0 = w.f2 then spec_MemOk.l1 k ((i + 1 : Nat) : Int) ws ds else some false) else some false) (fun k => ?_) (Ev.bind hE (ev_pos hq.1 (ev_pos hq.2 hrr)))
          simp only [spec_MemOk.l1, spec_WordOk_eq, Option.bind_some, e, hwb, ht, ed]
          rw [if_pos (by omega), if_pos (by omega), if_pos trivial, if_pos (by omega), if_pos (by omega), if_pos (by omega), wrap_succ hi (by omega)]
        · intro hq
          simp only [Bool.true_and, Bool.false_or] at hq
          refine Ev.step (f := fun k => (spec_Entries.f k dd.f0 dd.f1 dd.f2 dd.f3.f0 dd.f3.f1 (i : Int)).bind fun bt => if bt.2.2.2 = true then (if dd.f0 = w.f2 then spec_MemOk.l1 k ((i + 1 : Nat) : Int) ws ds else some false) else some false) (fun k => ?_) (Ev.bind hE ?_)
          · simp only [spec_MemOk.l1, spec_WordOk_eq, Option.bind_some, e, hwb, ht, ed]
            rw [if_pos (by omega), if_pos (by omega), if_pos trivial, if_pos (by omega), if_pos (by omega), if_pos (by omega), wrap_succ hi (by omega)]
          · cases h4 : (entE (i : Int) dd.f2).2.2.2 with
            | false => exact ev_neg (by simp) (Ev.now _)
            | true =>
              refine ev_pos rfl (ev_neg ?_ (Ev.now _))
              simpa [h4] using hq
  · refine ev_succ (fun k => ?_)
    simp only [spec_MemOk.l1]
    rw [if_neg (by omega)]
theorem ev_impl_MemOk (ws : List S39) (ds : List S52) (hw : ws.length ≤ 1048576) (hd : ds.length ≤ 1048576) (hf : fitM ds) : Ev (fun k => impl_MemOk.f k ws ds) (memB ws ds) := by
  have hany : Ev (fun k => impl_MemOk_1_any.f k ds) (ds.any fun x => !descV x) := by
    unfold impl_MemOk_1_any.f
    refine ev_any (p := fun k (x : S52) => impl_MemOk_1.f k x.f0 x.f1 x.f2 x.f3.f0 x.f3.f1) _ (fun x hx => ?_)
    unfold impl_MemOk_1.f
    exact Ev.bind (f := fun _ b => some (!b)) (ev_impl_DescOk _ _ _ _ _ (hf x hx)) (Ev.now _)
  have e1 : ds.all descV = !(ds.any fun x => !descV x) := by simp [List.all_eq_not_any_not]
  have J : ∀ b : Bool, Ev (fun k => impl_MemOk.j0 k b ws ds) (!b && (List.range ws.length).all (wordV ws ds)) := by
    intro b
    cases b with
    | true => exact ev_succ (fun k => by simp [impl_MemOk.j0])
    | false => exact ev_to (Ev.step (fun k => by simp [impl_MemOk.j0]) (ev_impl_words ws ds hw hd hf)) (by simp)
  unfold impl_MemOk.f memB
  simp only [from_eq, Option.bind_some]
  by_cases h20 : ws.length = 20
  · refine ev_pos (by omega) ?_
    rw [decide_eq_true h20, Bool.true_and]
    cases inB (ds.length : Int) 1 4 with
    | false => exact ev_neg (by simp) (ev_to (J true) (by simp))
    | true => exact ev_pos rfl (Ev.bind hany (ev_to (J _) (by rw [e1]; simp)))
  · refine ev_neg (by omega) (ev_to (J true) ?_)
    rw [decide_eq_false h20]; simp
theorem ev_spec_MemOk (ws : List S39) (ds : List S52) (hw : ws.length ≤ 1048576) (hd : ds.length ≤ 1048576) (hf : fitM ds) : Ev (fun k => spec_MemOk.f k ws ds) (memB ws ds) := by
  have L : Ev (fun k => spec_MemOk.l0 k 0 ws ds) (ds.all descV && (List.range ws.length).all (wordV ws ds)) := by
    refine ev_all (g := fun k i => spec_MemOk.l0 k i ws ds) ds z52 descV _ (fun i hi => ?_) ?_
    · have e : rd_T52 ds (i : Int) = ds.getD i z52 := rfl
      have hfit := hf _ (List.getElem_mem hi)
      rw [← getD52 hi] at hfit
      generalize hx : ds.getD i z52 = x at e hfit ⊢
      have hev := ev_spec_DescOk x.f0 x.f1 x.f2 x.f3.f0 x.f3.f1 hfit
      constructor
      · intro hq r hr
        rw [show descB x.f0 x.f1 x.f2 x.f3.f0 x.f3.f1 = true from hq] at hev
        refine Ev.step (fun k => ?_) (Ev.bind (f := fun k b => if b = true then spec_MemOk.l0 k ((i + 1 : Nat) : Int) ws ds else some false) hev (by simpa using hr))
        simp only [spec_MemOk.l0, e]
        rw [if_pos (by omega), if_pos (by omega), wrap_succ hi (by omega)]
      · intro hq
        rw [show descB x.f0 x.f1 x.f2 x.f3.f0 x.f3.f1 = false from hq] at hev
        refine Ev.step (fun k => ?_) (Ev.bind (f := fun k b => if b = true then spec_MemOk.l0 k ((i + 1 : Nat) : Int) ws ds else some false) hev (by simpa using Ev.now false))
        simp only [spec_MemOk.l0, e]
        rw [if_pos (by omega), if_pos (by omega), wrap_succ hi (by omega)]
    · refine Ev.step (fun k => ?_) (ev_spec_words ws ds hw hd hf)
      simp only [spec_MemOk.l0]
      rw [if_neg (by omega)]
  have J : ∀ b : Bool, Ev (fun k => spec_MemOk.j0 k b ws ds) (!b && (ds.all descV && (List.range ws.length).all (wordV ws ds))) := by
    intro b
    cases b with
    | true => exact ev_succ (fun k => by simp [spec_MemOk.j0])
    | false => exact ev_to (Ev.step (fun k => by simp [spec_MemOk.j0]) L) (by simp)
  unfold spec_MemOk.f memB
  simp only [l1In_eq, Option.bind_some]
  by_cases h20 : ws.length = 20
  · refine ev_pos (by omega) (ev_to (J _) ?_)
    rw [decide_eq_true h20]; simp
  · refine ev_neg (by omega) (ev_to (J true) ?_)
    rw [decide_eq_false h20]; simp
end Go.Proofs.YtopikhjcbcpiaaaGreat.Q
end
section
namespace Go.Proofs.YtopikhjcbcpiaaaGreat.Q
open Go.RowKit Go.Proofs.YtopikhjcbcpiaaaGreatW.PrintWords Go.Proofs.YtopikhjcbcpiaaaGreatX
theorem ev_idxP {g : Nat → Int → Option Bool} (n : Nat) (q : Nat → Bool) (rest : Bool)
    (hstep : ∀ i : Nat, i < n → (∀ j, j < i → q j = true) → (q i = true → ∀ r, Ev (fun k => g k ((i + 1 : Nat) : Int)) r → Ev (fun k => g k (i : Int)) r) ∧ (q i = false → Ev (fun k => g k (i : Int)) false))
    (hend : Ev (fun k => g k (n : Int)) rest) : Ev (fun k => g k 0) ((List.range n).all q && rest) := by
  have key : ∀ (d i : Nat), i + d = n → (∀ j, j < i → q j = true) → Ev (fun k => g k (i : Int)) (((List.range n).drop i).all q && rest) := by
    intro d
    induction d with
    | zero =>
      intro i hi hp
      obtain rfl : i = n := by omega
      exact ev_to hend (by rw [List.drop_eq_nil_of_le (by simp)]; simp)
    | succ d ih =>
      intro i hi hp
      have hlt : i < n := by omega
      have hs := hstep i hlt hp
      have hd : ((List.range n).drop i).all q = (q i && ((List.range n).drop (i + 1)).all q) := by rw [List.drop_eq_getElem_cons (by simpa using hlt), List.all_cons, List.getElem_range]
      rw [hd]
      cases hq : q i with
      | true =>
        refine ev_to (hs.1 hq _ (ih (i + 1) (by omega) (fun j hj => ?_))) (by simp)
        rcases Nat.lt_or_ge j i with h | h
        · exact hp j h
        · obtain rfl : j = i := by omega
          exact hq
      | false => exact ev_to (hs.2 hq) (by simp)
  simpa using key n 0 (by omega) (fun j hj => by omega)
theorem getD134 {l : List S134} {i : Nat} (h : i < l.length) : l.getD i z134 = l[i] := by simp [List.getD_eq_getElem?_getD, List.getElem?_eq_getElem h]
theorem getD82 {l : List S82} {i : Nat} (h : i < l.length) : l.getD i z82 = l[i] := by simp [List.getD_eq_getElem?_getD, List.getElem?_eq_getElem h]
theorem rd134 {l : List S134} {i : Nat} : rd_T134 l (i : Int) = l.getD i z134 := by
  show l.getD (i : Int).toNat z134 = _
  rw [Int.toNat_natCast]
def callB (n time : Int) (x : S134) : Bool :=
  inB x.f0 0 (n - 1) && (opOkB x.f1.f0 x.f1.f1 x.f1.f2 && (inB x.f2 0 time && ((decide (x.f3 = -1) || inB x.f3 x.f2 time) && (decide (x.f4 = -1) || inB x.f4 x.f2 time))))
theorem ev_spec_Call (ws : List S39) (ds : List S52) (ts : List S82) (time : Int) (cs : List S134) (ord held : List Int) (st : Int) (x : S134) (ht : ts.length ≤ 1048576) :
    Ev (fun k => spec_l9Call.f k ws ds ts time cs ord held st x.f0 x.f1.f0 x.f1.f1 x.f1.f2 x.f2 x.f3 x.f4 x.f5.f0 x.f5.f1) (callB ts.length time x) := by
  unfold spec_l9Call.f callB
  rw [wrap_in (by omega) (by omega)]
  simp only [l1In_eq, Option.bind_some]
  cases inB x.f0 0 ((ts.length : Int) - 1) with
  | false => exact ev_neg (by simp) (Ev.now _)
  | true =>
    refine ev_pos rfl (ev_to (r := if opOkB x.f1.f0 x.f1.f1 x.f1.f2 = true then (inB x.f2 0 time && ((decide (x.f3 = -1) || inB x.f3 x.f2 time) && (decide (x.f4 = -1) || inB x.f4 x.f2 time))) else false) (Ev.bind (ev_spec_OpOk x.f1.f0 x.f1.f1 x.f1.f2) (ev_of fun k => ?_)) (by cases opOkB x.f1.f0 x.f1.f1 x.f1.f2 <;> simp))
    cases opOkB x.f1.f0 x.f1.f1 x.f1.f2 <;> cases inB x.f2 0 time <;> by_cases h3 : x.f3 = -1 <;> by_cases h4 : x.f4 = -1 <;> simp [h3, h4]
    all_goals (cases inB x.f3 x.f2 time <;> simp)
theorem ev_impl_call_step (time : Int) (x : S134) : impl_MachineOk_1.f x.f0 x.f1.f0 x.f1.f1 x.f1.f2 x.f2 x.f3 x.f4 x.f5.f0 x.f5.f1 x.f3 time = some (decide (x.f3 = -1) || inB x.f3 x.f2 time) ∧ impl_MachineOk_1.f x.f0 x.f1.f0 x.f1.f1 x.f1.f2 x.f2 x.f3 x.f4 x.f5.f0 x.f5.f1 x.f4 time = some (decide (x.f4 = -1) || inB x.f4 x.f2 time) := by
  unfold impl_MachineOk_1.f
  simp only [from_eq]
  constructor
  · by_cases h : x.f3 = -1 <;> simp [h]
  · by_cases h : x.f4 = -1 <;> simp [h]
def linN (cs : List S134) : Nat → Nat
  | 0 => 0
  | i + 1 => if 0 ≤ (cs.getD i z134).f3 then linN cs i + 1 else linN cs i
theorem linN_le (cs : List S134) : ∀ i, linN cs i ≤ i
  | 0 => Nat.le_refl _
  | i + 1 => by
    have := linN_le cs i
    unfold linN
    split <;> omega
def ordV (cs : List S134) (ord : List Int) (i : Nat) : Bool :=
  inB (ord.getD i 0) 0 ((cs.length : Int) - 1) && (decide (0 ≤ (cs.getD (ord.getD i 0).toNat z134).f3) && (decide (idxI (ord.take i) (ord.getD i 0) < 0) && (decide (i = 0) || decide ((cs.getD (ord.getD (i - 1) 0).toNat z134).f3 ≤ (cs.getD (ord.getD i 0).toNat z134).f3))))
def orderB (cs : List S134) (ord : List Int) : Bool := (List.range ord.length).all (ordV cs ord) && decide ((linN cs cs.length : Int) = ord.length)
theorem ordV_in {cs : List S134} {ord : List Int} {i : Nat} (h : ordV cs ord i = true) : 0 ≤ ord.getD i 0 ∧ ord.getD i 0 ≤ (cs.length : Int) - 1 := by
  unfold ordV at h
  simp only [Bool.and_eq_true] at h
  simpa [inB] using h.1
theorem rdC {cs : List S134} {v : Int} : rd_T134 cs v = cs.getD v.toNat z134 := by
  show cs.getD v.toNat z134 = _
  exact id rfl
theorem ev_impl_orderOk (ws : List S39) (ds : List S52) (ts : List S82) (time : Int) (cs : List S134) (ord held : List Int) (st : Int) (hc : cs.length ≤ 1048576) (ho : ord.length ≤ 1048576) :
    Ev (fun k => impl_orderOk.f k ws ds ts time cs ord held st) (orderB cs ord) := by
  have L1 : ∀ c : Int, Ev (fun k => impl_orderOk.l1 k c ord (ord.length : Int) 0 ws ds ts time cs ord held st) ((List.range ord.length).all (ordV cs ord) && decide (c = (ord.length : Int))) := by
    intro c
    refine ev_idxP (g := fun k i => impl_orderOk.l1 k c ord (ord.length : Int) i ws ds ts time cs ord held st) ord.length (ordV cs ord) _ (fun i hi hp => ?_) ?_
    · have hC := ev_Contains (ord.take i) (ord.getD i 0) (by simp; omega)
      have hprev : 0 < i → (0 ≤ ord.getD (i - 1) 0 ∧ ord.getD (i - 1) 0 ≤ (cs.length : Int) - 1) := fun h0 => ordV_in (hp (i - 1) (by omega))
      have hw : 0 < i → wrap64 ((i : Int) - 1) = ((i - 1 : Nat) : Int) := fun h0 => by rw [wrap_in (by omega) (by omega)]; omega
      unfold ordV
      generalize hv : ord.getD i 0 = v at hC ⊢
      generalize hu : ord.getD (i - 1) 0 = u at hprev ⊢
      cases h0 : inB v 0 ((cs.length : Int) - 1) with
      | false =>
        refine ⟨fun hq => by simp at hq, fun _ => ev_succ (fun k => ?_)⟩
        simp only [impl_orderOk.l1, rd_nat, hv, from_eq, Option.bind_some]
        rw [wrap_in (x := (cs.length : Int) - 1) (by omega) (by omega), h0, if_pos (by omega), if_pos (by omega), if_pos (by omega), if_neg (by simp)]
      | true =>
        have h0' : 0 ≤ v ∧ v ≤ (cs.length : Int) - 1 := by simpa [inB] using h0
        by_cases h1 : 0 ≤ (cs.getD v.toNat z134).f3
        · have F : ∀ r, ((decide (idxI (ord.take i) v < 0) && (decide (i = 0) || decide ((cs.getD u.toNat z134).f3 ≤ (cs.getD v.toNat z134).f3))) = true → Ev (fun k => impl_orderOk.l1 k c ord (ord.length : Int) ((i + 1 : Nat) : Int) ws ds ts time cs ord held st) r) →
              Ev (fun k => impl_orderOk.l1 k c ord (ord.length : Int) (i : Int) ws ds ts time cs ord held st) (if (decide (idxI (ord.take i) v < 0) && (decide (i = 0) || decide ((cs.getD u.toNat z134).f3 ≤ (cs.getD v.toNat z134).f3))) = true then r else false) := by
            intro r hr
            refine Ev.step (f := fun k => (slices_Contains_int_int.f k (ord.take i) v).bind fun t => if t = true then some false else (if (i : Int) > 0 then (if (cs.getD u.toNat z134).f3 > (cs.getD v.toNat z134).f3 then some false else impl_orderOk.l1 k c ord (ord.length : Int) ((i + 1 : Nat) : Int) ws ds ts time cs ord held st) else impl_orderOk.l1 k c ord (ord.length : Int) ((i + 1 : Nat) : Int) ws ds ts time cs ord held st)) (fun k => ?_) (Ev.bind hC ?_)
            · simp only [impl_orderOk.l1, rd_nat, hv, from_eq, Option.bind_some, Int.toNat_natCast]
              rw [wrap_in (x := (cs.length : Int) - 1) (by omega) (by omega), h0, if_pos (by omega), if_pos (by omega), if_pos (by omega), if_pos rfl, if_pos h0'.1, if_pos (by omega)]
              simp only [rdC]
              rw [if_neg (by omega), if_pos (by omega), wrap_succ hi (by omega)]
              congr 1
              funext t
              by_cases hi0 : (i : Int) > 0
              · have hp' := hprev (by omega)
                simp only [hw (by omega), rd_nat, hu]
                rw [if_pos hi0, if_pos hi0, if_pos (show (0 : Int) ≤ ((i - 1 : Nat) : Int) by omega), if_pos (show ((i - 1 : Nat) : Int) < (ord.length : Int) by omega), if_pos hp'.1, if_pos (show u < (cs.length : Int) by omega)]
              · rw [if_neg hi0, if_neg hi0]
            · by_cases hx : idxI (ord.take i) v < 0
              · refine ev_neg (by rw [decide_eq_true_eq]; omega) ?_
                by_cases hi0 : i = 0
                · refine ev_neg (by omega) ?_
                  have hcond : (decide (idxI (ord.take i) v < 0) && (decide (i = 0) || decide ((cs.getD u.toNat z134).f3 ≤ (cs.getD v.toNat z134).f3))) = true := by rw [decide_eq_true hx, decide_eq_true hi0]; rfl
                  rw [if_pos hcond]
                  exact hr hcond
                · refine ev_pos (by omega) ?_
                  by_cases hle : (cs.getD u.toNat z134).f3 ≤ (cs.getD v.toNat z134).f3
                  · have hcond : (decide (idxI (ord.take i) v < 0) && (decide (i = 0) || decide ((cs.getD u.toNat z134).f3 ≤ (cs.getD v.toNat z134).f3))) = true := by rw [decide_eq_true hx, decide_eq_true hle]; simp
                    rw [if_pos hcond]
                    exact ev_neg (by omega) (hr hcond)
                  · rw [if_neg (by rw [decide_eq_false hle, decide_eq_false hi0]; simp)]
                    exact ev_pos (by omega) (Ev.now _)
              · rw [if_neg (by rw [decide_eq_false hx]; simp)]
                exact ev_pos (by rw [decide_eq_true_eq]; omega) (Ev.now _)
          rw [decide_eq_true h1, Bool.true_and, Bool.true_and]
          constructor
          · intro hq r hr
            exact ev_to (F r (fun _ => hr)) (by rw [if_pos hq])
          · intro hq
            exact ev_to (F false (fun hc => by rw [hq] at hc; cases hc)) (by rw [hq]; simp)
        · refine ⟨fun hq => by rw [decide_eq_false h1] at hq; simp at hq, fun _ => ev_succ (fun k => ?_)⟩
          simp only [impl_orderOk.l1, rd_nat, hv, from_eq, Option.bind_some]
          rw [wrap_in (x := (cs.length : Int) - 1) (by omega) (by omega), h0, if_pos (by omega), if_pos (by omega), if_pos (by omega), if_pos rfl, if_pos h0'.1, if_pos (by omega)]
          simp only [rdC]
          rw [if_pos (by omega)]
    · refine ev_succ (fun k => ?_)
      simp only [impl_orderOk.l1]
      rw [if_neg (by omega), Option.some.injEq, Bool.eq_iff_iff]
      simp
  have key : ∀ (d i : Nat), i + d = cs.length → Ev (fun k => impl_orderOk.l0 k (linN cs i : Int) cs (cs.length : Int) (i : Int) ws ds ts time cs ord held st) (orderB cs ord) := by
    intro d
    induction d with
    | zero =>
      intro i hi
      obtain rfl : i = cs.length := by omega
      refine Ev.step (fun k => ?_) (L1 (linN cs cs.length : Int))
      simp only [impl_orderOk.l0]
      rw [if_neg (by omega)]
    | succ d ih =>
      intro i hi
      have hn := linN_le cs i
      have h := ih (i + 1) (by omega)
      have e1 : wrap64 ((i : Int) + 1) = ((i + 1 : Nat) : Int) := by rw [wrap_in (by omega) (by omega)]; omega
      unfold linN at h
      by_cases h3 : 0 ≤ (cs.getD i z134).f3
      · rw [if_pos h3] at h
        refine Ev.step (fun k => ?_) h
        simp only [impl_orderOk.l0, rd134]
        rw [if_pos (by omega), if_pos (by omega), if_pos (by omega), if_pos (by omega), e1, wrap_in (x := (linN cs i : Int) + 1) (by omega) (by omega)]
        rfl
      · rw [if_neg h3] at h
        refine Ev.step (fun k => ?_) h
        simp only [impl_orderOk.l0, rd134]
        rw [if_pos (by omega), if_pos (by omega), if_pos (by omega), if_neg (by omega), e1]
  exact key cs.length 0 (by omega)
theorem idx_all (l : List Int) (v : Int) (i : Nat) (hi : i ≤ l.length) : (List.range i).all (fun j => decide (¬ l.getD j 0 = v)) = decide (idxI (l.take i) v < 0) := by
  have hb := idxFrom_bd v (l.take i) 0
  have hm := idxFrom_mem v (l.take i) 0
  have h1 : idxI (l.take i) v < 0 ↔ v ∉ l.take i := by
    rw [← hm]
    unfold idxI
    omega
  rw [Bool.eq_iff_iff, List.all_eq_true, decide_eq_true_eq, h1]
  constructor
  · intro h hv
    obtain ⟨j, hj, e⟩ := List.getElem_of_mem hv
    have hj2 : j < i ∧ j < l.length := by rw [List.length_take] at hj; omega
    have := h j (List.mem_range.2 hj2.1)
    rw [decide_eq_true_eq] at this
    apply this
    rw [List.getElem_take] at e
    simp [List.getD_eq_getElem?_getD, List.getElem?_eq_getElem hj2.2, e]
  · intro h j hj
    have hj' := List.mem_range.1 hj
    rw [decide_eq_true_eq]
    intro e
    apply h
    have hjl : j < l.length := by omega
    rw [← e]
    have : l.getD j 0 = (l.take i)[j]'(by simp; omega) := by
      rw [List.getElem_take]
      simp [List.getD_eq_getElem?_getD, List.getElem?_eq_getElem hjl]
    rw [this]
    exact List.getElem_mem _
theorem ev_spec_Calls (ws : List S39) (ds : List S52) (ts : List S82) (time : Int) (cs : List S134) (ord held : List Int) (st : Int) (ht : ts.length ≤ 1048576) (hc : cs.length ≤ 1048576) (ho : ord.length ≤ 1048576) :
    Ev (fun k => spec_l9Calls.f k ws ds ts time cs ord held st) (cs.all (callB ts.length time) && (decide (cs.length ≤ 40) && orderB cs ord)) := by
  have L1 : ∀ c : Int, Ev (fun k => spec_l9Calls.l1 k c 0 ws ds ts time cs ord held st) ((List.range ord.length).all (ordV cs ord) && (decide (cs.length ≤ 40) && decide (c = (ord.length : Int)))) := by
    intro c
    refine ev_idxP (g := fun k i => spec_l9Calls.l1 k c i ws ds ts time cs ord held st) ord.length (ordV cs ord) _ (fun i hi hp => ?_) ?_
    · have hprev : 0 < i → (0 ≤ ord.getD (i - 1) 0 ∧ ord.getD (i - 1) 0 ≤ (cs.length : Int) - 1) := fun h0 => ordV_in (hp (i - 1) (by omega))
      have hw : 0 < i → wrap64 ((i : Int) - 1) = ((i - 1 : Nat) : Int) := fun h0 => by rw [wrap_in (by omega) (by omega)]; omega
      have hall := idx_all ord (ord.getD i 0) i (by omega)
      -- behind the tests: no number twice
      have J : ∀ (b : Bool) (v : Int), ord.getD i 0 = v → ∀ r, Ev (fun k => spec_l9Calls.l1 k c ((i + 1 : Nat) : Int) ws ds ts time cs ord held st) r → Ev (fun k => spec_l9Calls.j2 k c (i : Int) v b ws ds ts time cs ord held st) (!b && (decide (idxI (ord.take i) v < 0) && r)) := by
        intro b v hv r hr
        cases b with
        | true => exact ev_succ (fun k => by simp [spec_l9Calls.j2])
        | false =>
          rw [hv] at hall
          refine ev_to (Ev.step (f := fun k => spec_l9Calls.l2 k c (i : Int) v 0 ws ds ts time cs ord held st) (fun k => by simp [spec_l9Calls.j2]) (ev_idx (g := fun k j => spec_l9Calls.l2 k c (i : Int) v j ws ds ts time cs ord held st) i (fun j => decide (¬ ord.getD j 0 = v)) r (fun j hj => ?_) ?_)) (by rw [hall]; simp)
          · constructor
            · intro hq r' hr'
              rw [decide_eq_true_eq] at hq
              refine Ev.step (fun k => ?_) hr'
              simp only [spec_l9Calls.l2, rd_nat]
              rw [if_pos (by omega), if_pos (by omega), if_pos (by omega), if_neg hq, wrap_succ hj (by omega)]
            · intro hq
              rw [decide_eq_false_iff_not, Decidable.not_not] at hq
              refine ev_succ (fun k => ?_)
              simp only [spec_l9Calls.l2, rd_nat]
              rw [if_pos (by omega), if_pos (by omega), if_pos (by omega), if_pos hq]
          · refine Ev.step (fun k => ?_) hr
            simp only [spec_l9Calls.l2]
            rw [if_neg (by omega), wrap_succ hi (by omega)]
      have JF : ∀ (b : Bool) (v : Int), ord.getD i 0 = v → (!b && decide (idxI (ord.take i) v < 0)) = false → Ev (fun k => spec_l9Calls.j2 k c (i : Int) v b ws ds ts time cs ord held st) false := by
        intro b v hv hq
        cases b with
        | true => exact ev_succ (fun k => by simp [spec_l9Calls.j2])
        | false =>
          rw [hv] at hall
          have hbad : decide (idxI (ord.take i) v < 0) = false := by simpa using hq
          -- some place before it holds the same
          have hex : ∃ j, j < i ∧ ord.getD j 0 = v ∧ ∀ m, m < j → ¬ ord.getD m 0 = v := by
            rw [hbad] at hall
            have hne : ∃ j, j < i ∧ ord.getD j 0 = v := by
              by_cases hne : ∃ j, j < i ∧ ord.getD j 0 = v
              · exact hne
              · exfalso
                have : (List.range i).all (fun j => decide (¬ ord.getD j 0 = v)) = true := by
                  rw [List.all_eq_true]
                  intro j hj
                  rw [decide_eq_true_eq]
                  intro e
                  exact hne ⟨j, List.mem_range.1 hj, e⟩
                rw [this] at hall
                cases hall
            obtain ⟨j, hj, e⟩ := hne
            have P : ∀ n j, j ≤ n → j < i → ord.getD j 0 = v → ∃ j, j < i ∧ ord.getD j 0 = v ∧ ∀ m, m < j → ¬ ord.getD m 0 = v := by
              intro n
              induction n with
              | zero => intro j hj hji e; exact ⟨j, hji, e, fun m hm => by omega⟩
              | succ n ih =>
                intro j hj hji e
                by_cases hm : ∃ m, m < j ∧ ord.getD m 0 = v
                · obtain ⟨m, hm1, hm2⟩ := hm
                  exact ih m (by omega) (by omega) hm2
                · exact ⟨j, hji, e, fun m hm1 hm2 => hm ⟨m, hm1, hm2⟩⟩
            exact P j j (Nat.le_refl _) hj e
          obtain ⟨j, hj, e, hmin⟩ := hex
          have D : ∀ (d m : Nat), m + d = j → Ev (fun k => spec_l9Calls.l2 k c (i : Int) v (m : Int) ws ds ts time cs ord held st) false := by
            intro d
            induction d with
            | zero =>
              intro m hm
              obtain rfl : m = j := by omega
              refine ev_succ (fun k => ?_)
              simp only [spec_l9Calls.l2, rd_nat]
              rw [if_pos (by omega), if_pos (by omega), if_pos (by omega), if_pos e]
            | succ d ihd =>
              intro m hm
              refine Ev.step (fun k => ?_) (ihd (m + 1) (by omega))
              simp only [spec_l9Calls.l2, rd_nat]
              rw [if_pos (by omega), if_pos (by omega), if_pos (by omega), if_neg (hmin m (by omega)), wrap_succ (show m < i by omega) (by omega)]
          exact Ev.step (f := fun k => spec_l9Calls.l2 k c (i : Int) v 0 ws ds ts time cs ord held st) (fun k => by simp [spec_l9Calls.j2]) (D j 0 (by omega))
      unfold ordV
      generalize hv : ord.getD i 0 = v at J JF ⊢
      generalize hu : ord.getD (i - 1) 0 = u at hprev ⊢
      cases h0 : inB v 0 ((cs.length : Int) - 1) with
      | false =>
        refine ⟨fun hq => by simp at hq, fun _ => Ev.step (fun k => ?_) (JF true v rfl (by simp))⟩
        simp only [spec_l9Calls.l1, rd_nat, hv, l1In_eq, Option.bind_some]
        rw [wrap_in (x := (cs.length : Int) - 1) (by omega) (by omega), h0, if_pos (by omega), if_pos (by omega), if_neg (by simp)]
      | true =>
        have h0' : 0 ≤ v ∧ v ≤ (cs.length : Int) - 1 := by simpa [inB] using h0
        by_cases h1 : 0 ≤ (cs.getD v.toNat z134).f3
        · have E : ∀ r, Ev (fun k => spec_l9Calls.j2 k c (i : Int) v (if i = 0 then false else decide ((cs.getD u.toNat z134).f3 > (cs.getD v.toNat z134).f3)) ws ds ts time cs ord held st) r → Ev (fun k => spec_l9Calls.l1 k c (i : Int) ws ds ts time cs ord held st) r := by
            intro r hr
            refine Ev.step (fun k => ?_) hr
            simp only [spec_l9Calls.l1, rd_nat, hv, l1In_eq, Option.bind_some]
            rw [wrap_in (x := (cs.length : Int) - 1) (by omega) (by omega), h0, if_pos (by omega), if_pos (by omega), if_pos rfl, if_pos h0'.1, if_pos (by omega)]
            simp only [rdC]
            rw [if_neg (by omega)]
            by_cases hi0 : i = 0
            · rw [if_neg (by omega), if_pos hi0]
            · have hp' := hprev (by omega)
              simp only [hw (by omega), rd_nat, hu]
              rw [if_pos (by omega), if_pos (show (0 : Int) ≤ ((i - 1 : Nat) : Int) by omega), if_pos (show ((i - 1 : Nat) : Int) < (ord.length : Int) by omega), if_pos hp'.1, if_pos (show u < (cs.length : Int) by omega), if_neg hi0]
          have hb : (!(if i = 0 then false else decide ((cs.getD u.toNat z134).f3 > (cs.getD v.toNat z134).f3))) = (decide (i = 0) || decide ((cs.getD u.toNat z134).f3 ≤ (cs.getD v.toNat z134).f3)) := by
            by_cases hi0 : i = 0
            · simp [hi0]
            · rw [if_neg hi0, decide_eq_false hi0, Bool.false_or]
              by_cases hle : (cs.getD u.toNat z134).f3 ≤ (cs.getD v.toNat z134).f3
              · rw [decide_eq_true hle, decide_eq_false (by omega)]; rfl
              · rw [decide_eq_false hle, decide_eq_true (by omega)]; rfl
          rw [decide_eq_true h1, Bool.true_and, Bool.true_and]
          constructor
          · intro hq r hr
            refine E r (ev_to (J _ v rfl r hr) ?_)
            rw [hb]
            simp only [Bool.and_eq_true] at hq
            rw [hq.1, hq.2]
            simp
          · intro hq
            refine E false (JF _ v rfl ?_)
            rw [hb, Bool.and_comm]
            exact hq
        · refine ⟨fun hq => by rw [decide_eq_false h1] at hq; simp at hq, fun _ => Ev.step (fun k => ?_) (JF true v rfl (by simp))⟩
          simp only [spec_l9Calls.l1, rd_nat, hv, l1In_eq, Option.bind_some]
          rw [wrap_in (x := (cs.length : Int) - 1) (by omega) (by omega), h0, if_pos (by omega), if_pos (by omega), if_pos rfl, if_pos h0'.1, if_pos (by omega)]
          simp only [rdC]
          rw [if_pos (by omega)]
    · refine ev_succ (fun k => ?_)
      simp only [spec_l9Calls.l1]
      rw [if_neg (by omega)]
      by_cases h40 : cs.length ≤ 40
      · rw [if_pos (by omega), decide_eq_true h40, Bool.true_and, Option.some.injEq, Bool.eq_iff_iff]; simp
      · rw [if_neg (by omega), decide_eq_false h40]; rfl
  have key : ∀ (d i : Nat), i + d = cs.length → Ev (fun k => spec_l9Calls.l0 k (linN cs i : Int) (i : Int) ws ds ts time cs ord held st) ((cs.drop i).all (callB ts.length time) && (decide (cs.length ≤ 40) && orderB cs ord)) := by
    intro d
    induction d with
    | zero =>
      intro i hi
      obtain rfl : i = cs.length := by omega
      refine ev_to (Ev.step (fun k => ?_) (L1 (linN cs cs.length : Int))) (by
        unfold orderB
        simp only [List.drop_length, List.all_nil, Bool.true_and]
        generalize (List.range ord.length).all (ordV cs ord) = a
        generalize decide (cs.length ≤ 40) = b
        cases a <;> cases b <;> simp)
      simp only [spec_l9Calls.l0]
      rw [if_neg (by omega)]
    | succ d ih =>
      intro i hi
      have hlt : i < cs.length := by omega
      have hn := linN_le cs i
      have h := ih (i + 1) (by omega)
      have hX := ev_spec_Call ws ds ts time cs ord held st (cs.getD i z134) ht
      have hd : (cs.drop i).all (callB ts.length time) = (callB ts.length time (cs.getD i z134) && (cs.drop (i + 1)).all (callB ts.length time)) := by
        rw [List.drop_eq_getElem_cons hlt, List.all_cons, getD134 hlt]
      rw [hd]
      generalize hg : cs.getD i z134 = x at hX ⊢
      have h2 : Ev (fun k => (spec_l1Bit.f (decide (x.f3 ≥ 0))).bind fun t => spec_l9Calls.l0 k (wrap64 ((linN cs i : Int) + t)) ((i + 1 : Nat) : Int) ws ds ts time cs ord held st) ((cs.drop (i + 1)).all (callB ts.length time) && (decide (cs.length ≤ 40) && orderB cs ord)) := by
        unfold linN at h
        rw [hg] at h
        unfold spec_l1Bit.f
        by_cases h3 : 0 ≤ x.f3
        · rw [if_pos h3] at h
          simp only [ge_iff_le, h3, decide_true, if_true, Option.bind_some]
          rw [wrap_in (x := (linN cs i : Int) + 1) (by omega) (by omega)]
          exact h
        · rw [if_neg h3] at h
          simp only [ge_iff_le, h3, decide_false, Bool.false_eq_true, if_false, Option.bind_some, Int.add_zero]
          rw [wrap_in (x := (linN cs i : Int)) (by omega) (by omega)]
          exact h
      refine ev_to (Ev.step (f := fun k => (spec_l9Call.f k ws ds ts time cs ord held st x.f0 x.f1.f0 x.f1.f1 x.f1.f2 x.f2 x.f3 x.f4 x.f5.f0 x.f5.f1).bind fun t => if t = true then (spec_l1Bit.f (decide (x.f3 ≥ 0))).bind fun t => spec_l9Calls.l0 k (wrap64 ((linN cs i : Int) + t)) ((i + 1 : Nat) : Int) ws ds ts time cs ord held st else some false) (fun k => ?_) (r := if callB ts.length time x = true then ((cs.drop (i + 1)).all (callB ts.length time) && (decide (cs.length ≤ 40) && orderB cs ord)) else false) (Ev.bind hX ?_)) (by cases callB ts.length time x <;> simp)
      · simp only [spec_l9Calls.l0, rd134, hg]
        rw [if_pos (by omega), if_pos (by omega), wrap_succ hlt (by omega)]
      · cases callB ts.length time x with
        | true => exact ev_pos rfl (by simpa using h2)
        | false => exact ev_neg (by simp) (Ev.now _)
  have h := key cs.length 0 (by omega)
  rw [List.drop_zero] at h
  exact h
end Go.Proofs.YtopikhjcbcpiaaaGreat.Q
end
section
namespace Go.Proofs.YtopikhjcbcpiaaaGreat.Q
open Go.RowKit Go.Proofs.YtopikhjcbcpiaaaGreatW.PrintWords Go.Proofs.YtopikhjcbcpiaaaGreatX
def cvOp (x : S173) : S132 := ⟨x.f0, x.f1, x.f2⟩
theorem szOpS (l : List S173) (a : Int) (h0 : 0 ≤ a) (h1 : a ≤ 1048576) (hl : l.length ≤ 9223372036854775807) : laws_szOpS.f l a = some (if a < l.length then -1 else a - l.length) := by
  unfold laws_szOpS.f
  rw [wrap_in (by omega) (by omega)]
  by_cases h : a < l.length
  · rw [if_pos (by omega), if_pos h]
  · rw [if_neg (by omega), if_neg h]
theorem ev_toOpS (l : List S173) (hl : l.length ≤ 1048576) : Ev (fun k => laws_toOpS.f k l) (l.map cvOp) := by
  unfold laws_toOpS.f
  refine ev_pos (by omega) (ev_pos (by omega) ?_)
  refine ev_fill (g := fun k acc i => laws_toOpS.l0 k l acc i) (za := z173) ?_ ?_ _ (by simp)
  · intro acc i r hi hacc h
    refine Ev.step (fun k => ?_) h
    simp only [laws_toOpS.l0, laws_toOp.f, Option.bind_some]
    rw [if_pos (by omega), if_pos (by omega), if_pos (by omega), wrap_succ hi (by omega)]
    rfl
  · intro acc hacc
    refine ev_succ (fun k => ?_)
    simp only [laws_toOpS.l0]
    rw [if_neg (by omega)]
theorem eqOp_self (x : S132) : laws_eqOp.f x.f0 x.f1 x.f2 x.f0 x.f1 x.f2 = some true := by
  simp [laws_eqOp.f]
theorem ev_eqOpS (l : List S132) (hl : l.length ≤ 1048576) : Ev (fun k => laws_eqOpS.f k l l) true := by
  unfold laws_eqOpS.f
  refine ev_pos rfl ?_
  refine ev_down (g := fun k i => laws_eqOpS.l0 k l l i) (R := fun _ => true) (n := l.length) ?_ 0 (by omega)
  intro i hi h
  by_cases hlt : i < l.length
  · refine Ev.step (fun k => ?_) (h hlt)
    simp only [laws_eqOpS.l0, eqOp_self, Option.bind_some]
    rw [if_pos (by omega), if_pos (by omega), if_pos (by omega), if_pos trivial, wrap_succ hlt (by omega)]
  · refine ev_succ (fun k => ?_)
    simp only [laws_eqOpS.l0]
    rw [if_neg (by omega)]
def cvPair (x : S224) : S145 := ⟨x.f0, x.f1⟩
theorem szPairS (l : List S224) (a : Int) (h0 : 0 ≤ a) (h1 : a ≤ 1048576) (hl : l.length ≤ 9223372036854775807) : laws_szPairS.f l a = some (if a < l.length then -1 else a - l.length) := by
  unfold laws_szPairS.f
  rw [wrap_in (by omega) (by omega)]
  by_cases h : a < l.length
  · rw [if_pos (by omega), if_pos h]
  · rw [if_neg (by omega), if_neg h]
theorem ev_toPairS (l : List S224) (hl : l.length ≤ 1048576) : Ev (fun k => laws_toPairS.f k l) (l.map cvPair) := by
  unfold laws_toPairS.f
  refine ev_pos (by omega) (ev_pos (by omega) ?_)
  refine ev_fill (g := fun k acc i => laws_toPairS.l0 k l acc i) (za := z224) ?_ ?_ _ (by simp)
  · intro acc i r hi hacc h
    refine Ev.step (fun k => ?_) h
    simp only [laws_toPairS.l0, laws_toPair.f, Option.bind_some]
    rw [if_pos (by omega), if_pos (by omega), if_pos (by omega), wrap_succ hi (by omega)]
    rfl
  · intro acc hacc
    refine ev_succ (fun k => ?_)
    simp only [laws_toPairS.l0]
    rw [if_neg (by omega)]
theorem eqPair_self (x : S145) : laws_eqPair.f x.f0 x.f1 x.f0 x.f1 = some true := by
  simp [laws_eqPair.f]
theorem ev_eqPairS (l : List S145) (hl : l.length ≤ 1048576) : Ev (fun k => laws_eqPairS.f k l l) true := by
  unfold laws_eqPairS.f
  refine ev_pos rfl ?_
  refine ev_down (g := fun k i => laws_eqPairS.l0 k l l i) (R := fun _ => true) (n := l.length) ?_ 0 (by omega)
  intro i hi h
  by_cases hlt : i < l.length
  · refine Ev.step (fun k => ?_) (h hlt)
    simp only [laws_eqPairS.l0, eqPair_self, Option.bind_some]
    rw [if_pos (by omega), if_pos (by omega), if_pos (by omega), if_pos trivial, wrap_succ hlt (by omega)]
  · refine ev_succ (fun k => ?_)
    simp only [laws_eqPairS.l0]
    rw [if_neg (by omega)]
def cvHelp (x : S226) : S42 := ⟨x.f0, x.f1, x.f2, x.f3⟩
theorem szHelpS (l : List S226) (a : Int) (h0 : 0 ≤ a) (h1 : a ≤ 1048576) (hl : l.length ≤ 9223372036854775807) : laws_szHelpS.f l a = some (if a < l.length then -1 else a - l.length) := by
  unfold laws_szHelpS.f
  rw [wrap_in (by omega) (by omega)]
  by_cases h : a < l.length
  · rw [if_pos (by omega), if_pos h]
  · rw [if_neg (by omega), if_neg h]
theorem ev_toHelpS (l : List S226) (hl : l.length ≤ 1048576) : Ev (fun k => laws_toHelpS.f k l) (l.map cvHelp) := by
  unfold laws_toHelpS.f
  refine ev_pos (by omega) (ev_pos (by omega) ?_)
  refine ev_fill (g := fun k acc i => laws_toHelpS.l0 k l acc i) (za := z226) ?_ ?_ _ (by simp)
  · intro acc i r hi hacc h
    refine Ev.step (fun k => ?_) h
    simp only [laws_toHelpS.l0, laws_toHelp.f, Option.bind_some]
    rw [if_pos (by omega), if_pos (by omega), if_pos (by omega), wrap_succ hi (by omega)]
    rfl
  · intro acc hacc
    refine ev_succ (fun k => ?_)
    simp only [laws_toHelpS.l0]
    rw [if_neg (by omega)]
theorem eqHelp_self (x : S42) : laws_eqHelp.f x.f0 x.f1 x.f2 x.f3 x.f0 x.f1 x.f2 x.f3 = some true := by
  simp [laws_eqHelp.f]
theorem ev_eqHelpS (l : List S42) (hl : l.length ≤ 1048576) : Ev (fun k => laws_eqHelpS.f k l l) true := by
  unfold laws_eqHelpS.f
  refine ev_pos rfl ?_
  refine ev_down (g := fun k i => laws_eqHelpS.l0 k l l i) (R := fun _ => true) (n := l.length) ?_ 0 (by omega)
  intro i hi h
  by_cases hlt : i < l.length
  · refine Ev.step (fun k => ?_) (h hlt)
    simp only [laws_eqHelpS.l0, eqHelp_self, Option.bind_some]
    rw [if_pos (by omega), if_pos (by omega), if_pos (by omega), if_pos trivial, wrap_succ hlt (by omega)]
  · refine ev_succ (fun k => ?_)
    simp only [laws_eqHelpS.l0]
    rw [if_neg (by omega)]
def cvWord (x : S207) : S39 := ⟨x.f0, x.f1, x.f2⟩
theorem szWordS (l : List S207) (a : Int) (h0 : 0 ≤ a) (h1 : a ≤ 1048576) (hl : l.length ≤ 9223372036854775807) : laws_szWordS.f l a = some (if a < l.length then -1 else a - l.length) := by
  unfold laws_szWordS.f
  rw [wrap_in (by omega) (by omega)]
  by_cases h : a < l.length
  · rw [if_pos (by omega), if_pos h]
  · rw [if_neg (by omega), if_neg h]
theorem ev_toWordS (l : List S207) (hl : l.length ≤ 1048576) : Ev (fun k => laws_toWordS.f k l) (l.map cvWord) := by
  unfold laws_toWordS.f
  refine ev_pos (by omega) (ev_pos (by omega) ?_)
  refine ev_fill (g := fun k acc i => laws_toWordS.l0 k l acc i) (za := z207) ?_ ?_ _ (by simp)
  · intro acc i r hi hacc h
    refine Ev.step (fun k => ?_) h
    simp only [laws_toWordS.l0, laws_toWord.f, Option.bind_some]
    rw [if_pos (by omega), if_pos (by omega), if_pos (by omega), wrap_succ hi (by omega)]
    rfl
  · intro acc hacc
    refine ev_succ (fun k => ?_)
    simp only [laws_toWordS.l0]
    rw [if_neg (by omega)]
theorem eqWord_self (x : S39) : laws_eqWord.f x.f0 x.f1 x.f2 x.f0 x.f1 x.f2 = some true := by
  simp [laws_eqWord.f]
theorem ev_eqWordS (l : List S39) (hl : l.length ≤ 1048576) : Ev (fun k => laws_eqWordS.f k l l) true := by
  unfold laws_eqWordS.f
  refine ev_pos rfl ?_
  refine ev_down (g := fun k i => laws_eqWordS.l0 k l l i) (R := fun _ => true) (n := l.length) ?_ 0 (by omega)
  intro i hi h
  by_cases hlt : i < l.length
  · refine Ev.step (fun k => ?_) (h hlt)
    simp only [laws_eqWordS.l0, eqWord_self, Option.bind_some]
    rw [if_pos (by omega), if_pos (by omega), if_pos (by omega), if_pos trivial, wrap_succ hlt (by omega)]
  · refine ev_succ (fun k => ?_)
    simp only [laws_eqWordS.l0]
    rw [if_neg (by omega)]
def cvEntry (x : S236) : S37 := ⟨x.f0, x.f1, x.f2⟩
theorem szEntryS (l : List S236) (a : Int) (h0 : 0 ≤ a) (h1 : a ≤ 1048576) (hl : l.length ≤ 9223372036854775807) : laws_szEntryS.f l a = some (if a < l.length then -1 else a - l.length) := by
  unfold laws_szEntryS.f
  rw [wrap_in (by omega) (by omega)]
  by_cases h : a < l.length
  · rw [if_pos (by omega), if_pos h]
  · rw [if_neg (by omega), if_neg h]
theorem ev_toEntryS (l : List S236) (hl : l.length ≤ 1048576) : Ev (fun k => laws_toEntryS.f k l) (l.map cvEntry) := by
  unfold laws_toEntryS.f
  refine ev_pos (by omega) (ev_pos (by omega) ?_)
  refine ev_fill (g := fun k acc i => laws_toEntryS.l0 k l acc i) (za := z236) ?_ ?_ _ (by simp)
  · intro acc i r hi hacc h
    refine Ev.step (fun k => ?_) h
    simp only [laws_toEntryS.l0, laws_toEntry.f, Option.bind_some]
    rw [if_pos (by omega), if_pos (by omega), if_pos (by omega), wrap_succ hi (by omega)]
    rfl
  · intro acc hacc
    refine ev_succ (fun k => ?_)
    simp only [laws_toEntryS.l0]
    rw [if_neg (by omega)]
theorem eqEntry_self (x : S37) : laws_eqEntry.f x.f0 x.f1 x.f2 x.f0 x.f1 x.f2 = some true := by
  simp [laws_eqEntry.f]
theorem ev_eqEntryS (l : List S37) (hl : l.length ≤ 1048576) : Ev (fun k => laws_eqEntryS.f k l l) true := by
  unfold laws_eqEntryS.f
  refine ev_pos rfl ?_
  refine ev_down (g := fun k i => laws_eqEntryS.l0 k l l i) (R := fun _ => true) (n := l.length) ?_ 0 (by omega)
  intro i hi h
  by_cases hlt : i < l.length
  · refine Ev.step (fun k => ?_) (h hlt)
    simp only [laws_eqEntryS.l0, eqEntry_self, Option.bind_some]
    rw [if_pos (by omega), if_pos (by omega), if_pos (by omega), if_pos trivial, wrap_succ hlt (by omega)]
  · refine ev_succ (fun k => ?_)
    simp only [laws_eqEntryS.l0]
    rw [if_neg (by omega)]
end Go.Proofs.YtopikhjcbcpiaaaGreat.Q
end
section
namespace Go.Proofs.YtopikhjcbcpiaaaGreat.Q
open Go.RowKit Go.Proofs.YtopikhjcbcpiaaaGreatW.PrintWords Go.Proofs.YtopikhjcbcpiaaaGreatX
theorem szIntS (l : List Int) (a : Int) (h0 : 0 ≤ a) (h1 : a ≤ 1048576) (hl : l.length ≤ 9223372036854775807) : laws_szIntS.f l a = some (if a < l.length then -1 else a - l.length) := by
  unfold laws_szIntS.f
  rw [wrap_in (by omega) (by omega)]
  by_cases h : a < l.length
  · rw [if_pos (by omega), if_pos h]
  · rw [if_neg (by omega), if_neg h]
theorem ev_toIntS (l : List Int) (hl : l.length ≤ 1048576) : Ev (fun k => laws_toIntS.f k l) l := by
  unfold laws_toIntS.f
  refine ev_pos (by omega) (ev_pos (by omega) ?_)
  refine ev_to (ev_fill (g := fun k acc i => laws_toIntS.l0 k l acc i) (l := l) (cv := fun x => x) (za := 0) ?_ ?_ _ (by simp)) (by simp)
  · intro acc i r hi hacc h
    refine Ev.step (fun k => ?_) h
    simp only [laws_toIntS.l0]
    rw [if_pos (by omega), if_pos (by omega), if_pos (by omega), wrap_succ hi (by omega)]
    rfl
  · intro acc hacc
    refine ev_succ (fun k => ?_)
    simp only [laws_toIntS.l0]
    rw [if_neg (by omega)]
theorem ev_eqIntS (l : List Int) (hl : l.length ≤ 1048576) : Ev (fun k => laws_eqIntS.f k l l) true := by
  unfold laws_eqIntS.f
  refine ev_pos rfl ?_
  refine ev_down (g := fun k i => laws_eqIntS.l0 k l l i) (R := fun _ => true) (n := l.length) ?_ 0 (by omega)
  intro i hi h
  by_cases hlt : i < l.length
  · refine Ev.step (fun k => ?_) (h hlt)
    simp only [laws_eqIntS.l0]
    rw [if_pos (by omega), if_pos (by omega), if_pos (by omega), if_pos trivial, wrap_succ hlt (by omega)]
  · refine ev_succ (fun k => ?_)
    simp only [laws_eqIntS.l0]
    rw [if_neg (by omega)]
end Go.Proofs.YtopikhjcbcpiaaaGreat.Q
end
section
namespace Go.Proofs.YtopikhjcbcpiaaaGreat.Q
open Go.RowKit Go.Proofs.YtopikhjcbcpiaaaGreatW.PrintWords Go.Proofs.YtopikhjcbcpiaaaGreatX
theorem szResD (c : Int) (l : List Int) (a : Int) (h0 : 0 ≤ a) (h1 : a ≤ 1048576) (hl : l.length ≤ 9223372036854775807) : laws_szRes.f c l a = some (if a < l.length then -1 else a - l.length) := by
  unfold laws_szRes.f
  rw [szIntS l a h0 h1 hl]
  by_cases h : a < l.length
  · simp [h]
  · simp only [if_neg h, Option.bind_some]; rw [if_neg (by omega)]
theorem ev_toResD (c : Int) (l : List Int) (h : l.length ≤ 1048576) : Ev (fun k => laws_toRes.f k c l) (c, l) := Ev.bind (f := fun _ t => some (c, t)) (ev_toIntS l h) (Ev.now _)
theorem ev_eqResD (c : Int) (l : List Int) (h : l.length ≤ 1048576) : Ev (fun k => laws_eqRes.f k c l c l) true := by
  unfold laws_eqRes.f
  exact ev_pos rfl (Ev.bind (f := fun _ t => if t = true then some true else some false) (ev_eqIntS l h) (ev_of fun k => by simp))
def cvDesc (x : S201) : S52 := ⟨x.f0, x.f1, x.f2.map cvEntry, ⟨x.f3.f0, x.f3.f1⟩⟩
def fitADesc (x : S201) : Prop := x.f2.length ≤ 1048576 ∧ x.f3.f1.length ≤ 1048576
def fitBDesc (x : S52) : Prop := x.f2.length ≤ 1048576 ∧ x.f3.f1.length ≤ 1048576
theorem szDesc_ok (x : S201) (a : Int) (h0 : 0 ≤ a) (h1 : a ≤ 1048576) (hb : x.f2.length ≤ 9223372036854775807 ∧ x.f3.f1.length ≤ 9223372036854775807) : ∃ r, laws_szDesc.f x.f0 x.f1 x.f2 x.f3.f0 x.f3.f1 a = some r ∧ (r < 0 ∨ (0 ≤ r ∧ r ≤ a ∧ fitADesc x)) := by
  unfold laws_szDesc.f
  rw [szEntryS x.f2 a (by omega) (by omega) hb.1]
  by_cases h0 : a < x.f2.length
  · exact ⟨-1, by simp [h0], .inl (by omega)⟩
  · simp only [if_neg h0, Option.bind_some]
    rw [if_neg (by omega), szResD _ _ (a - x.f2.length) (by omega) (by omega) hb.2]
    by_cases h1 : a - x.f2.length < x.f3.f1.length
    · exact ⟨-1, by simp [h1], .inl (by omega)⟩
    · simp only [if_neg h1, Option.bind_some]
      rw [if_neg (by omega)]
      exact ⟨_, rfl, .inr ⟨by omega, by omega, by unfold fitADesc; omega⟩⟩
theorem ev_toDesc (x : S201) (h : fitADesc x) : Ev (fun k => laws_toDesc.f k x.f0 x.f1 x.f2 x.f3.f0 x.f3.f1) (x.f0, x.f1, x.f2.map cvEntry, x.f3.f0, x.f3.f1) := by
  unfold laws_toDesc.f
  exact Ev.bind (ev_toEntryS x.f2 h.1) (Ev.bind (ev_toResD _ _ h.2) (Ev.now _))
theorem ev_eqDesc (x : S52) (h : fitBDesc x) : Ev (fun k => laws_eqDesc.f k x.f0 x.f1 x.f2 x.f3.f0 x.f3.f1 x.f0 x.f1 x.f2 x.f3.f0 x.f3.f1) true := by
  unfold laws_eqDesc.f
  exact ev_pos (by first | rfl | trivial) (ev_pos (by first | rfl | trivial) (Ev.bind (ev_eqEntryS x.f2 h.1) (ev_pos rfl (Ev.bind (ev_eqResD _ _ h.2) (ev_pos rfl (Ev.now _))))))
theorem rdaDesc {l : List S201} {i : Nat} (h : i < l.length) : rd_T201 l (i : Int) = l[i] := by
  show l.getD (i : Int).toNat z201 = l[i]
  rw [Int.toNat_natCast]; simp [List.getD_eq_getElem?_getD, List.getElem?_eq_getElem h]
theorem rdbDesc {l : List S52} {i : Nat} (h : i < l.length) : rd_T52 l (i : Int) = l[i] := by
  show l.getD (i : Int).toNat z52 = l[i]
  rw [Int.toNat_natCast]; simp [List.getD_eq_getElem?_getD, List.getElem?_eq_getElem h]
theorem szDescS_ok (l : List S201) (a : Int) (h0 : 0 ≤ a) (h1 : a ≤ 1048576) (hl : l.length ≤ 9223372036854775807) (ho : ∀ x ∈ l, x.f2.length ≤ 9223372036854775807 ∧ x.f3.f1.length ≤ 9223372036854775807) :
    ∃ r, Ev (fun k => laws_szDescS.f k l a) r ∧ (r < 0 ∨ (0 ≤ r ∧ r ≤ a ∧ l.length ≤ 1048576 ∧ ∀ x ∈ l, fitADesc x)) := by
  unfold laws_szDescS.f
  rw [wrap_in (by omega) (by omega)]
  by_cases h : a - l.length < 0
  · exact ⟨-1, ev_pos h (Ev.now _), .inl (by omega)⟩
  · have key : ∀ (d i : Nat) (b : Int), i + d = l.length → 0 ≤ b → b ≤ 1048576 → ∃ r, Ev (fun k => laws_szDescS.l0 k l b (i : Int)) r ∧ (r < 0 ∨ (0 ≤ r ∧ r ≤ b ∧ ∀ x ∈ l.drop i, fitADesc x)) := by
      intro d
      induction d with
      | zero =>
        intro i b hi hb0 hb1
        refine ⟨b, ev_succ (fun k => ?_), .inr ⟨hb0, by omega, fun x hx => ?_⟩⟩
        · simp only [laws_szDescS.l0]; rw [if_neg (by omega)]
        · rw [List.drop_eq_nil_of_le (by omega)] at hx; cases hx
      | succ d ih =>
        intro i b hi hb0 hb1
        have hlt : i < l.length := by omega
        have hm := ho _ (List.getElem_mem hlt)
        obtain ⟨r, hr, hcase⟩ := szDesc_ok l[i] b hb0 hb1 hm
        rcases hcase with hneg | ⟨hr0, hr1, hfit⟩
        · refine ⟨-1, ev_succ (fun k => ?_), .inl (by omega)⟩
          simp only [laws_szDescS.l0, rdaDesc hlt]
          rw [if_pos (by omega), if_pos (by omega), hr]
          simp only [Option.bind_some]
          rw [if_pos hneg]
        · obtain ⟨q, hq, hc⟩ := ih (i + 1) r (by omega) hr0 (by omega)
          refine ⟨q, Ev.step (fun k => ?_) hq, ?_⟩
          · simp only [laws_szDescS.l0, rdaDesc hlt]
            rw [if_pos (by omega), if_pos (by omega), hr]
            simp only [Option.bind_some]
            rw [if_neg (by omega), wrap_succ hlt (by omega)]
          · rcases hc with hc | ⟨c0, c1, c2⟩
            · exact .inl hc
            · refine .inr ⟨c0, by omega, fun x hx => ?_⟩
              rw [List.drop_eq_getElem_cons hlt] at hx
              rcases List.mem_cons.1 hx with rfl | hx
              · exact hfit
              · exact c2 x hx
    obtain ⟨r, hr, hc⟩ := key l.length 0 (a - l.length) (by omega) (by omega) (by omega)
    refine ⟨r, ev_neg h hr, ?_⟩
    rcases hc with hc | ⟨c0, c1, c2⟩
    · exact .inl hc
    · exact .inr ⟨c0, by omega, by omega, fun x hx => c2 x (by simpa using hx)⟩
theorem ev_toDescS (l : List S201) (hl : l.length ≤ 1048576) (hf : ∀ x ∈ l, fitADesc x) : Ev (fun k => laws_toDescS.f k l) (l.map cvDesc) := by
  unfold laws_toDescS.f
  refine ev_pos (by omega) (ev_pos (by omega) ?_)
  refine ev_fill (g := fun k acc i => laws_toDescS.l0 k l acc i) (za := z201) ?_ ?_ _ (by simp)
  · intro acc i r hi hacc h
    have ht := ev_toDesc l[i] (hf _ (List.getElem_mem hi))
    have hg : l.getD i z201 = l[i] := by simp [List.getD_eq_getElem?_getD, List.getElem?_eq_getElem hi]
    rw [hg] at h
    refine Ev.step (f := fun k => (laws_toDesc.f k l[i].f0 l[i].f1 l[i].f2 l[i].f3.f0 l[i].f3.f1).bind fun bt => laws_toDescS.l0 k l (acc.set i (⟨bt.1, bt.2.1, bt.2.2.1, (⟨bt.2.2.2.1, bt.2.2.2.2⟩ : S31)⟩ : S52)) ((i + 1 : Nat) : Int)) (fun k => ?_) (Ev.bind ht h)
    simp only [laws_toDescS.l0, rdaDesc hi]
    rw [if_pos (by omega), if_pos (by omega), wrap_succ hi (by omega)]
    congr 1
    funext bt
    rw [if_pos (by omega)]
    rfl
  · intro acc hacc
    refine ev_succ (fun k => ?_)
    simp only [laws_toDescS.l0]
    rw [if_neg (by omega)]
theorem ev_eqDescS (l : List S52) (hl : l.length ≤ 1048576) (hf : ∀ x ∈ l, fitBDesc x) : Ev (fun k => laws_eqDescS.f k l l) true := by
  unfold laws_eqDescS.f
  refine ev_pos rfl ?_
  refine ev_down (g := fun k i => laws_eqDescS.l0 k l l i) (R := fun _ => true) (n := l.length) ?_ 0 (by omega)
  intro i hi h
  by_cases hlt : i < l.length
  · have he := ev_eqDesc l[i] (hf _ (List.getElem_mem hlt))
    refine Ev.step (f := fun k => (laws_eqDesc.f k l[i].f0 l[i].f1 l[i].f2 l[i].f3.f0 l[i].f3.f1 l[i].f0 l[i].f1 l[i].f2 l[i].f3.f0 l[i].f3.f1).bind fun t => if t = true then laws_eqDescS.l0 k l l ((i + 1 : Nat) : Int) else some false) (fun k => ?_) (Ev.bind he (ev_pos rfl (h hlt)))
    simp only [laws_eqDescS.l0, rdbDesc hlt]
    rw [if_pos (by omega), if_pos (by omega), if_pos (by omega), wrap_succ hlt (by omega)]
  · refine ev_succ (fun k => ?_)
    simp only [laws_eqDescS.l0]
    rw [if_neg (by omega)]
theorem fit_cvDesc (x : S201) (h : fitADesc x) : fitBDesc (cvDesc x) := by
  unfold fitADesc at h
  unfold fitBDesc cvDesc
  simpa using h
def cvThread (x : S171) : S82 := ⟨x.f0.map cvOp, x.f1, x.f2, x.f3.map cvPair, x.f4.map cvHelp⟩
def fitAThread (x : S171) : Prop := x.f0.length ≤ 1048576 ∧ x.f3.length ≤ 1048576 ∧ x.f4.length ≤ 1048576
def fitBThread (x : S82) : Prop := x.f0.length ≤ 1048576 ∧ x.f3.length ≤ 1048576 ∧ x.f4.length ≤ 1048576
theorem szThread_ok (x : S171) (a : Int) (h0 : 0 ≤ a) (h1 : a ≤ 1048576) (hb : x.f0.length ≤ 9223372036854775807 ∧ x.f3.length ≤ 9223372036854775807 ∧ x.f4.length ≤ 9223372036854775807) : ∃ r, laws_szThread.f x.f0 x.f1 x.f2 x.f3 x.f4 a = some r ∧ (r < 0 ∨ (0 ≤ r ∧ r ≤ a ∧ fitAThread x)) := by
  unfold laws_szThread.f
  rw [szOpS x.f0 a (by omega) (by omega) hb.1]
  by_cases h0 : a < x.f0.length
  · exact ⟨-1, by simp [h0], .inl (by omega)⟩
  · simp only [if_neg h0, Option.bind_some]
    rw [if_neg (by omega), szPairS x.f3 (a - x.f0.length) (by omega) (by omega) hb.2.1]
    by_cases h1 : a - x.f0.length < x.f3.length
    · exact ⟨-1, by simp [h1], .inl (by omega)⟩
    · simp only [if_neg h1, Option.bind_some]
      rw [if_neg (by omega), szHelpS x.f4 (a - x.f0.length - x.f3.length) (by omega) (by omega) hb.2.2]
      by_cases h2 : a - x.f0.length - x.f3.length < x.f4.length
      · exact ⟨-1, by simp [h2], .inl (by omega)⟩
      · simp only [if_neg h2, Option.bind_some]
        rw [if_neg (by omega)]
        exact ⟨_, rfl, .inr ⟨by omega, by omega, by unfold fitAThread; omega⟩⟩
theorem ev_toThread (x : S171) (h : fitAThread x) : Ev (fun k => laws_toThread.f k x.f0 x.f1 x.f2 x.f3 x.f4) (x.f0.map cvOp, x.f1, x.f2, x.f3.map cvPair, x.f4.map cvHelp) := by
  unfold laws_toThread.f
  exact Ev.bind (ev_toOpS x.f0 h.1) (Ev.bind (ev_toPairS x.f3 h.2.1) (Ev.bind (ev_toHelpS x.f4 h.2.2) (Ev.now _)))
theorem ev_eqThread (x : S82) (h : fitBThread x) : Ev (fun k => laws_eqThread.f k x.f0 x.f1 x.f2 x.f3 x.f4 x.f0 x.f1 x.f2 x.f3 x.f4) true := by
  unfold laws_eqThread.f
  exact Ev.bind (ev_eqOpS x.f0 h.1) (ev_pos rfl (ev_pos (by first | rfl | trivial) (ev_neg (by simp) (Ev.bind (ev_eqPairS x.f3 h.2.1) (ev_pos rfl (Ev.bind (ev_eqHelpS x.f4 h.2.2) (ev_pos rfl (Ev.now _))))))))
theorem rdaThread {l : List S171} {i : Nat} (h : i < l.length) : rd_T171 l (i : Int) = l[i] := by
  show l.getD (i : Int).toNat z171 = l[i]
  rw [Int.toNat_natCast]; simp [List.getD_eq_getElem?_getD, List.getElem?_eq_getElem h]
theorem rdbThread {l : List S82} {i : Nat} (h : i < l.length) : rd_T82 l (i : Int) = l[i] := by
  show l.getD (i : Int).toNat z82 = l[i]
  rw [Int.toNat_natCast]; simp [List.getD_eq_getElem?_getD, List.getElem?_eq_getElem h]
theorem szThreadS_ok (l : List S171) (a : Int) (h0 : 0 ≤ a) (h1 : a ≤ 1048576) (hl : l.length ≤ 9223372036854775807) (ho : ∀ x ∈ l, x.f0.length ≤ 9223372036854775807 ∧ x.f3.length ≤ 9223372036854775807 ∧ x.f4.length ≤ 9223372036854775807) :
    ∃ r, Ev (fun k => laws_szThreadS.f k l a) r ∧ (r < 0 ∨ (0 ≤ r ∧ r ≤ a ∧ l.length ≤ 1048576 ∧ ∀ x ∈ l, fitAThread x)) := by
  unfold laws_szThreadS.f
  rw [wrap_in (by omega) (by omega)]
  by_cases h : a - l.length < 0
  · exact ⟨-1, ev_pos h (Ev.now _), .inl (by omega)⟩
  · have key : ∀ (d i : Nat) (b : Int), i + d = l.length → 0 ≤ b → b ≤ 1048576 → ∃ r, Ev (fun k => laws_szThreadS.l0 k l b (i : Int)) r ∧ (r < 0 ∨ (0 ≤ r ∧ r ≤ b ∧ ∀ x ∈ l.drop i, fitAThread x)) := by
      intro d
      induction d with
      | zero =>
        intro i b hi hb0 hb1
        refine ⟨b, ev_succ (fun k => ?_), .inr ⟨hb0, by omega, fun x hx => ?_⟩⟩
        · simp only [laws_szThreadS.l0]; rw [if_neg (by omega)]
        · rw [List.drop_eq_nil_of_le (by omega)] at hx; cases hx
      | succ d ih =>
        intro i b hi hb0 hb1
        have hlt : i < l.length := by omega
        have hm := ho _ (List.getElem_mem hlt)
        obtain ⟨r, hr, hcase⟩ := szThread_ok l[i] b hb0 hb1 hm
        rcases hcase with hneg | ⟨hr0, hr1, hfit⟩
        · refine ⟨-1, ev_succ (fun k => ?_), .inl (by omega)⟩
          simp only [laws_szThreadS.l0, rdaThread hlt]
          rw [if_pos (by omega), if_pos (by omega), hr]
          simp only [Option.bind_some]
          rw [if_pos hneg]
        · obtain ⟨q, hq, hc⟩ := ih (i + 1) r (by omega) hr0 (by omega)
          refine ⟨q, Ev.step (fun k => ?_) hq, ?_⟩
          · simp only [laws_szThreadS.l0, rdaThread hlt]
            rw [if_pos (by omega), if_pos (by omega), hr]
            simp only [Option.bind_some]
            rw [if_neg (by omega), wrap_succ hlt (by omega)]
          · rcases hc with hc | ⟨c0, c1, c2⟩
            · exact .inl hc
            · refine .inr ⟨c0, by omega, fun x hx => ?_⟩
              rw [List.drop_eq_getElem_cons hlt] at hx
              rcases List.mem_cons.1 hx with rfl | hx
              · exact hfit
              · exact c2 x hx
    obtain ⟨r, hr, hc⟩ := key l.length 0 (a - l.length) (by omega) (by omega) (by omega)
    refine ⟨r, ev_neg h hr, ?_⟩
    rcases hc with hc | ⟨c0, c1, c2⟩
    · exact .inl hc
    · exact .inr ⟨c0, by omega, by omega, fun x hx => c2 x (by simpa using hx)⟩
theorem ev_toThreadS (l : List S171) (hl : l.length ≤ 1048576) (hf : ∀ x ∈ l, fitAThread x) : Ev (fun k => laws_toThreadS.f k l) (l.map cvThread) := by
  unfold laws_toThreadS.f
  refine ev_pos (by omega) (ev_pos (by omega) ?_)
  refine ev_fill (g := fun k acc i => laws_toThreadS.l0 k l acc i) (za := z171) ?_ ?_ _ (by simp)
  · intro acc i r hi hacc h
    have ht := ev_toThread l[i] (hf _ (List.getElem_mem hi))
    have hg : l.getD i z171 = l[i] := by simp [List.getD_eq_getElem?_getD, List.getElem?_eq_getElem hi]
    rw [hg] at h
    refine Ev.step (f := fun k => (laws_toThread.f k l[i].f0 l[i].f1 l[i].f2 l[i].f3 l[i].f4).bind fun bt => laws_toThreadS.l0 k l (acc.set i (⟨bt.1, bt.2.1, bt.2.2.1, bt.2.2.2.1, bt.2.2.2.2⟩ : S82)) ((i + 1 : Nat) : Int)) (fun k => ?_) (Ev.bind ht h)
    simp only [laws_toThreadS.l0, rdaThread hi]
    rw [if_pos (by omega), if_pos (by omega), wrap_succ hi (by omega)]
    congr 1
    funext bt
    rw [if_pos (by omega)]
    rfl
  · intro acc hacc
    refine ev_succ (fun k => ?_)
    simp only [laws_toThreadS.l0]
    rw [if_neg (by omega)]
theorem ev_eqThreadS (l : List S82) (hl : l.length ≤ 1048576) (hf : ∀ x ∈ l, fitBThread x) : Ev (fun k => laws_eqThreadS.f k l l) true := by
  unfold laws_eqThreadS.f
  refine ev_pos rfl ?_
  refine ev_down (g := fun k i => laws_eqThreadS.l0 k l l i) (R := fun _ => true) (n := l.length) ?_ 0 (by omega)
  intro i hi h
  by_cases hlt : i < l.length
  · have he := ev_eqThread l[i] (hf _ (List.getElem_mem hlt))
    refine Ev.step (f := fun k => (laws_eqThread.f k l[i].f0 l[i].f1 l[i].f2 l[i].f3 l[i].f4 l[i].f0 l[i].f1 l[i].f2 l[i].f3 l[i].f4).bind fun t => if t = true then laws_eqThreadS.l0 k l l ((i + 1 : Nat) : Int) else some false) (fun k => ?_) (Ev.bind he (ev_pos rfl (h hlt)))
    simp only [laws_eqThreadS.l0, rdbThread hlt]
    rw [if_pos (by omega), if_pos (by omega), if_pos (by omega), wrap_succ hlt (by omega)]
  · refine ev_succ (fun k => ?_)
    simp only [laws_eqThreadS.l0]
    rw [if_neg (by omega)]
theorem fit_cvThread (x : S171) (h : fitAThread x) : fitBThread (cvThread x) := by
  unfold fitAThread at h
  unfold fitBThread cvThread
  simpa using h
def cvCall (x : S176) : S134 := ⟨x.f0, ⟨x.f1.f0, x.f1.f1, x.f1.f2⟩, x.f2, x.f3, x.f4, ⟨x.f5.f0, x.f5.f1⟩⟩
def fitACall (x : S176) : Prop := x.f5.f1.length ≤ 1048576
def fitBCall (x : S134) : Prop := x.f5.f1.length ≤ 1048576
theorem szCall_ok (x : S176) (a : Int) (h0 : 0 ≤ a) (h1 : a ≤ 1048576) (hb : x.f5.f1.length ≤ 9223372036854775807) : ∃ r, laws_szCall.f x.f0 x.f1.f0 x.f1.f1 x.f1.f2 x.f2 x.f3 x.f4 x.f5.f0 x.f5.f1 a = some r ∧ (r < 0 ∨ (0 ≤ r ∧ r ≤ a ∧ fitACall x)) := by
  unfold laws_szCall.f
  rw [szResD _ _ a (by omega) (by omega) hb]
  by_cases h0 : a < x.f5.f1.length
  · exact ⟨-1, by simp [h0], .inl (by omega)⟩
  · simp only [if_neg h0, Option.bind_some]
    rw [if_neg (by omega)]
    exact ⟨_, rfl, .inr ⟨by omega, by omega, by unfold fitACall; omega⟩⟩
theorem ev_toCall (x : S176) (h : fitACall x) : Ev (fun k => laws_toCall.f k x.f0 x.f1.f0 x.f1.f1 x.f1.f2 x.f2 x.f3 x.f4 x.f5.f0 x.f5.f1) (x.f0, x.f1.f0, x.f1.f1, x.f1.f2, x.f2, x.f3, x.f4, x.f5.f0, x.f5.f1) := by
  unfold laws_toCall.f
  simp only [laws_toOp.f, Option.bind_some]
  exact Ev.bind (ev_toResD _ _ h) (Ev.now _)
theorem ev_eqCall (x : S134) (h : fitBCall x) : Ev (fun k => laws_eqCall.f k x.f0 x.f1.f0 x.f1.f1 x.f1.f2 x.f2 x.f3 x.f4 x.f5.f0 x.f5.f1 x.f0 x.f1.f0 x.f1.f1 x.f1.f2 x.f2 x.f3 x.f4 x.f5.f0 x.f5.f1) true := by
  unfold laws_eqCall.f
  have hop : laws_eqOp.f x.f1.f0 x.f1.f1 x.f1.f2 x.f1.f0 x.f1.f1 x.f1.f2 = some true := by simp [laws_eqOp.f]
  simp only [hop, Option.bind_some]
  exact ev_pos (by first | rfl | trivial) (ev_pos (by first | rfl | trivial) (ev_pos (by first | rfl | trivial) (ev_pos (by first | rfl | trivial) (ev_pos (by first | rfl | trivial) (Ev.bind (ev_eqResD _ _ h) (ev_pos rfl (Ev.now _)))))))
theorem rdaCall {l : List S176} {i : Nat} (h : i < l.length) : rd_T176 l (i : Int) = l[i] := by
  show l.getD (i : Int).toNat z176 = l[i]
  rw [Int.toNat_natCast]; simp [List.getD_eq_getElem?_getD, List.getElem?_eq_getElem h]
theorem rdbCall {l : List S134} {i : Nat} (h : i < l.length) : rd_T134 l (i : Int) = l[i] := by
  show l.getD (i : Int).toNat z134 = l[i]
  rw [Int.toNat_natCast]; simp [List.getD_eq_getElem?_getD, List.getElem?_eq_getElem h]
theorem szCallS_ok (l : List S176) (a : Int) (h0 : 0 ≤ a) (h1 : a ≤ 1048576) (hl : l.length ≤ 9223372036854775807) (ho : ∀ x ∈ l, x.f5.f1.length ≤ 9223372036854775807) :
    ∃ r, Ev (fun k => laws_szCallS.f k l a) r ∧ (r < 0 ∨ (0 ≤ r ∧ r ≤ a ∧ l.length ≤ 1048576 ∧ ∀ x ∈ l, fitACall x)) := by
  unfold laws_szCallS.f
  rw [wrap_in (by omega) (by omega)]
  by_cases h : a - l.length < 0
  · exact ⟨-1, ev_pos h (Ev.now _), .inl (by omega)⟩
  · have key : ∀ (d i : Nat) (b : Int), i + d = l.length → 0 ≤ b → b ≤ 1048576 → ∃ r, Ev (fun k => laws_szCallS.l0 k l b (i : Int)) r ∧ (r < 0 ∨ (0 ≤ r ∧ r ≤ b ∧ ∀ x ∈ l.drop i, fitACall x)) := by
      intro d
      induction d with
      | zero =>
        intro i b hi hb0 hb1
        refine ⟨b, ev_succ (fun k => ?_), .inr ⟨hb0, by omega, fun x hx => ?_⟩⟩
        · simp only [laws_szCallS.l0]; rw [if_neg (by omega)]
        · rw [List.drop_eq_nil_of_le (by omega)] at hx; cases hx
      | succ d ih =>
        intro i b hi hb0 hb1
        have hlt : i < l.length := by omega
        have hm := ho _ (List.getElem_mem hlt)
        obtain ⟨r, hr, hcase⟩ := szCall_ok l[i] b hb0 hb1 hm
        rcases hcase with hneg | ⟨hr0, hr1, hfit⟩
        · refine ⟨-1, ev_succ (fun k => ?_), .inl (by omega)⟩
          simp only [laws_szCallS.l0, rdaCall hlt]
          rw [if_pos (by omega), if_pos (by omega), hr]
          simp only [Option.bind_some]
          rw [if_pos hneg]
        · obtain ⟨q, hq, hc⟩ := ih (i + 1) r (by omega) hr0 (by omega)
          refine ⟨q, Ev.step (fun k => ?_) hq, ?_⟩
          · simp only [laws_szCallS.l0, rdaCall hlt]
            rw [if_pos (by omega), if_pos (by omega), hr]
            simp only [Option.bind_some]
            rw [if_neg (by omega), wrap_succ hlt (by omega)]
          · rcases hc with hc | ⟨c0, c1, c2⟩
            · exact .inl hc
            · refine .inr ⟨c0, by omega, fun x hx => ?_⟩
              rw [List.drop_eq_getElem_cons hlt] at hx
              rcases List.mem_cons.1 hx with rfl | hx
              · exact hfit
              · exact c2 x hx
    obtain ⟨r, hr, hc⟩ := key l.length 0 (a - l.length) (by omega) (by omega) (by omega)
    refine ⟨r, ev_neg h hr, ?_⟩
    rcases hc with hc | ⟨c0, c1, c2⟩
    · exact .inl hc
    · exact .inr ⟨c0, by omega, by omega, fun x hx => c2 x (by simpa using hx)⟩
theorem ev_toCallS (l : List S176) (hl : l.length ≤ 1048576) (hf : ∀ x ∈ l, fitACall x) : Ev (fun k => laws_toCallS.f k l) (l.map cvCall) := by
  unfold laws_toCallS.f
  refine ev_pos (by omega) (ev_pos (by omega) ?_)
  refine ev_fill (g := fun k acc i => laws_toCallS.l0 k l acc i) (za := z176) ?_ ?_ _ (by simp)
  · intro acc i r hi hacc h
    have ht := ev_toCall l[i] (hf _ (List.getElem_mem hi))
    have hg : l.getD i z176 = l[i] := by simp [List.getD_eq_getElem?_getD, List.getElem?_eq_getElem hi]
    rw [hg] at h
    refine Ev.step (f := fun k => (laws_toCall.f k l[i].f0 l[i].f1.f0 l[i].f1.f1 l[i].f1.f2 l[i].f2 l[i].f3 l[i].f4 l[i].f5.f0 l[i].f5.f1).bind fun bt => laws_toCallS.l0 k l (acc.set i (⟨bt.1, (⟨bt.2.1, bt.2.2.1, bt.2.2.2.1⟩ : S132), bt.2.2.2.2.1, bt.2.2.2.2.2.1, bt.2.2.2.2.2.2.1, (⟨bt.2.2.2.2.2.2.2.1, bt.2.2.2.2.2.2.2.2⟩ : S31)⟩ : S134)) ((i + 1 : Nat) : Int)) (fun k => ?_) (Ev.bind ht h)
    simp only [laws_toCallS.l0, rdaCall hi]
    rw [if_pos (by omega), if_pos (by omega), wrap_succ hi (by omega)]
    congr 1
    funext bt
    rw [if_pos (by omega)]
    rfl
  · intro acc hacc
    refine ev_succ (fun k => ?_)
    simp only [laws_toCallS.l0]
    rw [if_neg (by omega)]
theorem ev_eqCallS (l : List S134) (hl : l.length ≤ 1048576) (hf : ∀ x ∈ l, fitBCall x) : Ev (fun k => laws_eqCallS.f k l l) true := by
  unfold laws_eqCallS.f
  refine ev_pos rfl ?_
  refine ev_down (g := fun k i => laws_eqCallS.l0 k l l i) (R := fun _ => true) (n := l.length) ?_ 0 (by omega)
  intro i hi h
  by_cases hlt : i < l.length
  · have he := ev_eqCall l[i] (hf _ (List.getElem_mem hlt))
    refine Ev.step (f := fun k => (laws_eqCall.f k l[i].f0 l[i].f1.f0 l[i].f1.f1 l[i].f1.f2 l[i].f2 l[i].f3 l[i].f4 l[i].f5.f0 l[i].f5.f1 l[i].f0 l[i].f1.f0 l[i].f1.f1 l[i].f1.f2 l[i].f2 l[i].f3 l[i].f4 l[i].f5.f0 l[i].f5.f1).bind fun t => if t = true then laws_eqCallS.l0 k l l ((i + 1 : Nat) : Int) else some false) (fun k => ?_) (Ev.bind he (ev_pos rfl (h hlt)))
    simp only [laws_eqCallS.l0, rdbCall hlt]
    rw [if_pos (by omega), if_pos (by omega), if_pos (by omega), wrap_succ hlt (by omega)]
  · refine ev_succ (fun k => ?_)
    simp only [laws_eqCallS.l0]
    rw [if_neg (by omega)]
theorem fit_cvCall (x : S176) (h : fitACall x) : fitBCall (cvCall x) := by
  unfold fitACall at h
  unfold fitBCall cvCall
  simpa using h
end Go.Proofs.YtopikhjcbcpiaaaGreat.Q
end
section
namespace Go.Proofs.YtopikhjcbcpiaaaGreat.Q
open Go.RowKit Go.Proofs.YtopikhjcbcpiaaaGreatW.PrintWords Go.Proofs.YtopikhjcbcpiaaaGreatX
def lastP (cs : List S134) (t : Int) : Nat → Int
  | 0 => -1
  | i + 1 => if (cs.getD i z134).f0 = t then (i : Int) else lastP cs t i
def endP (cs : List S134) (t : Int) : Nat → Nat
  | 0 => 0
  | i + 1 => if (cs.getD i z134).f0 = t ∧ 0 ≤ (cs.getD i z134).f4 then endP cs t i + 1 else endP cs t i
def openP (cs : List S134) (t : Int) : Nat → Nat
  | 0 => 0
  | i + 1 => if (cs.getD i z134).f0 = t ∧ ¬ 0 ≤ (cs.getD i z134).f4 then openP cs t i + 1 else openP cs t i
theorem lastP_bd (cs : List S134) (t : Int) : ∀ i, -1 ≤ lastP cs t i ∧ lastP cs t i < i
  | 0 => by simp [lastP]
  | i + 1 => by
    have := lastP_bd cs t i
    unfold lastP
    split <;> omega
theorem endP_le (cs : List S134) (t : Int) : ∀ i, endP cs t i ≤ i
  | 0 => Nat.le_refl _
  | i + 1 => by
    have := endP_le cs t i
    unfold endP
    split <;> omega
theorem openP_le (cs : List S134) (t : Int) : ∀ i, openP cs t i ≤ i
  | 0 => Nat.le_refl _
  | i + 1 => by
    have := openP_le cs t i
    unfold openP
    split <;> omega
def isOpen (cs : List S134) (t : Int) (i : Nat) : Prop := (cs.getD i z134).f0 = t ∧ ¬ 0 ≤ (cs.getD i z134).f4
instance (cs : List S134) (t : Int) (i : Nat) : Decidable (isOpen cs t i) := by unfold isOpen; infer_instance
theorem open_none (cs : List S134) (t : Int) : ∀ n, openP cs t n = 0 ↔ ∀ i, i < n → ¬ isOpen cs t i
  | 0 => by simp [openP]
  | n + 1 => by
    have ih := open_none cs t n
    by_cases h : isOpen cs t n
    · have hs : openP cs t (n + 1) = openP cs t n + 1 := by rw [openP]; exact if_pos h
      rw [hs]
      constructor
      · intro h0; omega
      · intro h0; exact absurd h (h0 n (by omega))
    · have hs : openP cs t (n + 1) = openP cs t n := by rw [openP]; exact if_neg h
      rw [hs, ih]
      constructor
      · intro h0 i hi
        rcases Nat.lt_or_ge i n with hlt | hge
        · exact h0 i hlt
        · obtain rfl : i = n := by omega
          exact h
      · intro h0 i hi
        exact h0 i (by omega)
theorem open_one (cs : List S134) (t : Int) : ∀ n, 0 ≤ lastP cs t n → (cs.getD (lastP cs t n).toNat z134).f4 = -1 → (openP cs t n = 1 ↔ ∀ i, i < n → isOpen cs t i → (i : Int) = lastP cs t n)
  | 0 => by simp [lastP]
  | n + 1 => by
    intro h0 h4
    by_cases ht : (cs.getD n z134).f0 = t
    · have hl : lastP cs t (n + 1) = (n : Int) := by rw [lastP, if_pos ht]
      rw [hl, Int.toNat_natCast] at h4
      have ho : isOpen cs t n := ⟨ht, by omega⟩
      have hs : openP cs t (n + 1) = openP cs t n + 1 := by rw [openP]; exact if_pos ho
      rw [hs, hl]
      constructor
      · intro h1 i hi hop
        have hz := (open_none cs t n).1 (by omega)
        rcases Nat.lt_or_ge i n with hlt | hge
        · exact absurd hop (hz i hlt)
        · omega
      · intro h1
        have hz := (open_none cs t n).2 (fun i hi hop => by have := h1 i (by omega) hop; omega)
        omega
    · have hl : lastP cs t (n + 1) = lastP cs t n := by rw [lastP, if_neg ht]
      have hno : ¬ isOpen cs t n := fun h => ht h.1
      have hs : openP cs t (n + 1) = openP cs t n := by rw [openP]; exact if_neg hno
      rw [hl] at h0 h4 ⊢
      rw [hs, open_one cs t n h0 h4]
      constructor
      · intro h1 i hi hop
        rcases Nat.lt_or_ge i n with hlt | hge
        · exact h1 i hlt hop
        · obtain rfl : i = n := by omega
          exact absurd hop hno
      · intro h1 i hi hop
        exact h1 i (by omega) hop
theorem ev_spec_Last (ws : List S39) (ds : List S52) (ts : List S82) (time : Int) (cs : List S134) (ord held : List Int) (st t : Int) (hc : cs.length ≤ 1048576) :
    Ev (fun k => spec_l9Last.f k ws ds ts time cs ord held st t) (lastP cs t cs.length) := by
  have key : ∀ i : Nat, i ≤ cs.length → Ev (fun k => spec_l9Last.l0 k t ((i : Int) - 1) ws ds ts time cs ord held st) (lastP cs t i) := by
    intro i
    induction i with
    | zero =>
      intro _
      refine ev_succ (fun k => ?_)
      simp only [spec_l9Last.l0]
      rw [if_neg (by omega)]
      rfl
    | succ i ih =>
      intro hi
      have e0 : (((i + 1 : Nat) : Int) - 1) = (i : Int) := by omega
      rw [e0]
      by_cases ht : (cs.getD i z134).f0 = t
      · refine ev_to (ev_succ (fun k => ?_)) (by rw [lastP, if_pos ht])
        simp only [spec_l9Last.l0, rd134]
        rw [if_pos (by omega), if_pos (by omega), if_pos (by omega), if_pos ht]
      · refine ev_to (Ev.step (fun k => ?_) (ih (by omega))) (by rw [lastP, if_neg ht])
        simp only [spec_l9Last.l0, rd134]
        rw [if_pos (by omega), if_pos (by omega), if_pos (by omega), if_neg ht, wrap_in (by omega) (by omega)]
  have h := key cs.length (Nat.le_refl _)
  unfold spec_l9Last.f
  rw [wrap_in (by omega) (by omega)]
  exact h
def opE (c : S134) (o : S132) : Bool := c.f1.f0 == o.f0 && (c.f1.f1 == o.f1 && (c.f1.f2 == o.f2))
def callsB (x : S82) (t : Int) (cs : List S134) : Bool :=
  decide ((endP cs t cs.length : Int) = x.f1) && (if x.f2 = true then decide (0 ≤ lastP cs t cs.length) && (decide (openP cs t cs.length = 1) && (decide ((cs.getD (lastP cs t cs.length).toNat z134).f4 = -1) && opE (cs.getD (lastP cs t cs.length).toNat z134) (x.f0.getD x.f1.toNat z132))) else decide (openP cs t cs.length = 0))
theorem rdO {l : List S132} {v : Int} : rd_T132 l v = l.getD v.toNat z132 := by
  show l.getD v.toNat z132 = _
  exact id rfl
theorem ev_impl_callsOk (ws : List S39) (ds : List S52) (ts : List S82) (time : Int) (cs : List S134) (ord held : List Int) (st : Int) (j : Nat) (hj : j < ts.length) (hc : cs.length ≤ 1048576)
    (hpc : 0 ≤ (ts.getD j z82).f1) (hon : (ts.getD j z82).f2 = true → (ts.getD j z82).f1 < ((ts.getD j z82).f0.length : Int)) :
    Ev (fun k => impl_callsOk.f k ws ds ts time cs ord held st (j : Int)) (callsB (ts.getD j z82) (j : Int) cs) := by
  have e : rd_T82 ts (j : Int) = ts.getD j z82 := rfl
  unfold impl_callsOk.f
  refine ev_pos (by omega) (ev_pos (by omega) ?_)
  simp only [e]
  generalize ts.getD j z82 = x at hpc hon ⊢
  have key : ∀ (d i : Nat), i + d = cs.length → Ev (fun k => impl_callsOk.l0 k (j : Int) (lastP cs (j : Int) i) (endP cs (j : Int) i : Int) (openP cs (j : Int) i : Int) cs (cs.length : Int) (i : Int) ws ds ts time cs ord held st x.f0 x.f1 x.f2 x.f3 x.f4) (callsB x (j : Int) cs) := by
    intro d
    induction d with
    | zero =>
      intro i hi
      obtain rfl : i = cs.length := by omega
      have hl := lastP_bd cs (j : Int) cs.length
      refine ev_succ (fun k => ?_)
      simp only [impl_callsOk.l0]
      rw [if_neg (by omega)]
      unfold callsB
      generalize hL : lastP cs (j : Int) cs.length = L at hl ⊢
      by_cases h1 : ((endP cs (j : Int) cs.length : Nat) : Int) = x.f1
      · rw [if_pos h1, decide_eq_true h1, Bool.true_and]
        cases hx : x.f2 with
        | false =>
          rw [if_neg (by simp), if_neg (by simp), Option.some.injEq, Bool.eq_iff_iff]
          simp only [beq_iff_eq, decide_eq_true_eq]
          omega
        | true =>
          rw [if_pos rfl, if_pos rfl]
          by_cases h2 : L ≥ 0
          · rw [if_pos h2, decide_eq_true (show 0 ≤ L by omega), Bool.true_and]
            by_cases h3 : ((openP cs (j : Int) cs.length : Nat) : Int) = 1
            · rw [if_pos h3, decide_eq_true (show openP cs (j : Int) cs.length = 1 by omega), Bool.true_and, if_pos (show 0 ≤ L by omega), if_pos (show L < (cs.length : Int) by omega)]
              simp only [rdC]
              by_cases h4 : (cs.getD L.toNat z134).f4 = -1
              · have hlt := hon hx
                rw [if_pos h4, if_pos hpc, if_pos hlt, decide_eq_true h4, Bool.true_and]
                simp only [rdO]
                rfl
              · rw [if_neg h4, decide_eq_false h4, Bool.false_and]
            · rw [if_neg h3, decide_eq_false (show ¬ openP cs (j : Int) cs.length = 1 by omega), Bool.false_and]
          · rw [if_neg h2, decide_eq_false (show ¬ 0 ≤ L by omega), Bool.false_and]
      · rw [if_neg h1, decide_eq_false h1, Bool.false_and]
    | succ d ih =>
      intro i hi
      have h := ih (i + 1) (by omega)
      have e1 : wrap64 ((i : Int) + 1) = ((i + 1 : Nat) : Int) := by rw [wrap_in (by omega) (by omega)]; omega
      have b1 := endP_le cs (j : Int) i
      have b2 := openP_le cs (j : Int) i
      unfold lastP endP openP at h
      by_cases ht : (cs.getD i z134).f0 = (j : Int)
      · rw [if_pos ht] at h
        by_cases h4 : 0 ≤ (cs.getD i z134).f4
        · rw [if_pos ⟨ht, h4⟩, if_neg (fun hc => hc.2 h4)] at h
          refine Ev.step (fun k => ?_) h
          simp only [impl_callsOk.l0, rd134]
          rw [if_pos (by omega), if_pos (by omega), if_pos (by omega), if_pos ht, if_pos (by omega), e1, wrap_in (x := ((endP cs (j : Int) i : Nat) : Int) + 1) (by omega) (by omega)]
          rfl
        · rw [if_neg (fun hc => h4 hc.2), if_pos ⟨ht, h4⟩] at h
          refine Ev.step (fun k => ?_) h
          simp only [impl_callsOk.l0, rd134]
          rw [if_pos (by omega), if_pos (by omega), if_pos (by omega), if_pos ht, if_neg (by omega), e1, wrap_in (x := ((openP cs (j : Int) i : Nat) : Int) + 1) (by omega) (by omega)]
          rfl
      · rw [if_neg ht, if_neg (fun hc => ht hc.1), if_neg (fun hc => ht hc.1)] at h
        refine Ev.step (fun k => ?_) h
        simp only [impl_callsOk.l0, rd134]
        rw [if_pos (by omega), if_pos (by omega), if_pos (by omega), if_neg ht, e1]
  exact key cs.length 0 (by omega)
theorem all_open_off (cs : List S134) (t : Int) (n : Nat) : (List.range n).all (fun i => decide (¬ isOpen cs t i)) = decide (openP cs t n = 0) := by
  rw [Bool.eq_iff_iff, List.all_eq_true, decide_eq_true_eq, open_none]
  constructor
  · intro h i hi
    have := h i (List.mem_range.2 hi)
    exact of_decide_eq_true this
  · intro h i hi
    exact decide_eq_true (h i (List.mem_range.1 hi))
theorem all_open_on (cs : List S134) (t : Int) (n : Nat) (h0 : 0 ≤ lastP cs t n) (h4 : (cs.getD (lastP cs t n).toNat z134).f4 = -1) :
    (List.range n).all (fun i => decide (isOpen cs t i → (i : Int) = lastP cs t n)) = decide (openP cs t n = 1) := by
  rw [Bool.eq_iff_iff, List.all_eq_true, decide_eq_true_eq, open_one cs t n h0 h4]
  constructor
  · intro h i hi
    have := h i (List.mem_range.2 hi)
    exact of_decide_eq_true this
  · intro h i hi
    exact decide_eq_true (h i (List.mem_range.1 hi))
theorem ev_spec_Thread (ws : List S39) (ds : List S52) (ts : List S82) (time : Int) (cs : List S134) (ord held : List Int) (st : Int) (j : Nat) (hj : j < ts.length) (hc : cs.length ≤ 1048576)
    (hpc : 0 ≤ (ts.getD j z82).f1) (hon : (ts.getD j z82).f2 = true → (ts.getD j z82).f1 < ((ts.getD j z82).f0.length : Int)) :
    Ev (fun k => spec_l9Thread.f k ws ds ts time cs ord held st (j : Int)) (callsB (ts.getD j z82) (j : Int) cs) := by
  have e : rd_T82 ts (j : Int) = ts.getD j z82 := rfl
  unfold spec_l9Thread.f
  refine ev_pos (by omega) (ev_pos (by omega) (Ev.bind (ev_spec_Last ws ds ts time cs ord held st (j : Int) hc) ?_))
  simp only [e]
  generalize ts.getD j z82 = x at hpc hon ⊢
  have hl := lastP_bd cs (j : Int) cs.length
  have hop1 := all_open_on cs (j : Int) cs.length
  unfold callsB
  generalize hL : lastP cs (j : Int) cs.length = L at hl hop1 ⊢
  -- what is asked behind the loop
  have G : Ev (fun k => spec_l9Thread.l0 k (j : Int) L ((endP cs (j : Int) cs.length : Nat) : Int) (cs.length : Int) ws ds ts time cs ord held st x.f0 x.f1 x.f2 x.f3 x.f4)
      (decide ((endP cs (j : Int) cs.length : Int) = x.f1) && (if x.f2 = true then decide (0 ≤ L) && (decide ((cs.getD L.toNat z134).f4 = -1) && opE (cs.getD L.toNat z134) (x.f0.getD x.f1.toNat z132)) else true)) := by
    refine ev_succ (fun k => ?_)
    simp only [spec_l9Thread.l0]
    rw [if_neg (by omega)]
    by_cases h1 : ((endP cs (j : Int) cs.length : Nat) : Int) = x.f1
    · rw [if_pos h1, decide_eq_true h1, Bool.true_and]
      cases hx : x.f2 with
      | false => rw [if_neg (by simp), if_neg (by simp)]
      | true =>
        rw [if_pos rfl, if_pos rfl]
        by_cases h2 : L ≥ 0
        · rw [if_pos h2, decide_eq_true (show 0 ≤ L by omega), Bool.true_and, if_pos (show 0 ≤ L by omega), if_pos (show L < (cs.length : Int) by omega)]
          simp only [rdC]
          by_cases h4 : (cs.getD L.toNat z134).f4 = -1
          · have hlt := hon hx
            rw [if_pos h4, if_pos hpc, if_pos hlt, decide_eq_true h4, Bool.true_and]
            simp only [rdO]
            rfl
          · rw [if_neg h4, decide_eq_false h4, Bool.false_and]
        · rw [if_neg h2, decide_eq_false (show ¬ 0 ≤ L by omega), Bool.false_and]
    · rw [if_neg h1, decide_eq_false h1, Bool.false_and]
  generalize hR : (decide ((endP cs (j : Int) cs.length : Int) = x.f1) && (if x.f2 = true then decide (0 ≤ L) && (decide ((cs.getD L.toNat z134).f4 = -1) && opE (cs.getD L.toNat z134) (x.f0.getD x.f1.toNat z132)) else true)) = R at G
  have F := ev_idx (g := fun k i => spec_l9Thread.l0 k (j : Int) L ((endP cs (j : Int) i.toNat : Nat) : Int) i ws ds ts time cs ord held st x.f0 x.f1 x.f2 x.f3 x.f4) cs.length (fun i => if x.f2 = true then decide (isOpen cs (j : Int) i → (i : Int) = L) else decide (¬ isOpen cs (j : Int) i)) R (fun i hi => ?_) (by simp only [Int.toNat_natCast]; exact G)
  · refine ev_to F ?_
    rw [← hR]
    cases hx : x.f2 with
    | false =>
      simp only [Bool.false_eq_true, if_false, Bool.and_true]
      rw [all_open_off, Bool.and_comm]
    | true =>
      simp only [if_true]
      by_cases h0 : 0 ≤ L
      · by_cases h4 : (cs.getD L.toNat z134).f4 = -1
        · rw [hop1 h0 h4, decide_eq_true h0, decide_eq_true h4]
          simp only [Bool.true_and]
          cases decide (openP cs (j : Int) cs.length = 1) <;> simp
        · rw [decide_eq_false h4]; simp
      · rw [decide_eq_false h0]; simp
  · have e1 : wrap64 ((i : Int) + 1) = ((i + 1 : Nat) : Int) := by rw [wrap_in (by omega) (by omega)]; omega
    have b1 := endP_le cs (j : Int) i
    simp only [Int.toNat_natCast]
    by_cases ht : (cs.getD i z134).f0 = (j : Int)
    · by_cases h4 : 0 ≤ (cs.getD i z134).f4
      · have hn : ¬ isOpen cs (j : Int) i := fun h => h.2 h4
        have he : endP cs (j : Int) (i + 1) = endP cs (j : Int) i + 1 := by rw [endP]; exact if_pos ⟨ht, h4⟩
        constructor
        · intro _ r hr
          rw [he] at hr
          refine Ev.step (fun k => ?_) hr
          simp only [spec_l9Thread.l0, rd134]
          rw [if_pos (by omega), if_pos (by omega), if_pos ht, if_pos (by omega), e1, wrap_in (by omega) (by omega)]
          rfl
        · intro hq
          exfalso
          cases hx : x.f2 <;> rw [hx] at hq <;> simp [hn] at hq
      · have ho : isOpen cs (j : Int) i := ⟨ht, h4⟩
        have he : endP cs (j : Int) (i + 1) = endP cs (j : Int) i := by rw [endP]; exact if_neg (fun h => h4 h.2)
        cases hx : x.f2 with
        | false =>
          refine ⟨fun hq => by simp [ho] at hq, fun _ => ev_succ (fun k => ?_)⟩
          simp only [spec_l9Thread.l0, rd134]
          rw [if_pos (by omega), if_pos (by omega), if_pos ht, if_neg (by omega), if_neg (by simp)]
        | true =>
          by_cases hiL : (i : Int) = L
          · refine ⟨fun _ r hr => ?_, fun hq => by simp [hiL] at hq⟩
            rw [he] at hr
            refine Ev.step (fun k => ?_) hr
            simp only [spec_l9Thread.l0, rd134]
            rw [if_pos (by omega), if_pos (by omega), if_pos ht, if_neg (by omega), if_pos trivial, if_pos hiL, e1]
          · refine ⟨fun hq => by simp [ho, hiL] at hq, fun _ => ev_succ (fun k => ?_)⟩
            simp only [spec_l9Thread.l0, rd134]
            rw [if_pos (by omega), if_pos (by omega), if_pos ht, if_neg (by omega), if_pos trivial, if_neg hiL]
    · have hn : ¬ isOpen cs (j : Int) i := fun h => ht h.1
      have he : endP cs (j : Int) (i + 1) = endP cs (j : Int) i := by rw [endP]; exact if_neg (fun h => ht h.1)
      constructor
      · intro _ r hr
        rw [he] at hr
        refine Ev.step (fun k => ?_) hr
        simp only [spec_l9Thread.l0, rd134]
        rw [if_pos (by omega), if_pos (by omega), if_neg ht, e1]
      · intro hq
        exfalso
        cases hx : x.f2 <;> rw [hx] at hq <;> simp [hn] at hq
structure FitM (ws : List S39) (ds : List S52) (ts : List S82) (cs : List S134) (ord held : List Int) : Prop where
  w : ws.length ≤ 1048576
  d : ds.length ≤ 1048576
  di : fitM ds
  t : ts.length ≤ 1048576
  ti : ∀ x ∈ ts, fitBThread x
  c : cs.length ≤ 1048576
  o : ord.length ≤ 1048576
  h : held.length ≤ 1048576
def thrV (ts : List S82) (cs : List S134) (i : Nat) : Bool :=
  threadB (ts.getD i z82).f0 (ts.getD i z82).f1 (ts.getD i z82).f2 (ts.getD i z82).f3 (ts.getD i z82).f4 ts.length && callsB (ts.getD i z82) (i : Int) cs
def machB (ws : List S39) (ds : List S52) (ts : List S82) (time : Int) (cs : List S134) (ord held : List Int) (st : Int) : Bool :=
  memB ws ds && (decide (ds.length = ts.length) && (inB time 0 100000 && (rowsOkB held st && (decide (cs.length ≤ 40) && (cs.all (callB ts.length time) && ((List.range ts.length).all (thrV ts cs) && orderB cs ord))))))
theorem threadB_pc {ops : List S132} {pc : Int} {on : Bool} {got : List S145} {stack : List S42} {n : Int} (h : threadB ops pc on got stack n = true) : 0 ≤ pc ∧ (on = true → pc < (ops.length : Int)) := by
  unfold threadB at h
  simp only [Bool.and_eq_true] at h
  obtain ⟨⟨⟨⟨⟨_, h1⟩, h2⟩, _⟩, _⟩, _⟩ := h
  have h1' : 0 ≤ pc ∧ pc ≤ (ops.length : Int) := by simpa [inB] using h1
  refine ⟨h1'.1, fun ho => ?_⟩
  rw [ho] at h2
  simpa using h2
theorem ev_impl_threads {ws : List S39} {ds : List S52} {ts : List S82} {cs : List S134} {ord held : List Int} (F : FitM ws ds ts cs ord held) (time st : Int) :
    Ev (fun k => impl_MachineOk.l1 k (ts.length : Int) ts (ts.length : Int) 0 ws ds ts time cs ord held st) ((List.range ts.length).all (thrV ts cs) && orderB cs ord) := by
  refine ev_idx (g := fun k i => impl_MachineOk.l1 k (ts.length : Int) ts (ts.length : Int) i ws ds ts time cs ord held st) ts.length (thrV ts cs) _ (fun i hi => ?_) ?_
  · have e : rd_T82 ts (i : Int) = ts.getD i z82 := rfl
    have hfit := F.ti _ (List.getElem_mem hi)
    rw [← getD82 hi] at hfit
    have hT := ev_impl_ThreadOk (ts.getD i z82).f0 (ts.getD i z82).f1 (ts.getD i z82).f2 (ts.getD i z82).f3 (ts.getD i z82).f4 ts.length (by omega) (by have := F.t; omega) hfit.2.1 hfit.2.2
    have hC := fun h1 h2 => ev_impl_callsOk ws ds ts time cs ord held st i hi F.c h1 h2
    have ht := F.t
    have e1 : wrap64 ((i : Int) + 1) = ((i + 1 : Nat) : Int) := by rw [wrap_in (by omega) (by omega)]; omega
    have E : ∀ r, Ev (fun k => impl_MachineOk.l1 k (ts.length : Int) ts (ts.length : Int) ((i + 1 : Nat) : Int) ws ds ts time cs ord held st) r ∨ thrV ts cs i = false → Ev (fun k => impl_MachineOk.l1 k (ts.length : Int) ts (ts.length : Int) (i : Int) ws ds ts time cs ord held st) (if thrV ts cs i = true then r else false) := by
      intro r hr
      refine Ev.step (f := fun k => (impl_ThreadOk.f k (ts.getD i z82).f0 (ts.getD i z82).f1 (ts.getD i z82).f2 (ts.getD i z82).f3 (ts.getD i z82).f4 (ts.length : Int)).bind fun t => if t = true then (impl_callsOk.f k ws ds ts time cs ord held st (i : Int)).bind fun t => (if t = true then impl_MachineOk.l1 k (ts.length : Int) ts (ts.length : Int) ((i + 1 : Nat) : Int) ws ds ts time cs ord held st else some false) else some false) (fun k => ?_) (Ev.bind hT ?_)
      · simp only [impl_MachineOk.l1, e]
        rw [if_pos (by omega), if_pos (by omega), if_pos (by omega), e1]
      · unfold thrV at hr ⊢
        cases hB : threadB (ts.getD i z82).f0 (ts.getD i z82).f1 (ts.getD i z82).f2 (ts.getD i z82).f3 (ts.getD i z82).f4 ts.length with
        | false => exact ev_neg (by simp) (Ev.now _)
        | true =>
          have hp := threadB_pc hB
          refine ev_pos rfl (Ev.bind (hC hp.1 hp.2) ?_)
          cases hD : callsB (ts.getD i z82) (i : Int) cs with
          | false => exact ev_neg (by simp) (Ev.now _)
          | true =>
            refine ev_pos rfl ?_
            rw [hB, hD] at hr
            simpa using hr
    constructor
    · intro hq r hr
      exact ev_to (E r (.inl hr)) (by rw [if_pos hq])
    · intro hq
      exact ev_to (E false (.inr hq)) (by rw [hq]; simp)
  · refine Ev.step (f := fun k => (impl_orderOk.f k ws ds ts time cs ord held st).bind fun t => some t) (fun k => ?_) (Ev.bind (ev_impl_orderOk ws ds ts time cs ord held st F.c F.o) (Ev.now _))
    simp only [impl_MachineOk.l1]
    rw [if_neg (by omega)]
theorem ev_spec_threads {ws : List S39} {ds : List S52} {ts : List S82} {cs : List S134} {ord held : List Int} (F : FitM ws ds ts cs ord held) (time st : Int) :
    Ev (fun k => spec_MachineOk.l0 k 0 ws ds ts time cs ord held st) ((List.range ts.length).all (thrV ts cs)) := by
  refine ev_to (ev_idx (g := fun k i => spec_MachineOk.l0 k i ws ds ts time cs ord held st) ts.length (thrV ts cs) true (fun i hi => ?_) ?_) (by simp)
  · have e : rd_T82 ts (i : Int) = ts.getD i z82 := rfl
    have hfit := F.ti _ (List.getElem_mem hi)
    rw [← getD82 hi] at hfit
    have hT := ev_spec_ThreadOk (ts.getD i z82).f0 (ts.getD i z82).f1 (ts.getD i z82).f2 (ts.getD i z82).f3 (ts.getD i z82).f4 ts.length hfit.1 hfit.2.1 hfit.2.2
    have hC := fun h1 h2 => ev_spec_Thread ws ds ts time cs ord held st i hi F.c h1 h2
    have ht := F.t
    have e1 : wrap64 ((i : Int) + 1) = ((i + 1 : Nat) : Int) := by rw [wrap_in (by omega) (by omega)]; omega
    have E : ∀ r, Ev (fun k => spec_MachineOk.l0 k ((i + 1 : Nat) : Int) ws ds ts time cs ord held st) r ∨ thrV ts cs i = false → Ev (fun k => spec_MachineOk.l0 k (i : Int) ws ds ts time cs ord held st) (if thrV ts cs i = true then r else false) := by
      intro r hr
      refine Ev.step (f := fun k => (spec_ThreadOk.f k (ts.getD i z82).f0 (ts.getD i z82).f1 (ts.getD i z82).f2 (ts.getD i z82).f3 (ts.getD i z82).f4 (ts.length : Int)).bind fun t => if t = true then (spec_l9Thread.f k ws ds ts time cs ord held st (i : Int)).bind fun t => (if t = true then spec_MachineOk.l0 k ((i + 1 : Nat) : Int) ws ds ts time cs ord held st else some false) else some false) (fun k => ?_) (Ev.bind hT ?_)
      · simp only [spec_MachineOk.l0, e]
        rw [if_pos (by omega), if_pos (by omega), e1]
      · unfold thrV at hr ⊢
        cases hB : threadB (ts.getD i z82).f0 (ts.getD i z82).f1 (ts.getD i z82).f2 (ts.getD i z82).f3 (ts.getD i z82).f4 ts.length with
        | false => exact ev_neg (by simp) (Ev.now _)
        | true =>
          have hp := threadB_pc hB
          refine ev_pos rfl (Ev.bind (hC hp.1 hp.2) ?_)
          cases hD : callsB (ts.getD i z82) (i : Int) cs with
          | false => exact ev_neg (by simp) (Ev.now _)
          | true =>
            refine ev_pos rfl ?_
            rw [hB, hD] at hr
            simpa using hr
    constructor
    · intro hq r hr
      exact ev_to (E r (.inl hr)) (by rw [if_pos hq])
    · intro hq
      exact ev_to (E false (.inr hq)) (by rw [hq]; simp)
  · refine ev_succ (fun k => ?_)
    simp only [spec_MachineOk.l0]
    rw [if_neg (by omega)]
theorem ev_impl_MachineOk {ws : List S39} {ds : List S52} {ts : List S82} {cs : List S134} {ord held : List Int} (F : FitM ws ds ts cs ord held) (time st : Int) :
    Ev (fun k => impl_MachineOk.f k ws ds ts time cs ord held st) (machB ws ds ts time cs ord held st) := by
  have hT := ev_impl_threads F time st
  have ht := F.t
  have L0 : Ev (fun k => impl_MachineOk.l0 k (ts.length : Int) cs (cs.length : Int) 0 ws ds ts time cs ord held st) (cs.all (callB ts.length time) && ((List.range ts.length).all (thrV ts cs) && orderB cs ord)) := by
    refine ev_all (g := fun k i => impl_MachineOk.l0 k (ts.length : Int) cs (cs.length : Int) i ws ds ts time cs ord held st) cs z134 (callB ts.length time) _ (fun i hi => ?_) ?_
    · have hc := F.c
      have e : rd_T134 cs (i : Int) = cs.getD i z134 := rfl
      generalize cs.getD i z134 = x at e ⊢
      have hS := ev_impl_call_step time x
      have e1 : wrap64 ((i : Int) + 1) = ((i + 1 : Nat) : Int) := by rw [wrap_in (by omega) (by omega)]; omega
      have E : ∀ r, Ev (fun k => impl_MachineOk.l0 k (ts.length : Int) cs (cs.length : Int) ((i + 1 : Nat) : Int) ws ds ts time cs ord held st) r ∨ callB ts.length time x = false → Ev (fun k => impl_MachineOk.l0 k (ts.length : Int) cs (cs.length : Int) (i : Int) ws ds ts time cs ord held st) (if callB ts.length time x = true then r else false) := by
        intro r hr
        refine Ev.step (f := fun k => if inB x.f0 0 ((ts.length : Int) - 1) = true then (impl_OpOk.f k x.f1.f0 x.f1.f1 x.f1.f2).bind fun t => (if t = true then (if inB x.f2 0 time = true then (if (decide (x.f3 = -1) || inB x.f3 x.f2 time) = true then (if (decide (x.f4 = -1) || inB x.f4 x.f2 time) = true then impl_MachineOk.l0 k (ts.length : Int) cs (cs.length : Int) ((i + 1 : Nat) : Int) ws ds ts time cs ord held st else some false) else some false) else some false) else some false) else some false) (fun k => ?_) ?_
        · simp only [impl_MachineOk.l0, e, from_eq, hS.1, hS.2, Option.bind_some]
          rw [if_pos (by omega), if_pos (by omega), if_pos (by omega), e1, wrap_in (x := (ts.length : Int) - 1) (by omega) (by omega)]
        · unfold callB at hr ⊢
          cases h0 : inB x.f0 0 ((ts.length : Int) - 1) with
          | false => exact ev_neg (by simp) (Ev.now _)
          | true =>
            refine ev_pos rfl (Ev.bind (ev_impl_OpOk x.f1.f0 x.f1.f1 x.f1.f2) ?_)
            cases h1 : opOkB x.f1.f0 x.f1.f1 x.f1.f2 with
            | false => exact ev_neg (by simp) (Ev.now _)
            | true =>
              refine ev_pos rfl ?_
              cases h2 : inB x.f2 0 time with
              | false => exact ev_neg (by simp) (Ev.now _)
              | true =>
                refine ev_pos rfl ?_
                cases h3 : (decide (x.f3 = -1) || inB x.f3 x.f2 time) with
                | false => exact ev_neg (by simp) (Ev.now _)
                | true =>
                  refine ev_pos rfl ?_
                  cases h4 : (decide (x.f4 = -1) || inB x.f4 x.f2 time) with
                  | false => exact ev_neg (by simp) (Ev.now _)
                  | true =>
                    refine ev_pos rfl ?_
                    rw [h0, h1, h2, h3, h4] at hr
                    simpa using hr
      constructor
      · intro hq r hr
        exact ev_to (E r (.inl hr)) (by rw [if_pos hq])
      · intro hq
        exact ev_to (E false (.inr hq)) (by rw [hq]; simp)
    · refine Ev.step (fun k => ?_) hT
      simp only [impl_MachineOk.l0]
      rw [if_neg (by omega)]
  have J : ∀ b : Bool, Ev (fun k => impl_MachineOk.j0 k (ts.length : Int) b ws ds ts time cs ord held st) (!b && (cs.all (callB ts.length time) && ((List.range ts.length).all (thrV ts cs) && orderB cs ord))) := by
    intro b
    cases b with
    | true => exact ev_succ (fun k => by simp [impl_MachineOk.j0])
    | false => exact ev_to (Ev.step (fun k => by simp [impl_MachineOk.j0]) L0) (by simp)
  unfold impl_MachineOk.f machB
  simp only [from_eq, Option.bind_some]
  refine Ev.bind (ev_impl_MemOk ws ds F.w F.d F.di) ?_
  cases memB ws ds with
  | false => exact ev_neg (by simp) (ev_to (J true) (by simp))
  | true =>
    refine ev_pos rfl ?_
    by_cases h1 : ds.length = ts.length
    · refine ev_pos (by omega) ?_
      cases inB time 0 100000 with
      | false => exact ev_neg (by simp) (ev_to (J true) (by simp))
      | true =>
        refine ev_pos rfl ?_
        by_cases h40 : cs.length ≤ 40
        · refine ev_neg (by omega) (Ev.bind (ev_impl_RowsOk held st F.h) (ev_to (J _) ?_))
          rw [decide_eq_true h1, decide_eq_true h40]
          simp
        · refine ev_pos (by omega) (ev_to (J true) ?_)
          rw [decide_eq_false h40]
          simp
    · refine ev_neg (by omega) (ev_to (J true) ?_)
      rw [decide_eq_false h1]
      simp
theorem ev_spec_MachineOk {ws : List S39} {ds : List S52} {ts : List S82} {cs : List S134} {ord held : List Int} (F : FitM ws ds ts cs ord held) (time st : Int) :
    Ev (fun k => spec_MachineOk.f k ws ds ts time cs ord held st) (machB ws ds ts time cs ord held st) := by
  have hT := ev_spec_threads F time st
  have J : ∀ b : Bool, Ev (fun k => spec_MachineOk.j0 k b ws ds ts time cs ord held st) (!b && (List.range ts.length).all (thrV ts cs)) := by
    intro b
    cases b with
    | true => exact ev_succ (fun k => by simp [spec_MachineOk.j0])
    | false => exact ev_to (Ev.step (fun k => by simp [spec_MachineOk.j0]) hT) (by simp)
  unfold spec_MachineOk.f machB
  simp only [l1In_eq, Option.bind_some]
  refine Ev.bind (ev_spec_MemOk ws ds F.w F.d F.di) ?_
  cases memB ws ds with
  | false => exact ev_neg (by simp) (ev_to (J true) (by simp))
  | true =>
    refine ev_pos rfl ?_
    by_cases h1 : ds.length = ts.length
    · refine ev_pos (by omega) ?_
      cases inB time 0 100000 with
      | false => exact ev_neg (by simp) (ev_to (J true) (by simp))
      | true =>
        refine ev_pos rfl (Ev.bind (ev_spec_RowsOk held st F.h) ?_)
        cases rowsOkB held st with
        | false => exact ev_neg (by simp) (ev_to (J true) (by simp))
        | true =>
          refine ev_pos rfl (Ev.bind (ev_spec_Calls ws ds ts time cs ord held st F.t F.c F.o) (ev_to (J _) ?_))
          rw [decide_eq_true h1]
          generalize cs.all (callB ts.length time) = a
          generalize decide (cs.length ≤ 40) = b
          generalize orderB cs ord = c
          generalize (List.range ts.length).all (thrV ts cs) = d
          cases a <;> cases b <;> cases c <;> cases d <;> rfl
    · refine ev_neg (by omega) (ev_to (J true) ?_)
      rw [decide_eq_false h1]
      simp
end Go.Proofs.YtopikhjcbcpiaaaGreat.Q
end
section
/- The law's helpers for machines: sizes, copies, comparisons. -/
namespace Go.Proofs.YtopikhjcbcpiaaaGreat.Q
open Go.RowKit Go.Proofs.YtopikhjcbcpiaaaGreatW.PrintWords Go.Proofs.YtopikhjcbcpiaaaGreatX

theorem sz_then {g : Nat → Option Int} {f : Nat → Int → Option Int} {P Q : Int → Prop} (h : ∃ r, Ev g r ∧ (r < 0 ∨ P r)) (hf : ∀ r, P r → ¬ r < 0 ∧ ∃ q, Ev (fun k => f k r) q ∧ (q < 0 ∨ Q q)) :
    ∃ q, Ev (fun k => (g k).bind fun t => if t < 0 then some (-1) else f k t) q ∧ (q < 0 ∨ Q q) := by
  obtain ⟨r, hr, hc⟩ := h
  by_cases hn : r < 0
  · exact ⟨-1, Ev.bind hr (ev_pos hn (Ev.now _)), .inl (by omega)⟩
  · obtain ⟨hn', q, hq, hc'⟩ := hf r (hc.resolve_left hn)
    exact ⟨q, Ev.bind hr (ev_neg hn hq), hc'⟩
theorem szWordS_ok (l : List S207) (a : Int) (h0 : 0 ≤ a) (h1 : a ≤ 1048576) (hl : l.length ≤ 9223372036854775807) : ∃ r, Ev (fun _ => laws_szWordS.f l a) r ∧ (r < 0 ∨ (0 ≤ r ∧ r ≤ 1048576 ∧ l.length ≤ 1048576)) := by
  refine ⟨_, ev_of (fun _ => szWordS l a h0 h1 hl), ?_⟩
  by_cases h : a < l.length
  · rw [if_pos h]; exact .inl (by omega)
  · rw [if_neg h]; exact .inr (by omega)
theorem szIntS_ok (l : List Int) (a : Int) (h0 : 0 ≤ a) (h1 : a ≤ 1048576) (hl : l.length ≤ 9223372036854775807) : ∃ r, Ev (fun _ => laws_szIntS.f l a) r ∧ (r < 0 ∨ (0 ≤ r ∧ r ≤ 1048576 ∧ l.length ≤ 1048576)) := by
  refine ⟨_, ev_of (fun _ => szIntS l a h0 h1 hl), ?_⟩
  by_cases h : a < l.length
  · rw [if_pos h]; exact .inl (by omega)
  · rw [if_neg h]; exact .inr (by omega)
structure FitA (x : S68) : Prop where
  w : x.f0.f0.length ≤ 1048576
  d : x.f0.f1.length ≤ 1048576
  di : ∀ y ∈ x.f0.f1, fitADesc y
  t : x.f1.length ≤ 1048576
  ti : ∀ y ∈ x.f1, fitAThread y
  c : x.f3.length ≤ 1048576
  ci : ∀ y ∈ x.f3, fitACall y
  o : x.f4.length ≤ 1048576
  h : x.f5.f0.length ≤ 1048576
theorem szMachine_ok (x : S68) (ok : ok68 x) : ∃ r, Ev (fun k => laws_szMachine.f k x.f0.f0 x.f0.f1 x.f1 x.f2 x.f3 x.f4 x.f5.f0 x.f5.f1 1048576) r ∧ (r < 0 ∨ FitA x) := by
  obtain ⟨⟨⟨ow, _⟩, od, odi⟩, ⟨ot, oti⟩, _, ⟨oc, oci⟩, ⟨oo, _⟩, ⟨oh, _⟩, _⟩ := ok
  have hmem : ∃ r, Ev (fun k => laws_szMem.f k x.f0.f0 x.f0.f1 1048576) r ∧ (r < 0 ∨ (0 ≤ r ∧ r ≤ 1048576 ∧ x.f0.f0.length ≤ 1048576 ∧ x.f0.f1.length ≤ 1048576 ∧ ∀ y ∈ x.f0.f1, fitADesc y)) := by
    unfold laws_szMem.f
    refine sz_then (szWordS_ok _ _ (by omega) (by omega) ow) (fun r hr => ⟨by omega, ?_⟩)
    refine sz_then (P := fun q => 0 ≤ q ∧ q ≤ r ∧ x.f0.f1.length ≤ 1048576 ∧ ∀ y ∈ x.f0.f1, fitADesc y) (szDescS_ok _ _ hr.1 hr.2.1 od (fun y hy => ⟨(odi y hy).2.2.1.1, (odi y hy).2.2.2.2.1⟩)) (fun q hq => ⟨by omega, q, Ev.now _, .inr ⟨hq.1, by omega, hr.2.2, hq.2.2.1, hq.2.2.2⟩⟩)
  unfold laws_szMachine.f
  refine sz_then hmem (fun r hr => ⟨by omega, ?_⟩)
  refine sz_then (szThreadS_ok x.f1 r hr.1 hr.2.1 ot (fun y hy => ⟨(oti y hy).1.1, (oti y hy).2.2.2.1.1, (oti y hy).2.2.2.2.1⟩)) (fun r2 hr2 => ⟨by omega, ?_⟩)
  refine sz_then (szCallS_ok x.f3 r2 hr2.1 (by omega) oc (fun y hy => (oci y hy).2.2.2.2.2.2.1)) (fun r3 hr3 => ⟨by omega, ?_⟩)
  refine sz_then (szIntS_ok x.f4 r3 hr3.1 (by omega) oo) (fun r4 hr4 => ⟨by omega, ?_⟩)
  have hrows : ∃ r, Ev (fun _ => laws_szRows.f x.f5.f0 x.f5.f1 r4) r ∧ (r < 0 ∨ (0 ≤ r ∧ r ≤ 1048576 ∧ x.f5.f0.length ≤ 1048576)) := by
    unfold laws_szRows.f
    exact sz_then (szIntS_ok x.f5.f0 r4 hr4.1 hr4.2.1 oh) (fun q hq => ⟨by omega, q, Ev.now _, .inr hq⟩)
  exact sz_then hrows (fun r5 hr5 => ⟨by omega, r5, Ev.now _, .inr ⟨hr.2.2.1, hr.2.2.2.1, hr.2.2.2.2, hr2.2.2.1, hr2.2.2.2, hr3.2.2.1, hr3.2.2.2, hr4.2.2, hr5.2.2⟩⟩)
theorem ev_toMachine (x : S68) (F : FitA x) : Ev (fun k => laws_toMachine.f k x.f0.f0 x.f0.f1 x.f1 x.f2 x.f3 x.f4 x.f5.f0 x.f5.f1) (x.f0.f0.map cvWord, x.f0.f1.map cvDesc, x.f1.map cvThread, x.f2, x.f3.map cvCall, x.f4, x.f5.f0, x.f5.f1) := by
  have hm : Ev (fun k => laws_toMem.f k x.f0.f0 x.f0.f1) (x.f0.f0.map cvWord, x.f0.f1.map cvDesc) := by
    unfold laws_toMem.f
    exact Ev.bind (ev_toWordS _ F.w) (Ev.bind (ev_toDescS _ F.d F.di) (Ev.now _))
  have hr : Ev (fun k => laws_toRows.f k x.f5.f0 x.f5.f1) (x.f5.f0, x.f5.f1) := by
    unfold laws_toRows.f
    exact Ev.bind (ev_toIntS _ F.h) (Ev.now _)
  unfold laws_toMachine.f
  exact Ev.bind hm (Ev.bind (ev_toThreadS _ F.t F.ti) (Ev.bind (ev_toCallS _ F.c F.ci) (Ev.bind (ev_toIntS _ F.o) (Ev.bind hr (Ev.now _)))))
theorem fit_machine (x : S68) (F : FitA x) : FitM (x.f0.f0.map cvWord) (x.f0.f1.map cvDesc) (x.f1.map cvThread) (x.f3.map cvCall) x.f4 x.f5.f0 where
  w := by simpa using F.w
  d := by simpa using F.d
  di := by
    intro y hy
    obtain ⟨z, hz, rfl⟩ := List.mem_map.1 hy
    exact (fit_cvDesc z (F.di z hz)).1
  t := by simpa using F.t
  ti := by
    intro y hy
    obtain ⟨z, hz, rfl⟩ := List.mem_map.1 hy
    exact fit_cvThread z (F.ti z hz)
  c := by simpa using F.c
  o := F.o
  h := F.h
theorem ev_eqMachine (x : S68) (F : FitA x) (time st : Int) : Ev (fun k => laws_eqMachine.f k (x.f0.f0.map cvWord) (x.f0.f1.map cvDesc) (x.f1.map cvThread) time (x.f3.map cvCall) x.f4 x.f5.f0 st (x.f0.f0.map cvWord) (x.f0.f1.map cvDesc) (x.f1.map cvThread) time (x.f3.map cvCall) x.f4 x.f5.f0 st) true := by
  have hm : Ev (fun k => laws_eqMem.f k (x.f0.f0.map cvWord) (x.f0.f1.map cvDesc) (x.f0.f0.map cvWord) (x.f0.f1.map cvDesc)) true := by
    unfold laws_eqMem.f
    refine Ev.bind (ev_eqWordS _ (by simpa using F.w)) (ev_pos rfl (Ev.bind (ev_eqDescS _ (by simpa using F.d) (fun y hy => ?_)) (ev_pos rfl (Ev.now _))))
    obtain ⟨z, hz, rfl⟩ := List.mem_map.1 hy
    exact fit_cvDesc z (F.di z hz)
  have ht : Ev (fun k => laws_eqThreadS.f k (x.f1.map cvThread) (x.f1.map cvThread)) true := by
    refine ev_eqThreadS _ (by simpa using F.t) (fun y hy => ?_)
    obtain ⟨z, hz, rfl⟩ := List.mem_map.1 hy
    exact fit_cvThread z (F.ti z hz)
  have hc : Ev (fun k => laws_eqCallS.f k (x.f3.map cvCall) (x.f3.map cvCall)) true := by
    refine ev_eqCallS _ (by simpa using F.c) (fun y hy => ?_)
    obtain ⟨z, hz, rfl⟩ := List.mem_map.1 hy
    exact fit_cvCall z (F.ci z hz)
  have hr : Ev (fun k => laws_eqRows.f k x.f5.f0 st x.f5.f0 st) true := by
    unfold laws_eqRows.f
    exact Ev.bind (ev_eqIntS _ F.h) (ev_pos rfl (ev_pos rfl (Ev.now _)))
  unfold laws_eqMachine.f
  exact Ev.bind hm (ev_pos rfl (Ev.bind ht (ev_pos rfl (ev_pos rfl (Ev.bind hc (ev_pos rfl (Ev.bind (ev_eqIntS _ F.o) (ev_pos rfl (Ev.bind hr (ev_pos rfl (Ev.now _)))))))))))
end Go.Proofs.YtopikhjcbcpiaaaGreat.Q
end
section
/- The plain part of the law about MachineOk: both sides answer the same, and the machine is as it was. -/
namespace Go.Proofs.YtopikhjcbcpiaaaGreat.Pure
open Go.RowKit Go.Proofs.YtopikhjcbcpiaaaGreat.Q Go.Proofs.YtopikhjcbcpiaaaGreatW.PrintWords Go.Proofs.YtopikhjcbcpiaaaGreatX
theorem FnExactMachineOk : laws_FnExactMachineOk.Pure := by
  intro x ok
  suffices h : Ev (fun k => laws_FnExactMachineOk.f k x.f0.f0 x.f0.f1 x.f1 x.f2 x.f3 x.f4 x.f5.f0 x.f5.f1) true by
    obtain ⟨n, hn⟩ := h
    exact ⟨n, hn n (Nat.le_refl _)⟩
  obtain ⟨r, hr, hc⟩ := szMachine_ok x ok
  unfold laws_FnExactMachineOk.f
  refine Ev.bind hr ?_
  by_cases hn : r < 0
  · exact ev_pos hn (Ev.now _)
  · have F := hc.resolve_left hn
    have M := fit_machine x F
    have T := ev_toMachine x F
    refine ev_neg hn (Ev.bind T (Ev.bind (ev_spec_MachineOk M x.f2 x.f5.f1) (Ev.bind T (Ev.bind (ev_impl_MachineOk M x.f2 x.f5.f1) (ev_neg (by simp) (Ev.bind T (Ev.bind (ev_eqMachine x F x.f2 x.f5.f1) (ev_pos rfl (Ev.now _)))))))))
end Go.Proofs.YtopikhjcbcpiaaaGreat.Pure
end
