/- Part 9 of the steps by which the law is shown: what each function of the program, of the reference and of the law computes. No condition. -/
import Derived.Test.YtopikhjcbcpiaaaGreatFin0
import Derived.Test.YtopikhjcbcpiaaaGreatFin1
import Derived.Test.YtopikhjcbcpiaaaGreatFin2
import Derived.Test.YtopikhjcbcpiaaaGreatFin3
import Derived.Test.YtopikhjcbcpiaaaGreatFin4
import Derived.Test.YtopikhjcbcpiaaaGreatFin5
import Derived.Test.YtopikhjcbcpiaaaGreatFin6
import Derived.Test.YtopikhjcbcpiaaaGreatFin7
import Derived.Test.YtopikhjcbcpiaaaGreatFin8
namespace Go.Proofs.YtopikhjcbcpiaaaGreat.Q
open Go.RowKit Go.Proofs.YtopikhjcbcpiaaaGreatW.PrintWords Go.Proofs.YtopikhjcbcpiaaaGreatW.PrintLast Go.Proofs.YtopikhjcbcpiaaaGreatW.PrintMore
attribute [local go_sem] max2_int min2_int max_two min_two max_three min_three max_four min_four   -- for this text's walks alone
set_option linter.unusedVariables false
set_option linter.unusedSimpArgs false
def laws_szMem.f (k : Nat) (l0_0 : List (S207)) (l0_1 : List (S201)) (a1 : Int) : Option (Int) := (laws_szWordS.f l0_0 a1).bind fun t109 => (if t109 < 0 then (some (-1)) else ((laws_szDescS.f k l0_1 t109).bind fun t110 => (if t110 < 0 then (some (-1)) else (some t110))))
set_option maxHeartbeats 8000000 in
set_option maxRecDepth 100000 in
theorem laws_szMem.calls (k : Nat) (A0_0 : Option Addr) (c0_0 : Nat) (l0_0 : List (S207)) (A0_1 : Option Addr) (c0_1 : Nat) (l0_1 : List (S201)) (a1 : Int) (r : Int) (w : World) (hr0_0 : Kd.C k207 w A0_0 l0_0.length l0_0) (hc0_0 : l0_0.length ≤ c0_0) (hr0_1 : Kd.C k201 w A0_1 l0_1.length l0_1) (hc0_1 : l0_1.length ≤ c0_1) (h : laws_szMem.f k l0_0 l0_1 a1 = some r) :
  Calls Tryz.prog 80 #[.agg #[.slice A0_0 l0_0.length c0_0, .slice A0_1 l0_1.length c0_1], .int .i64 a1] w fun e w' => e = .returned (.int .i64 r) ∧ Below w.heap.size w w' := by
 have hu62 := Tryz.underlying62
 have HR0_0 := Aside0.mk hr0_0
 have HC0_0 := Aside0.mk hc0_0
 clear hr0_0 hc0_0
 have HR0_1 := Aside0.mk hr0_1
 have HC0_1 := Aside0.mk hc0_1
 clear hr0_1 hc0_1
 have HB := Aside0.mk (Below.refl w.heap.size w)
 have H := h
 clear h
 unfold laws_szMem.f at H
 obtain ⟨t109, A3, H⟩ := bn H
 try dsimp only at H
 revert H; refine icd (fun c4b0 H => ?pos) fun c4b0 H => ?_
 case pos =>
  obtain rfl := oin H
  go_enter Tryz.func80, Tryz.ntmps80
  go_wp2_with (first | ((with_reducible refine gq 2 rfl ?_); refine bx0 HB (N := 2) (t := 62) ?_; clear HB; intro gb108 w5 BK108 GE108 HB; have hz6 := cs2_ BK108) | ((with_reducible refine gf 135 rfl ?_); refine gL 8 Tryz.func135 #[.slice A0_0 l0_0.length c0_0, .int .i64 a1] ?_; (with_reducible refine (laws_szWordS.calls _ _ l0_0 a1 t109 _ (kc HR0_0 HB) HC0_0.out A3.out).mono ?_); rintro e w' ⟨rfl, ⟨nd, rfl⟩⟩; refine ⟨_, rfl, ?_⟩))
  go_ret
  exact ⟨er, tb HB⟩
 obtain ⟨t110, A7, H⟩ := bn H
 try dsimp only at H
 revert H; refine icd (fun c8b0 H => ?pos) fun c8b0 H => ?_
 case pos =>
  obtain rfl := oin H
  go_enter Tryz.func80, Tryz.ntmps80
  go_wp2_with (first | ((with_reducible refine gq 2 rfl ?_); refine bx0 HB (N := 2) (t := 62) ?_; clear HB; intro gb108 w9 BK108 GE108 HB; have hz10 := cs2_ BK108) | ((with_reducible refine gf 135 rfl ?_); refine gL 8 Tryz.func135 #[.slice A0_0 l0_0.length c0_0, .int .i64 a1] ?_; (with_reducible refine (laws_szWordS.calls _ _ l0_0 a1 t109 _ (kc HR0_0 HB) HC0_0.out A3.out).mono ?_); rintro e w' ⟨rfl, ⟨nd, rfl⟩⟩; refine ⟨_, rfl, ?_⟩) | ((with_reducible refine gf 136 rfl ?_); refine gL 14 Tryz.func136 #[.slice A0_1 l0_1.length c0_1, .int .i64 t109] ?_; (with_reducible refine (laws_szDescS.calls k _ _ l0_1 t109 t110 _ ?side1 HC0_1.out A7.out).mono ?_); (case side1 => repeat (first | exact (Kd.C_below HR0_1.out (tb HB)) | (with_reducible refine Kd.C_alloc ?_ _) | (with_reducible refine Kd.C_drewN ?_ _) | (with_reducible refine Kd.C_drew ?_))); rintro e w11 ⟨rfl, hb⟩; refine ⟨_, rfl, ?_⟩; replace BK108 := bb BK108 hb; replace HB := bs HB hb; (try clear hb)))
  go_ret
  exact ⟨er, tb HB⟩
 obtain rfl := oin H
 go_enter Tryz.func80, Tryz.ntmps80
 go_wp2_with (first | ((with_reducible refine gq 2 rfl ?_); refine bx0 HB (N := 2) (t := 62) ?_; clear HB; intro gb108 w12 BK108 GE108 HB; have hz13 := cs2_ BK108) | ((with_reducible refine gf 135 rfl ?_); refine gL 8 Tryz.func135 #[.slice A0_0 l0_0.length c0_0, .int .i64 a1] ?_; (with_reducible refine (laws_szWordS.calls _ _ l0_0 a1 t109 _ (kc HR0_0 HB) HC0_0.out A3.out).mono ?_); rintro e w' ⟨rfl, ⟨nd, rfl⟩⟩; refine ⟨_, rfl, ?_⟩) | ((with_reducible refine gf 136 rfl ?_); refine gL 14 Tryz.func136 #[.slice A0_1 l0_1.length c0_1, .int .i64 t109] ?_; (with_reducible refine (laws_szDescS.calls k _ _ l0_1 t109 t110 _ ?side1 HC0_1.out A7.out).mono ?_); (case side1 => repeat (first | exact (Kd.C_below HR0_1.out (tb HB)) | (with_reducible refine Kd.C_alloc ?_ _) | (with_reducible refine Kd.C_drewN ?_ _) | (with_reducible refine Kd.C_drew ?_))); rintro e w14 ⟨rfl, hb⟩; refine ⟨_, rfl, ?_⟩; replace BK108 := bb BK108 hb; replace HB := bs HB hb; (try clear hb)))
 go_ret
 exact ⟨er, tb HB⟩
def laws_toMem.f (k : Nat) (l0_0 : List (S207)) (l0_1 : List (S201)) : Option ((List (S39)) × (List (S52))) := (laws_toWordS.f k l0_0).bind fun t291 => ((laws_toDescS.f k l0_1).bind fun t294 => (some (t291, t294)))
set_option maxHeartbeats 8000000 in
set_option maxRecDepth 100000 in
theorem laws_toMem.calls (k : Nat) (A0_0 : Option Addr) (c0_0 : Nat) (l0_0 : List (S207)) (A0_1 : Option Addr) (c0_1 : Nat) (l0_1 : List (S201)) (r1 : List (S39)) (r2 : List (S52)) (w : World) (hr0_0 : Kd.C k207 w A0_0 l0_0.length l0_0) (hc0_0 : l0_0.length ≤ c0_0) (hr0_1 : Kd.C k201 w A0_1 l0_1.length l0_1) (hc0_1 : l0_1.length ≤ c0_1) (h : laws_toMem.f k l0_0 l0_1 = some (r1, r2)) :
  Calls Tryz.prog 88 #[.agg #[.slice A0_0 l0_0.length c0_0, .slice A0_1 l0_1.length c0_1]] w fun e w' => ∃ v0_ v1_ : Value, e = .returned (.agg #[v0_, v1_]) ∧ Kd.R k39 39 w' w.heap.size (fun _ => True) v0_ r1 ∧ Kd.S k52 52 w' w.heap.size (fun _ => True) v1_ r2 ∧ Below w.heap.size w w' := by
 have hu62 := Tryz.underlying62
 have hu27 := Tryz.underlying27
 have HR0_0 := Aside0.mk hr0_0
 have HC0_0 := Aside0.mk hc0_0
 clear hr0_0 hc0_0
 have HR0_1 := Aside0.mk hr0_1
 have HC0_1 := Aside0.mk hc0_1
 clear hr0_1 hc0_1
 have HB := Aside0.mk (Below.refl w.heap.size w)
 have H := h
 clear h
 unfold laws_toMem.f at H
 obtain ⟨t291, A2, H⟩ := bn H
 try dsimp only at H
 obtain ⟨t294, A3, H⟩ := bn H
 try dsimp only at H
 simp only [Option.some.injEq, Prod.mk.injEq] at H
 obtain ⟨rfl, rfl⟩ := H
 go_enter Tryz.func88, Tryz.ntmps88
 go_wp2_with (first | ((with_reducible refine gq 1 rfl ?_); refine bx0 HB (N := 1) (t := 62) ?_; clear HB; intro gb288 w4 BK288 GE288 HB) | ((with_reducible refine gq 2 rfl ?_); refine bx1 HB BK288 (N := 2) (cs := #[.slice none 0 0, .slice none 0 0]) (t := 27) ?_; clear HB BK288; intro gb289 w5 BK289 GE289 HB NB288_289 NB289_288 BK288) | ((with_reducible refine gq 3 rfl ?_); refine bx2 HB BK288 BK289 (N := 3) (cs := #[.slice none 0 0, .slice none 0 0]) (t := 27) ?_; clear HB BK288 BK289; intro gb290 w6 BK290 GE290 HB NB288_290 NB290_288 BK288 NB289_290 NB290_289 BK289; have hnb7 := NB288_289.out; have hnc7 := NB289_288.out; have hnb8 := NB288_290.out; have hnc8 := NB290_288.out; have hz9 := cs2_ BK288) | ((with_reducible refine gf 144 rfl ?_); refine gL 6 Tryz.func144 #[.slice A0_0 l0_0.length c0_0] ?_; (with_reducible refine (laws_toWordS.calls k _ _ l0_0 t291 _ (kc HR0_0 HB) HC0_0.out A2.out).mono ?_); rintro e w10 ⟨v292, rfl, ho0, hb⟩; refine ⟨_, rfl, ?_⟩; have HO293 := Aside0.mk (Kd.R_lower ho0 (below_size (tb HB))); replace BK288 := bb BK288 hb; replace BK289 := bb BK289 hb; replace BK290 := bb BK290 hb; replace HB := bs HB hb; (try clear hb); (try clear ho0); obtain ⟨Ao11, co11, eo11⟩ := Kd.R_slice HO293.out; subst eo11; have hnb12 := NB290_289.out; have hnc12 := NB289_290.out; have hz13 := cs2_ BK290; have hz14 := cs2_ BK288) | ((with_reducible refine gf 145 rfl ?_); refine gL 10 Tryz.func145 #[.slice A0_1 l0_1.length c0_1] ?_; (with_reducible refine (laws_toDescS.calls k _ _ l0_1 t294 _ ?side1 HC0_1.out A3.out).mono ?_); (case side1 => exact Kd.C_below HR0_1.out (tb HB)); rintro e w15 ⟨v295, rfl, ho0, hb⟩; refine ⟨_, rfl, ?_⟩; replace HO293 := Aside0.mk (Kd.R_below (kr ((Kd.R_mono (Kd.R_far (p := ⟨gb290, 0, none⟩) (Kd.R_types HO293.out BK290.out (by decide)) (fun _ hk => hk.2) (.slice Ao11 t291.length co11)) (fun _ h_ => h_.1)))) hb); have HO296 := Aside0.mk (Kd.S_lower ho0 (below_size (tb HB))); replace BK288 := bbf BK288 hb; replace BK289 := bbf BK289 hb; replace BK290 := Aside0.mk (blk_below (g := gb290) (o := .cells #[.slice Ao11 t291.length co11, .slice none 0 0] 27 (0, 0)) (by (with_reducible repeat (first | refine blk_drewN ?_ _ | refine blk_drew ?_ | refine blk_alloc ?_ _)); refine blk_put (cs := #[.slice none 0 0, .slice none 0 0]) ?_ 0 _ rfl; (with_reducible repeat (first | refine blk_drewN ?_ _ | refine blk_drew ?_ | refine blk_alloc ?_ _)); exact BK290.out) hb); replace HB := bs HB hb; (try clear hb); (try clear hk); (try clear ho0); obtain ⟨Ao16, co16, eo16⟩ := Kd.S_slice HO296.out; subst eo16; have hz17 := cs2_ BK290; have hz18 := cs2_ BK289))
 refine bodyPost_ret (results_cell_row rfl _ _ gb289 27 #[.slice Ao11 t291.length co11, .slice Ao16 t294.length co16] (0, 0) _ rfl (bfp2 BK289) Tryz.underlying27 rfl (by kernel_rfl)) rfl ?_
 exact ⟨_, _, er, by (with_reducible repeat (first | apply Kd.R_alloc | apply Kd.R_drewN | apply Kd.R_drew)); exact Kd.R_mono (Kd.R_far (p := ⟨gb289, 1, none⟩) (Kd.R_far (p := ⟨gb289, 0, none⟩) (Kd.R_far (p := ⟨gb290, 1, none⟩) (Kd.R_types (Kd.R_types HO293.out BK290.out (by decide)) BK289.out (by decide)) (fun _ hk => hk.1.2) (.slice Ao16 t294.length co16)) (fun _ hk => hk.2) (.slice Ao11 t291.length co11)) (fun _ hk => hk.2) (.slice Ao16 t294.length co16)) (fun _ hk => trivial), by (with_reducible repeat (first | apply Kd.S_alloc | apply Kd.S_drewN | apply Kd.S_drew)); exact Kd.S_mono (Kd.S_far (p := ⟨gb289, 1, none⟩) (Kd.S_far (p := ⟨gb289, 0, none⟩) (Kd.S_far (p := ⟨gb290, 1, none⟩) (Kd.S_types (Kd.S_types HO296.out BK290.out (by decide)) BK289.out (by decide)) (fun _ hk => hk.1.2) (.slice Ao16 t294.length co16)) (fun _ hk => hk.2) (.slice Ao11 t291.length co11)) (fun _ hk => hk.2) (.slice Ao16 t294.length co16)) (fun _ hk => trivial), tb HB⟩
def laws_eqMem.f (k : Nat) (l0_0 : List (S39)) (l0_1 : List (S52)) (l1_0 : List (S39)) (l1_1 : List (S52)) : Option (Bool) := (laws_eqWordS.f k l0_0 l1_0).bind fun t533 => (if t533 = true then ((laws_eqDescS.f k l0_1 l1_1).bind fun t534 => (if t534 = true then (some true) else (some false))) else (some false))
set_option maxHeartbeats 8000000 in
set_option maxRecDepth 100000 in
theorem laws_eqMem.calls (k : Nat) (A0_0 : Option Addr) (c0_0 : Nat) (l0_0 : List (S39)) (A0_1 : Option Addr) (c0_1 : Nat) (l0_1 : List (S52)) (A1_0 : Option Addr) (c1_0 : Nat) (l1_0 : List (S39)) (A1_1 : Option Addr) (c1_1 : Nat) (l1_1 : List (S52)) (r : Bool) (w : World) (hr0_0 : Kd.C k39 w A0_0 l0_0.length l0_0) (hc0_0 : l0_0.length ≤ c0_0) (hr0_1 : Kd.C k52 w A0_1 l0_1.length l0_1) (hc0_1 : l0_1.length ≤ c0_1) (hr1_0 : Kd.C k39 w A1_0 l1_0.length l1_0) (hc1_0 : l1_0.length ≤ c1_0) (hr1_1 : Kd.C k52 w A1_1 l1_1.length l1_1) (hc1_1 : l1_1.length ≤ c1_1) (h : laws_eqMem.f k l0_0 l0_1 l1_0 l1_1 = some r) :
  Calls Tryz.prog 98 #[.agg #[.slice A0_0 l0_0.length c0_0, .slice A0_1 l0_1.length c0_1], .agg #[.slice A1_0 l1_0.length c1_0, .slice A1_1 l1_1.length c1_1]] w fun e w' => e = .returned (.bool r) ∧ Below w.heap.size w w' := by
 have hu27 := Tryz.underlying27
 have HR0_0 := Aside0.mk hr0_0
 have HC0_0 := Aside0.mk hc0_0
 clear hr0_0 hc0_0
 have HR0_1 := Aside0.mk hr0_1
 have HC0_1 := Aside0.mk hc0_1
 clear hr0_1 hc0_1
 have HR1_0 := Aside0.mk hr1_0
 have HC1_0 := Aside0.mk hc1_0
 clear hr1_0 hc1_0
 have HR1_1 := Aside0.mk hr1_1
 have HC1_1 := Aside0.mk hc1_1
 clear hr1_1 hc1_1
 have HB := Aside0.mk (Below.refl w.heap.size w)
 have H := h
 clear h
 unfold laws_eqMem.f at H
 obtain ⟨t533, A3, H⟩ := bn H
 try dsimp only at H
 cases t533
 case false =>
  replace H := ipf H
  obtain rfl := oin H
  go_enter Tryz.func98, Tryz.ntmps98
  go_wp2_with (first | ((with_reducible refine gq 2 rfl ?_); refine bx0 HB (N := 2) (t := 27) ?_; clear HB; intro gb531 w25 BK531 GE531 HB) | ((with_reducible refine gq 3 rfl ?_); refine bx1 HB BK531 (N := 3) (t := 27) ?_; clear HB BK531; intro gb532 w26 BK532 GE532 HB NB531_532 NB532_531 BK531; have hnb27 := NB531_532.out; have hnc27 := NB532_531.out; have hz28 := cs2_ BK531; have hz29 := cs2_ BK532) | ((with_reducible refine gf 152 rfl ?_); refine gL 9 Tryz.func152 #[.slice A0_0 l0_0.length c0_0, .slice A1_0 l1_0.length c1_0] ?_; (with_reducible refine (laws_eqWordS.calls k _ _ l0_0 _ _ l1_0 false _ (kc HR0_0 HB) HC0_0.out (kc HR1_0 HB) HC1_0.out A3.out).mono ?_); rintro e w30 ⟨rfl, hb⟩; refine ⟨_, rfl, ?_⟩; replace BK531 := bb BK531 hb; replace BK532 := bb BK532 hb; replace HB := bs HB hb; (try clear hb)))
  go_ret
  exact ⟨er, tb HB⟩
 replace H := ipt H
 obtain ⟨t534, A5, H⟩ := bn H
 try dsimp only at H
 cases t534
 case true =>
  replace H := ipt H
  obtain rfl := oin H
  go_enter Tryz.func98, Tryz.ntmps98
  go_wp2_with (first | ((with_reducible refine gq 2 rfl ?_); refine bx0 HB (N := 2) (t := 27) ?_; clear HB; intro gb531 w7 BK531 GE531 HB) | ((with_reducible refine gq 3 rfl ?_); refine bx1 HB BK531 (N := 3) (t := 27) ?_; clear HB BK531; intro gb532 w8 BK532 GE532 HB NB531_532 NB532_531 BK531; have hnb9 := NB531_532.out; have hnc9 := NB532_531.out; have hz10 := cs2_ BK531; have hz11 := cs2_ BK532) | ((with_reducible refine gf 152 rfl ?_); refine gL 9 Tryz.func152 #[.slice A0_0 l0_0.length c0_0, .slice A1_0 l1_0.length c1_0] ?_; (with_reducible refine (laws_eqWordS.calls k _ _ l0_0 _ _ l1_0 true _ (kc HR0_0 HB) HC0_0.out (kc HR1_0 HB) HC1_0.out A3.out).mono ?_); rintro e w12 ⟨rfl, hb⟩; refine ⟨_, rfl, ?_⟩; replace BK531 := bb BK531 hb; replace BK532 := bb BK532 hb; replace HB := bs HB hb; (try clear hb); have hz13 := cs2_ BK531; have hz14 := cs2_ BK532) | ((with_reducible refine gf 153 rfl ?_); refine gL 15 Tryz.func153 #[.slice A0_1 l0_1.length c0_1, .slice A1_1 l1_1.length c1_1] ?_; (with_reducible refine (laws_eqDescS.calls k _ _ l0_1 _ _ l1_1 true _ (kc HR0_1 HB) HC0_1.out (kc HR1_1 HB) HC1_1.out A5.out).mono ?_); rintro e w15 ⟨rfl, hb⟩; refine ⟨_, rfl, ?_⟩; replace BK531 := bb BK531 hb; replace BK532 := bb BK532 hb; replace HB := bs HB hb; (try clear hb)))
  go_ret
  exact ⟨er, tb HB⟩
 replace H := ipf H
 obtain rfl := oin H
 go_enter Tryz.func98, Tryz.ntmps98
 go_wp2_with (first | ((with_reducible refine gq 2 rfl ?_); refine bx0 HB (N := 2) (t := 27) ?_; clear HB; intro gb531 w16 BK531 GE531 HB) | ((with_reducible refine gq 3 rfl ?_); refine bx1 HB BK531 (N := 3) (t := 27) ?_; clear HB BK531; intro gb532 w17 BK532 GE532 HB NB531_532 NB532_531 BK531; have hnb18 := NB531_532.out; have hnc18 := NB532_531.out; have hz19 := cs2_ BK531; have hz20 := cs2_ BK532) | ((with_reducible refine gf 152 rfl ?_); refine gL 9 Tryz.func152 #[.slice A0_0 l0_0.length c0_0, .slice A1_0 l1_0.length c1_0] ?_; (with_reducible refine (laws_eqWordS.calls k _ _ l0_0 _ _ l1_0 true _ (kc HR0_0 HB) HC0_0.out (kc HR1_0 HB) HC1_0.out A3.out).mono ?_); rintro e w21 ⟨rfl, hb⟩; refine ⟨_, rfl, ?_⟩; replace BK531 := bb BK531 hb; replace BK532 := bb BK532 hb; replace HB := bs HB hb; (try clear hb); have hz22 := cs2_ BK531; have hz23 := cs2_ BK532) | ((with_reducible refine gf 153 rfl ?_); refine gL 15 Tryz.func153 #[.slice A0_1 l0_1.length c0_1, .slice A1_1 l1_1.length c1_1] ?_; (with_reducible refine (laws_eqDescS.calls k _ _ l0_1 _ _ l1_1 false _ (kc HR0_1 HB) HC0_1.out (kc HR1_1 HB) HC1_1.out A5.out).mono ?_); rintro e w24 ⟨rfl, hb⟩; refine ⟨_, rfl, ?_⟩; replace BK531 := bb BK531 hb; replace BK532 := bb BK532 hb; replace HB := bs HB hb; (try clear hb)))
 go_ret
 exact ⟨er, tb HB⟩
mutual
def spec_l9Calls.l0 : Nat → Int → Int → List (S39) → List (S52) → List (S82) → Int → List (S134) → List Int → List Int → Int → Option (Bool)
 | 0, _, _, _, _, _, _, _, _, _, _ => none
 | k + 1, x3, x4, x201000, x201001, x201002, x201003, x201004, x201005, x201006, x201007 => if x4 < (x201004.length : Int) then (if 0 ≤ x4 then ((spec_l9Call.f k x201000 x201001 x201002 x201003 x201004 x201005 x201006 x201007 ((rd_T134 x201004 x4).f0) ((rd_T134 x201004 x4).f1.f0) ((rd_T134 x201004 x4).f1.f1) ((rd_T134 x201004 x4).f1.f2) ((rd_T134 x201004 x4).f2) ((rd_T134 x201004 x4).f3) ((rd_T134 x201004 x4).f4) ((rd_T134 x201004 x4).f5.f0) ((rd_T134 x201004 x4).f5.f1)).bind fun t202 => (if t202 = true then ((spec_l1Bit.f (decide (((rd_T134 x201004 x4).f3) ≥ 0))).bind fun t204 => (spec_l9Calls.l0 k (wrap64 (x3 + t204)) (wrap64 (x4 + 1)) x201000 x201001 x201002 x201003 x201004 x201005 x201006 x201007)) else (some false))) else (none)) else (spec_l9Calls.l1 k x3 0 x201000 x201001 x201002 x201003 x201004 x201005 x201006 x201007)
def spec_l9Calls.l1 : Nat → Int → Int → List (S39) → List (S52) → List (S82) → Int → List (S134) → List Int → List Int → Int → Option (Bool)
 | 0, _, _, _, _, _, _, _, _, _, _ => none
 | k + 1, x3, x5, x201000, x201001, x201002, x201003, x201004, x201005, x201006, x201007 => if x5 < (x201005.length : Int) then (if 0 ≤ x5 then ((spec_l1In.f (rd x201005 x5) 0 (wrap64 ((x201004.length : Int) - 1))).bind fun t206 => (if t206 = true then (if 0 ≤ (rd x201005 x5) then (if (rd x201005 x5) < (x201004.length : Int) then (if ((rd_T134 x201004 (rd x201005 x5)).f3) < 0 then (spec_l9Calls.j2 k x3 x5 (rd x201005 x5) true x201000 x201001 x201002 x201003 x201004 x201005 x201006 x201007) else (if x5 > 0 then (if 0 ≤ (wrap64 (x5 - 1)) then (if (wrap64 (x5 - 1)) < (x201005.length : Int) then (if 0 ≤ (rd x201005 (wrap64 (x5 - 1))) then (if (rd x201005 (wrap64 (x5 - 1))) < (x201004.length : Int) then (spec_l9Calls.j2 k x3 x5 (rd x201005 x5) (decide (((rd_T134 x201004 (rd x201005 (wrap64 (x5 - 1)))).f3) > ((rd_T134 x201004 (rd x201005 x5)).f3))) x201000 x201001 x201002 x201003 x201004 x201005 x201006 x201007) else (none)) else (none)) else (none)) else (none)) else (spec_l9Calls.j2 k x3 x5 (rd x201005 x5) false x201000 x201001 x201002 x201003 x201004 x201005 x201006 x201007))) else (none)) else (none)) else (spec_l9Calls.j2 k x3 x5 (rd x201005 x5) true x201000 x201001 x201002 x201003 x201004 x201005 x201006 x201007))) else (none)) else (if (x201004.length : Int) ≤ 40 then (some (x3 == (x201005.length : Int))) else (some false))
def spec_l9Calls.j2 : Nat → Int → Int → Int → Bool → List (S39) → List (S52) → List (S82) → Int → List (S134) → List Int → List Int → Int → Option (Bool)
 | 0, _, _, _, _, _, _, _, _, _, _, _, _ => none
 | k + 1, x3, x5, x6, x84, x201000, x201001, x201002, x201003, x201004, x201005, x201006, x201007 => if x84 = true then (some false) else (spec_l9Calls.l2 k x3 x5 x6 0 x201000 x201001 x201002 x201003 x201004 x201005 x201006 x201007)
def spec_l9Calls.l2 : Nat → Int → Int → Int → Int → List (S39) → List (S52) → List (S82) → Int → List (S134) → List Int → List Int → Int → Option (Bool)
 | 0, _, _, _, _, _, _, _, _, _, _, _, _ => none
 | k + 1, x3, x5, x6, x7, x201000, x201001, x201002, x201003, x201004, x201005, x201006, x201007 => if x7 < x5 then (if 0 ≤ x7 then (if x7 < (x201005.length : Int) then (if (rd x201005 x7) = x6 then (some false) else (spec_l9Calls.l2 k x3 x5 x6 (wrap64 (x7 + 1)) x201000 x201001 x201002 x201003 x201004 x201005 x201006 x201007)) else (none)) else (none)) else (spec_l9Calls.l1 k x3 (wrap64 (x5 + 1)) x201000 x201001 x201002 x201003 x201004 x201005 x201006 x201007)
end
def spec_l9Calls.f (k : Nat) (l0_0 : List (S39)) (l0_1 : List (S52)) (l0_2 : List (S82)) (a0_3 : Int) (l0_4 : List (S134)) (l0_5 : List Int) (l0_6 : List Int) (a0_7 : Int) : Option (Bool) := spec_l9Calls.l0 k 0 0 l0_0 l0_1 l0_2 a0_3 l0_4 l0_5 l0_6 a0_7
def spec_l9Calls.T5 : Bool × List (List Nat × List Nat) := (true, [([], []), ([], []), ([1], [1]), ([], []), ([2, 3], [2, 3]), ([4], [4]), ([0, 5], [0, 5]), ([6], [6])])
def spec_l9Calls.B5 : List Nat := [0, 0, 2, 0, 14, 30, 63, 127]
theorem spec_l9Calls.tab5 : rtab .any (opsOf Tryz.f86 5) = spec_l9Calls.T5 := by kernel_rfl
theorem spec_l9Calls.bits5 : waitsOk spec_l9Calls.T5.2 spec_l9Calls.B5 = true := by kernel_rfl
def spec_l9Calls.T12 : Bool × List (List Nat × List Nat) := (true, [([], []), ([], []), ([1], [1]), ([2], [2]), ([3], [3]), ([0, 4], [0, 4]), ([5], [5]), ([6, 5], [6]), ([7], [7]), ([8, 7], [7, 8]), ([7], [7]), ([9, 10, 7], [7, 9, 10]), ([11, 7], [7, 11]), ([12, 7], [7, 12]), ([13, 7], [7, 13]), ([7, 14], [7, 14]), ([15, 7], [15]), ([16], [16]), ([17, 16], [16, 17]), ([18, 16, 16], [16, 18]), ([19], [19]), ([20, 19], [19, 20]), ([19], [19]), ([22, 19], [19, 22]), ([19], [19]), ([24, 19], [19, 24]), ([23, 25, 19], [19, 23, 25]), ([26, 19], [19, 26]), ([21, 27, 19], [19, 21, 27]), ([28, 19], [19, 28]), ([29, 19], [19, 29]), ([19], [19]), ([31, 19], [19, 31]), ([19], [19]), ([32, 33, 19], [19, 32, 33]), ([34, 19], [19, 34]), ([35, 19], [19, 35]), ([30, 36, 19], [19, 30, 36]), ([19, 37, 16], [16, 19, 37]), ([16, 38], [16, 38])])
def spec_l9Calls.B12 : List Nat := [0, 0, 2, 6, 14, 31, 63, 127, 255, 511, 255, 2047, 4095, 8191, 16383, 32767, 65535, 131071, 262143, 524287, 1048575, 2097151, 1048575, 5242879, 1048575, 17825791, 63963135, 131071999, 268435455, 536870911, 1073741823, 1048575, 2148532223, 1048575, 15033434111, 32213303295, 66573041663, 137438953471, 274877906943, 549755813887]
theorem spec_l9Calls.tab12 : rtab .any (opsOf Tryz.f86 12) = spec_l9Calls.T12 := by kernel_rfl
theorem spec_l9Calls.bits12 : waitsOk spec_l9Calls.T12.2 spec_l9Calls.B12 = true := by kernel_rfl
set_option maxHeartbeats 8000000 in
set_option maxRecDepth 100000 in
theorem spec_l9Calls.calls (k : Nat) (A0_0 : Option Addr) (c0_0 : Nat) (l0_0 : List (S39)) (A0_1 : Option Addr) (c0_1 : Nat) (l0_1 : List (S52)) (A0_2 : Option Addr) (c0_2 : Nat) (l0_2 : List (S82)) (a0_3 : Int) (A0_4 : Option Addr) (c0_4 : Nat) (l0_4 : List (S134)) (A0_5 : Option Addr) (c0_5 : Nat) (l0_5 : List Int) (A0_6 : Option Addr) (c0_6 : Nat) (l0_6 : List Int) (a0_7 : Int) (r : Bool) (w : World) (hr0_0 : Kd.C k39 w A0_0 l0_0.length l0_0) (hc0_0 : l0_0.length ≤ c0_0) (hr0_1 : Kd.C k52 w A0_1 l0_1.length l0_1) (hc0_1 : l0_1.length ≤ c0_1) (hr0_2 : Kd.C k82 w A0_2 l0_2.length l0_2) (hc0_2 : l0_2.length ≤ c0_2) (hr0_4 : Kd.C k134 w A0_4 l0_4.length l0_4) (hc0_4 : l0_4.length ≤ c0_4) (hr0_5 : Kd.C (Kd.int .i64) w A0_5 l0_5.length l0_5) (hc0_5 : l0_5.length ≤ c0_5) (hr0_6 : Kd.C (Kd.int .i64) w A0_6 l0_6.length l0_6) (hc0_6 : l0_6.length ≤ c0_6) (h : spec_l9Calls.f k l0_0 l0_1 l0_2 a0_3 l0_4 l0_5 l0_6 a0_7 = some r) :
  Calls Tryz.prog 86 #[.agg #[.slice A0_0 l0_0.length c0_0, .slice A0_1 l0_1.length c0_1, .slice A0_2 l0_2.length c0_2, .int .i64 a0_3, .slice A0_4 l0_4.length c0_4, .slice A0_5 l0_5.length c0_5, .slice A0_6 l0_6.length c0_6, .int .i64 a0_7]] w fun e w' => e = .returned (.bool r) ∧ Below w.heap.size w w' := by
 have hu75 := Tryz.underlying75
 have hu134 := Tryz.underlying134
 have HR0_0 := Aside0.mk hr0_0
 have HC0_0 := Aside0.mk hc0_0
 clear hr0_0 hc0_0
 have HR0_1 := Aside0.mk hr0_1
 have HC0_1 := Aside0.mk hc0_1
 clear hr0_1 hc0_1
 have HR0_2 := Aside0.mk hr0_2
 have HC0_2 := Aside0.mk hc0_2
 clear hr0_2 hc0_2
 have HR0_4 := Aside0.mk hr0_4
 have HC0_4 := Aside0.mk hc0_4
 clear hr0_4 hc0_4
 have HR0_5 := Aside0.mk hr0_5
 have HC0_5 := Aside0.mk hc0_5
 clear hr0_5 hc0_5
 have HR0_6 := Aside0.mk hr0_6
 have HC0_6 := Aside0.mk hc0_6
 clear hr0_6 hc0_6
 have HB := Aside0.mk (Below.refl w.heap.size w)
 have H := h
 clear h
 unfold spec_l9Calls.f at H
 have H' := Aside0.mk H
 clear H
 go_enter Tryz.func86, Tryz.ntmps86
 go_wp2_with (first | ((with_reducible refine gq 1 rfl ?_); (try (refine gate_guard (by rfl) ?_; dsimp only)); refine bx0 HB (N := 1) (t := 75) ?_; clear HB; intro gb200 w2 BK200 GE200 HB))
 go_loopg [3, 4] k (fun kq v3 v4 w' => ∃ (x3_1 : Int) (x4_1 : Int), v3 = .int .i64 x3_1 ∧ v4 = .int .i64 x4_1 ∧ Aside0 (spec_l9Calls.l0 kq x3_1 x4_1 l0_0 l0_1 l0_2 a0_3 l0_4 l0_5 l0_6 a0_7 = some r) ∧ Aside0 (kq ≤ k) ∧ Aside0 (w'.heap[gb200]? = some (.cells #[(.slice A0_0 l0_0.length c0_0), (.slice A0_1 l0_1.length c0_1), (.slice A0_2 l0_2.length c0_2), .int .i64 a0_3, (.slice A0_4 l0_4.length c0_4), (.slice A0_5 l0_5.length c0_5), (.slice A0_6 l0_6.length c0_6), .int .i64 a0_7] 75 (0, 0))) ∧ Aside0 (Below w.heap.size w w'))
 case atStart => exact ⟨(0), (0), rsd, rsd, H', ⟨Nat.le_refl _⟩, ⟨by (with_reducible repeat (first | refine blk_drewN ?_ _ | refine blk_drew ?_ | refine blk_alloc ?_ _)); exact BK200.out⟩, ⟨tb HB⟩⟩
 case round =>
  clear H'
  obtain ⟨x3_1, x4_1, rfl, rfl, HA, HK1, BK200, HB⟩ := hrel
  cases gk with
  | zero => exact absurd HA.out (by simp [spec_l9Calls.l0])
  | succ k1 =>
   have H := HA.out
   clear HA
   simp only [spec_l9Calls.l0] at H
   revert H; refine icd (fun c3b0 H => ?pos) fun c3b0 H => ?_
   case pos =>
    obtain ⟨c4b0, H⟩ := itd H
    obtain ⟨t202, A5, H⟩ := bn H
    try dsimp only at H
    cases t202
    case false =>
     replace H := ipf H
     obtain rfl := oin H
     have hz12 := cs8_ BK200
     try go_wp2
     replace BK200 := bd BK200
     replace HB := Aside0.mk (below_drew1 HB.out)
     have p201 : 0 ≤ (x4_1 : Int) := od
     have q201 : x4_1 < (l0_4.length : Int) := od
     obtain ⟨ad201, A201_8, c201_8, e201, hx201, hl201_8, hi201_8⟩ := att134 HR0_4.out x4_1 p201 q201
     have hw201 := hx201
     cases e201
     replace hx201 := ox9 HB hx201
     have HR201_8 := Aside0.mk hi201_8
     have HC201_8 := Aside0.mk hl201_8
     clear hi201_8 hl201_8
     replace p201 := eq_true p201
     replace q201 := eq_true q201
     refine start_ (n := 8) (S := fun w' => cS8 gb200 (.slice A0_0 l0_0.length c0_0) (.slice A0_1 l0_1.length c0_1) (.slice A0_2 l0_2.length c0_2) (.int .i64 a0_3) (.slice (some ad201) l0_4.length c0_4) (.slice A0_5 l0_5.length c0_5) (.slice A0_6 l0_6.length c0_6) (.int .i64 a0_7) w' ∧ eT134 (ad201.add ((x4_1).toNat * 9)) (rd_T134 l0_4 x4_1) A201_8 c201_8 w') (ds := []) #[false, false, false, false, false, false, false, false] (by kernel_rfl) rfl rfl ⟨ds8_ BK200, (ox9 HB hw201 :)⟩ (fun hHeld => ?_); refine with_tabW spec_l9Calls.tab5 spec_l9Calls.bits5 (fun HT_ HW_ => ?_)
     generalize wr.drew = w13 at BK200 HB HR201_8 hx201 hHeld ⊢
     refine pu 1 16 ?_; refine pu 3 18 ?_; refine ta 0 15 ?_; refine ta 2 17 ?_; refine pu 4 19 ?_; refine ta 5 20 ?_
     refine on1 6 (some 21) (fun K hK => ?_)
     refine gS Tryz.func141 #[.agg #[.slice A0_0 l0_0.length c0_0, .slice A0_1 l0_1.length c0_1, .slice A0_2 l0_2.length c0_2, .int .i64 a0_3, .slice (some ad201) l0_4.length c0_4, .slice A0_5 l0_5.length c0_5, .slice A0_6 l0_6.length c0_6, .int .i64 a0_7], .agg #[.int .i64 ((rd_T134 l0_4 x4_1).f0), .int .i64 ((rd_T134 l0_4 x4_1).f1.f0), .int .i64 ((rd_T134 l0_4 x4_1).f1.f1), .int .i64 ((rd_T134 l0_4 x4_1).f1.f2), .int .i64 ((rd_T134 l0_4 x4_1).f2), .int .i64 ((rd_T134 l0_4 x4_1).f3), .int .i64 ((rd_T134 l0_4 x4_1).f4), .int .i64 ((rd_T134 l0_4 x4_1).f5.f0), .slice A201_8 ((rd_T134 l0_4 x4_1).f5.f1).length c201_8]] ?_
     with_reducible refine (spec_l9Call.calls k1 _ _ l0_0 _ _ l0_1 _ _ l0_2 a0_3 _ _ l0_4 _ _ l0_5 _ _ l0_6 a0_7 ((rd_T134 l0_4 x4_1).f0) ((rd_T134 l0_4 x4_1).f1.f0) ((rd_T134 l0_4 x4_1).f1.f1) ((rd_T134 l0_4 x4_1).f1.f2) ((rd_T134 l0_4 x4_1).f2) ((rd_T134 l0_4 x4_1).f3) ((rd_T134 l0_4 x4_1).f4) ((rd_T134 l0_4 x4_1).f5.f0) _ _ ((rd_T134 l0_4 x4_1).f5.f1) false _ ?side1 ?side2 ?side3 ?side4 ?side5 ?side6 ?side7 ?side8 ?side9 ?side10 ?side11 ?side12 ?side13 ?side14 A5.out).mono ?_
     (case side1 => exact kc HR0_0 HB)
     (case side2 => exact HC0_0.out)
     (case side3 => exact kc HR0_1 HB)
     (case side4 => exact HC0_1.out)
     (case side5 => exact kc HR0_2 HB)
     (case side6 => exact HC0_2.out)
     (case side7 => exact kc HR0_4 HB)
     (case side8 => exact HC0_4.out)
     (case side9 => exact kc HR0_5 HB)
     (case side10 => exact HC0_5.out)
     (case side11 => exact kc HR0_6 HB)
     (case side12 => exact HC0_6.out)
     (case side13 => exact kc HR201_8 HB)
     (case side14 => exact HC201_8.out)
     rintro e w14 ⟨rfl, hb⟩
     refine ⟨_, rfl, ?_⟩
     replace BK200 := bb BK200 hb
     replace HB := bs HB hb
     (try clear hb)
     (try clear hb2)
     (try clear hk)
     (try clear hi)
     refine hK.out _ _ ⟨ds8_ BK200, (ox9 HB hw201 :)⟩ (fun hHeld => ?_)
     clear hK K
     refine nm 21 ?_
     refine pu 7 22 ?_
     refine done_ (done_of HT_.out (by kernel_rfl)) ?_
     try go_wp2
     go_ret
     exact ⟨er, tb HB⟩
    replace H := ipt H
    obtain ⟨t204, A7, H⟩ := bn H
    try dsimp only at H
    have H' := Aside0.mk H
    clear H
    have hz8 := cs8_ BK200
    try go_wp2
    replace BK200 := bd BK200
    replace HB := Aside0.mk (below_drew1 HB.out)
    have p201 : 0 ≤ (x4_1 : Int) := od
    have q201 : x4_1 < (l0_4.length : Int) := od
    obtain ⟨ad201, A201_8, c201_8, e201, hx201, hl201_8, hi201_8⟩ := att134 HR0_4.out x4_1 p201 q201
    have hw201 := hx201
    cases e201
    replace hx201 := ox9 HB hx201
    have HR201_8 := Aside0.mk hi201_8
    have HC201_8 := Aside0.mk hl201_8
    clear hi201_8 hl201_8
    replace p201 := eq_true p201
    replace q201 := eq_true q201
    refine start_ (n := 8) (S := fun w' => cS8 gb200 (.slice A0_0 l0_0.length c0_0) (.slice A0_1 l0_1.length c0_1) (.slice A0_2 l0_2.length c0_2) (.int .i64 a0_3) (.slice (some ad201) l0_4.length c0_4) (.slice A0_5 l0_5.length c0_5) (.slice A0_6 l0_6.length c0_6) (.int .i64 a0_7) w' ∧ eT134 (ad201.add ((x4_1).toNat * 9)) (rd_T134 l0_4 x4_1) A201_8 c201_8 w') (ds := []) #[false, false, false, false, false, false, false, false] (by kernel_rfl) rfl rfl ⟨ds8_ BK200, (ox9 HB hw201 :)⟩ (fun hHeld => ?_); refine with_tabW spec_l9Calls.tab5 spec_l9Calls.bits5 (fun HT_ HW_ => ?_)
    generalize wr.drew = w9 at BK200 HB HR201_8 hx201 hHeld ⊢
    refine pu 1 16 ?_; refine pu 3 18 ?_; refine ta 0 15 ?_; refine ta 2 17 ?_; refine pu 4 19 ?_; refine ta 5 20 ?_
    refine on1 6 (some 21) (fun K hK => ?_)
    refine gS Tryz.func141 #[.agg #[.slice A0_0 l0_0.length c0_0, .slice A0_1 l0_1.length c0_1, .slice A0_2 l0_2.length c0_2, .int .i64 a0_3, .slice (some ad201) l0_4.length c0_4, .slice A0_5 l0_5.length c0_5, .slice A0_6 l0_6.length c0_6, .int .i64 a0_7], .agg #[.int .i64 ((rd_T134 l0_4 x4_1).f0), .int .i64 ((rd_T134 l0_4 x4_1).f1.f0), .int .i64 ((rd_T134 l0_4 x4_1).f1.f1), .int .i64 ((rd_T134 l0_4 x4_1).f1.f2), .int .i64 ((rd_T134 l0_4 x4_1).f2), .int .i64 ((rd_T134 l0_4 x4_1).f3), .int .i64 ((rd_T134 l0_4 x4_1).f4), .int .i64 ((rd_T134 l0_4 x4_1).f5.f0), .slice A201_8 ((rd_T134 l0_4 x4_1).f5.f1).length c201_8]] ?_
    with_reducible refine (spec_l9Call.calls k1 _ _ l0_0 _ _ l0_1 _ _ l0_2 a0_3 _ _ l0_4 _ _ l0_5 _ _ l0_6 a0_7 ((rd_T134 l0_4 x4_1).f0) ((rd_T134 l0_4 x4_1).f1.f0) ((rd_T134 l0_4 x4_1).f1.f1) ((rd_T134 l0_4 x4_1).f1.f2) ((rd_T134 l0_4 x4_1).f2) ((rd_T134 l0_4 x4_1).f3) ((rd_T134 l0_4 x4_1).f4) ((rd_T134 l0_4 x4_1).f5.f0) _ _ ((rd_T134 l0_4 x4_1).f5.f1) true _ ?side1 ?side2 ?side3 ?side4 ?side5 ?side6 ?side7 ?side8 ?side9 ?side10 ?side11 ?side12 ?side13 ?side14 A5.out).mono ?_
    (case side1 => exact kc HR0_0 HB)
    (case side2 => exact HC0_0.out)
    (case side3 => exact kc HR0_1 HB)
    (case side4 => exact HC0_1.out)
    (case side5 => exact kc HR0_2 HB)
    (case side6 => exact HC0_2.out)
    (case side7 => exact kc HR0_4 HB)
    (case side8 => exact HC0_4.out)
    (case side9 => exact kc HR0_5 HB)
    (case side10 => exact HC0_5.out)
    (case side11 => exact kc HR0_6 HB)
    (case side12 => exact HC0_6.out)
    (case side13 => exact kc HR201_8 HB)
    (case side14 => exact HC201_8.out)
    rintro e w10 ⟨rfl, hb⟩
    refine ⟨_, rfl, ?_⟩
    replace BK200 := bb BK200 hb
    replace HB := bs HB hb
    (try clear hb)
    (try clear hb2)
    (try clear hk)
    (try clear hi)
    refine hK.out _ _ ⟨ds8_ BK200, (ox9 HB hw201 :)⟩ (fun hHeld => ?_)
    clear hK K
    refine nm 21 ?_
    refine pu 7 22 ?_
    refine done_ (done_of HT_.out (by kernel_rfl)) ?_
    have hz11 := cs8_ BK200
    have p203 : 0 ≤ (x4_1 : Int) := od
    have q203 : x4_1 < (l0_4.length : Int) := od
    obtain ⟨ad203, A203_8, c203_8, e203, hx203_0, hx203_1, hx203_2, hx203_3, hx203_4, hx203_5, hx203_6, hx203_7, hx203_8, hl203_8, hi203_8⟩ := at_T134 HR0_4.out x4_1 p203 q203
    obtain rfl : ad201 = ad203 := (by injection e203)
    replace hx203_0 := ox HB hx203_0
    replace hx203_1 := ox HB hx203_1
    replace hx203_2 := ox HB hx203_2
    replace hx203_3 := ox HB hx203_3
    replace hx203_4 := ox HB hx203_4
    replace hx203_5 := ox HB hx203_5
    replace hx203_6 := ox HB hx203_6
    replace hx203_7 := ox HB hx203_7
    replace hx203_8 := ox HB hx203_8
    have HR203_8 := Aside0.mk hi203_8
    have HC203_8 := Aside0.mk hl203_8
    clear hi203_8 hl203_8
    replace p203 := eq_true p203
    replace q203 := eq_true q203
    try go_wp2_with (first | ((with_reducible refine gf 142 rfl ?_); refine gL 31 Tryz.func142 #[.bool (decide (((rd_T134 l0_4 x4_1).f3) ≥ 0))] ?_; (with_reducible refine (spec_l1Bit.calls (decide (((rd_T134 l0_4 x4_1).f3) ≥ 0)) t204 _ A7.out).mono ?_); rintro e w' ⟨rfl, ⟨nd, rfl⟩⟩; refine ⟨_, rfl, ?_⟩))
    go_roundg k1
    case measure => have := HK1.out; omega
    case rel => exact ⟨(wrap64 (x3_1 + t204)), (wrap64 (x4_1 + 1)), rsd, rsd, H', ⟨by have := HK1.out; omega⟩, ⟨by (with_reducible repeat (first | refine blk_drewN ?_ _ | refine blk_drew ?_ | refine blk_alloc ?_ _)); exact BK200.out⟩, ⟨tb HB⟩⟩
   have H' := Aside0.mk H
   clear H
   have hz15 := cs8_ BK200
   go_wp2
   go_loopg [5] k1 (fun kq v5 w' => ∃ (x5_2 : Int), v5 = .int .i64 x5_2 ∧ Aside0 (spec_l9Calls.l1 kq x3_1 x5_2 l0_0 l0_1 l0_2 a0_3 l0_4 l0_5 l0_6 a0_7 = some r) ∧ Aside0 (kq ≤ k1) ∧ Aside0 (w'.heap[gb200]? = some (.cells #[(.slice A0_0 l0_0.length c0_0), (.slice A0_1 l0_1.length c0_1), (.slice A0_2 l0_2.length c0_2), .int .i64 a0_3, (.slice A0_4 l0_4.length c0_4), (.slice A0_5 l0_5.length c0_5), (.slice A0_6 l0_6.length c0_6), .int .i64 a0_7] 75 (0, 0))) ∧ Aside0 (Below w.heap.size w w'))
   case atStart => exact ⟨(0), rsd, H', ⟨Nat.le_refl _⟩, ⟨by (with_reducible repeat (first | refine blk_drewN ?_ _ | refine blk_drew ?_ | refine blk_alloc ?_ _)); exact BK200.out⟩, ⟨tb HB⟩⟩
   case round =>
    clear H'
    try clear hx203_0
    try clear hx203_1
    try clear hx203_2
    try clear hx203_3
    try clear hx203_4
    try clear hx203_5
    try clear hx203_6
    try clear hx203_7
    try clear hx203_8
    obtain ⟨x5_2, rfl, HA, HK2, BK200, HB⟩ := hrel
    cases gk with
    | zero => exact absurd HA.out (by simp [spec_l9Calls.l1])
    | succ k2 =>
     have H := HA.out
     clear HA
     simp only [spec_l9Calls.l1] at H
     revert H; refine icd (fun c16b0 H => ?_) fun c16b0 H => ?neg
     case neg =>
      by_cases c42 : (l0_4.length : Int) ≤ 40
      case pos =>
       rw [if_pos c42] at H
       have c42b0 := decide_eq_true c42
       have c42b1 : decide (l0_4.length ≤ 40) = true := decide_eq_true (by omega)
       clear c42
       obtain rfl := oin H
       have hz43 := cs8_ BK200
       go_wp2
       go_ret
       exact ⟨er, tb HB⟩
      rw [if_neg c42] at H
      have c42b0 := decide_eq_false c42
      have c42b1 : decide (l0_4.length ≤ 40) = false := decide_eq_false (by omega)
      clear c42
      obtain rfl := oin H
      have hz44 := cs8_ BK200
      go_wp2
      go_ret
      exact ⟨er, tb HB⟩
     obtain ⟨c17b0, H⟩ := itd H
     have HC18 := Aside0.mk H
     clear H
     have hz19 := cs8_ BK200
     have p205 : 0 ≤ (x5_2 : Int) := od
     have q205 : x5_2 < (l0_5.length : Int) := od
     obtain ⟨ad205, e205, hx205_0⟩ := Kd.at_int HR0_5.out x5_2 p205 q205
     cases e205
     replace hx205_0 := ox HB hx205_0
     replace p205 := eq_true p205
     replace q205 := eq_true q205
     go_upto_region 12 with (fail)
     go_cut [84] (fun v84 wc => ∃ (kq : Nat) (x84_17 : Bool), v84 = .bool x84_17 ∧ Aside0 (spec_l9Calls.j2 kq x3_1 x5_2 (rd l0_5 x5_2) x84_17 l0_0 l0_1 l0_2 a0_3 l0_4 l0_5 l0_6 a0_7 = some r) ∧ Aside0 (kq ≤ k2) ∧ Aside0 (wc.heap[gb200]? = some (.cells #[(.slice A0_0 l0_0.length c0_0), (.slice A0_1 l0_1.length c0_1), (.slice A0_2 l0_2.length c0_2), .int .i64 a0_3, (.slice A0_4 l0_4.length c0_4), (.slice (some ad205) l0_5.length c0_5), (.slice A0_6 l0_6.length c0_6), .int .i64 a0_7] 75 (0, 0))) ∧ Aside0 (Below w.heap.size w wc))
     case first =>
      have H := HC18.out
      clear HC18
      obtain ⟨t206, A20, H⟩ := bn H
      try dsimp only at H
      cases t206
      case false =>
       replace H := ipf H
       have H' := Aside0.mk H
       clear H
       try go_wp2
       replace BK200 := bd BK200
       replace HB := Aside0.mk (below_drew1 HB.out)
       refine start_ (n := 40) (S := fun w' => cS8 gb200 (.slice A0_0 l0_0.length c0_0) (.slice A0_1 l0_1.length c0_1) (.slice A0_2 l0_2.length c0_2) (.int .i64 a0_3) (.slice A0_4 l0_4.length c0_4) (.slice (some ad205) l0_5.length c0_5) (.slice A0_6 l0_6.length c0_6) (.int .i64 a0_7) w') (ds := []) #[false, false, false, false, false, false, false, false, false, false, false, false, false, false, false, false, false, false, false, false, false, false, false, false, false, false, false, false, false, false, false, false, false, false, false, false, false, false, false, false] (by kernel_rfl) rfl rfl (ds8_ BK200) (fun hHeld => ?_); refine with_tabW spec_l9Calls.tab12 spec_l9Calls.bits12 (fun HT_ HW_ => ?_)
       generalize wr.drew = w34 at BK200 HB hHeld ⊢
       refine pu 0 45 ?_; refine pu 1 46 ?_; refine ta 2 47 ?_; refine pu 3 48 ?_; refine pu 4 49 ?_
       refine on1 5 (some 50) (fun K hK => ?_)
       refine gS Tryz.func70 #[.int .i64 (rd l0_5 x5_2), .int .i64 0, .int .i64 (wrap64 ((l0_4.length : Int) - 1))] ?_
       with_reducible refine (spec_l1In.calls (rd l0_5 x5_2) 0 (wrap64 ((l0_4.length : Int) - 1)) false _ A20.out).mono ?_
       rintro e w' ⟨rfl, ⟨nd, rfl⟩⟩
       refine ⟨_, rfl, ?_⟩
       refine hK.out _ _ (ds8_ BK200) (fun hHeld => ?_)
       clear hK K
       refine nm 50 ?_
       refine pu 6 51 ?_; refine pu 7 52 ?_; refine pn 8 53 ?_; refine pn 9 54 ?_; refine pn 10 55 ?_; refine pn 11 56 ?_; refine pn 12 57 ?_; refine pn 13 58 ?_; refine pn 14 59 ?_; refine pu 15 60 ?_; refine pu 16 61 ?_; refine pn 17 62 ?_
       refine pn 18 63 ?_; refine pn 19 64 ?_; refine pn 20 65 ?_; refine pn 21 66 ?_; refine pn 22 67 ?_; refine pn 23 68 ?_; refine pn 24 69 ?_; refine pn 25 70 ?_; refine pn 26 71 ?_; refine pn 27 72 ?_; refine pn 28 73 ?_; refine pn 29 74 ?_
       refine pn 30 75 ?_; refine pn 31 76 ?_; refine pn 32 77 ?_; refine pn 33 78 ?_; refine pn 34 79 ?_; refine pn 35 80 ?_; refine pn 36 81 ?_; refine pn 37 82 ?_; refine pn 38 83 ?_; refine pu 39 84 ?_
       refine done_ (done_of HT_.out (by kernel_rfl)) ?_
       try go_wp2
       go_meet
       case rel => exact ⟨_, (true), rsd, H', ⟨by have := HK1.out; have := HK2.out; first | omega | exact Nat.le_refl _⟩, ⟨by (with_reducible repeat (first | refine blk_drewN ?_ _ | refine blk_drew ?_ | refine blk_alloc ?_ _)); exact BK200.out⟩, ⟨tb HB⟩⟩
      replace H := ipt H
      obtain ⟨c22b0, H⟩ := itd H
      (first | rw [c22b0] | (simp only [i64_w, i32_w]; rw [c22b0]) | skip)
      obtain ⟨c23b0, H⟩ := itd H
      revert H; refine icd (fun c24b0 H => ?pos) fun c24b0 H => ?_
      case pos =>
       have H' := Aside0.mk H
       clear H
       try go_wp2
       replace BK200 := bd BK200
       replace HB := Aside0.mk (below_drew1 HB.out)
       have p207 : 0 ≤ ((rd l0_5 x5_2) : Int) := od
       have q207 : (rd l0_5 x5_2) < (l0_4.length : Int) := od
       obtain ⟨ad207, A207_8, c207_8, e207, hx207, hl207_8, hi207_8⟩ := att134 HR0_4.out (rd l0_5 x5_2) p207 q207
       have hw207 := hx207
       cases e207
       replace hx207 := ox9 HB hx207
       have HR207_8 := Aside0.mk hi207_8
       have HC207_8 := Aside0.mk hl207_8
       clear hi207_8 hl207_8
       replace p207 := eq_true p207
       replace q207 := eq_true q207
       refine start_ (n := 40) (S := fun w' => cS8 gb200 (.slice A0_0 l0_0.length c0_0) (.slice A0_1 l0_1.length c0_1) (.slice A0_2 l0_2.length c0_2) (.int .i64 a0_3) (.slice (some ad207) l0_4.length c0_4) (.slice (some ad205) l0_5.length c0_5) (.slice A0_6 l0_6.length c0_6) (.int .i64 a0_7) w' ∧ eT134 (ad207.add (((rd l0_5 x5_2)).toNat * 9)) (rd_T134 l0_4 (rd l0_5 x5_2)) A207_8 c207_8 w') (ds := []) #[false, false, false, false, false, false, false, false, false, false, false, false, false, false, false, false, false, false, false, false, false, false, false, false, false, false, false, false, false, false, false, false, false, false, false, false, false, false, false, false] (by kernel_rfl) rfl rfl ⟨ds8_ BK200, (ox9 HB hw207 :)⟩ (fun hHeld => ?_); refine with_tabW spec_l9Calls.tab12 spec_l9Calls.bits12 (fun HT_ HW_ => ?_)
       generalize wr.drew = w25 at BK200 HB HR207_8 hx207 hHeld ⊢
       refine pu 0 45 ?_; refine pu 1 46 ?_; refine ta 2 47 ?_; refine pu 3 48 ?_; refine pu 4 49 ?_
       refine on1 5 (some 50) (fun K hK => ?_)
       refine gS Tryz.func70 #[.int .i64 (rd l0_5 x5_2), .int .i64 0, .int .i64 (wrap64 ((l0_4.length : Int) - 1))] ?_
       with_reducible refine (spec_l1In.calls (rd l0_5 x5_2) 0 (wrap64 ((l0_4.length : Int) - 1)) true _ A20.out).mono ?_
       rintro e w' ⟨rfl, ⟨nd, rfl⟩⟩
       refine ⟨_, rfl, ?_⟩
       refine hK.out _ _ ⟨ds8_ BK200, (ox9 HB hw207 :)⟩ (fun hHeld => ?_)
       clear hK K
       refine nm 50 ?_
       refine pu 6 51 ?_; refine pu 7 52 ?_; refine pu 8 53 ?_; refine pu 10 55 ?_; refine ta 9 54 ?_; refine pu 11 56 ?_; refine pu 12 57 ?_; refine ta 13 58 ?_; refine pu 14 59 ?_; refine pu 15 60 ?_; refine pu 16 61 ?_; refine pn 17 62 ?_
       refine pn 18 63 ?_; refine pn 19 64 ?_; refine pn 20 65 ?_; refine pn 21 66 ?_; refine pn 22 67 ?_; refine pn 23 68 ?_; refine pn 24 69 ?_; refine pn 25 70 ?_; refine pn 26 71 ?_; refine pn 27 72 ?_; refine pn 28 73 ?_; refine pn 29 74 ?_
       refine pn 30 75 ?_; refine pn 31 76 ?_; refine pn 32 77 ?_; refine pn 33 78 ?_; refine pn 34 79 ?_; refine pn 35 80 ?_; refine pn 36 81 ?_; refine pn 37 82 ?_; refine pn 38 83 ?_; refine pu 39 84 ?_
       refine done_ (done_of HT_.out (by kernel_rfl)) ?_
       try go_wp2
       go_meet
       case rel => exact ⟨_, (true), rsd, H', ⟨by have := HK1.out; have := HK2.out; first | omega | exact Nat.le_refl _⟩, ⟨by (with_reducible repeat (first | refine blk_drewN ?_ _ | refine blk_drew ?_ | refine blk_alloc ?_ _)); exact BK200.out⟩, ⟨tb HB⟩⟩
      revert H; refine icd (fun c26b0 H => ?_) fun c26b0 H => ?neg
      case neg =>
       have H' := Aside0.mk H
       clear H
       try go_wp2
       replace BK200 := bd BK200
       replace HB := Aside0.mk (below_drew1 HB.out)
       have p207 : 0 ≤ ((rd l0_5 x5_2) : Int) := od
       have q207 : (rd l0_5 x5_2) < (l0_4.length : Int) := od
       obtain ⟨ad207, A207_8, c207_8, e207, hx207, hl207_8, hi207_8⟩ := att134 HR0_4.out (rd l0_5 x5_2) p207 q207
       have hw207 := hx207
       cases e207
       replace hx207 := ox9 HB hx207
       have HR207_8 := Aside0.mk hi207_8
       have HC207_8 := Aside0.mk hl207_8
       clear hi207_8 hl207_8
       replace p207 := eq_true p207
       replace q207 := eq_true q207
       refine start_ (n := 40) (S := fun w' => cS8 gb200 (.slice A0_0 l0_0.length c0_0) (.slice A0_1 l0_1.length c0_1) (.slice A0_2 l0_2.length c0_2) (.int .i64 a0_3) (.slice (some ad207) l0_4.length c0_4) (.slice (some ad205) l0_5.length c0_5) (.slice A0_6 l0_6.length c0_6) (.int .i64 a0_7) w' ∧ eT134 (ad207.add (((rd l0_5 x5_2)).toNat * 9)) (rd_T134 l0_4 (rd l0_5 x5_2)) A207_8 c207_8 w') (ds := []) #[false, false, false, false, false, false, false, false, false, false, false, false, false, false, false, false, false, false, false, false, false, false, false, false, false, false, false, false, false, false, false, false, false, false, false, false, false, false, false, false] (by kernel_rfl) rfl rfl ⟨ds8_ BK200, (ox9 HB hw207 :)⟩ (fun hHeld => ?_); refine with_tabW spec_l9Calls.tab12 spec_l9Calls.bits12 (fun HT_ HW_ => ?_)
       generalize wr.drew = w33 at BK200 HB HR207_8 hx207 hHeld ⊢
       refine pu 0 45 ?_; refine pu 1 46 ?_; refine ta 2 47 ?_; refine pu 3 48 ?_; refine pu 4 49 ?_
       refine on1 5 (some 50) (fun K hK => ?_)
       refine gS Tryz.func70 #[.int .i64 (rd l0_5 x5_2), .int .i64 0, .int .i64 (wrap64 ((l0_4.length : Int) - 1))] ?_
       with_reducible refine (spec_l1In.calls (rd l0_5 x5_2) 0 (wrap64 ((l0_4.length : Int) - 1)) true _ A20.out).mono ?_
       rintro e w' ⟨rfl, ⟨nd, rfl⟩⟩
       refine ⟨_, rfl, ?_⟩
       refine hK.out _ _ ⟨ds8_ BK200, (ox9 HB hw207 :)⟩ (fun hHeld => ?_)
       clear hK K
       refine nm 50 ?_
       refine pu 6 51 ?_; refine pu 7 52 ?_; refine pu 8 53 ?_; refine pu 10 55 ?_; refine ta 9 54 ?_; refine pu 11 56 ?_; refine pu 12 57 ?_; refine ta 13 58 ?_; refine pu 14 59 ?_; refine pu 15 60 ?_; refine pu 16 61 ?_; refine pu 17 62 ?_
       refine pu 18 63 ?_; refine pu 19 64 ?_; refine pn 20 65 ?_; refine pn 21 66 ?_; refine pn 22 67 ?_; refine pn 23 68 ?_; refine pn 24 69 ?_; refine pn 25 70 ?_; refine pn 26 71 ?_; refine pn 27 72 ?_; refine pn 28 73 ?_; refine pn 29 74 ?_
       refine pn 30 75 ?_; refine pn 31 76 ?_; refine pn 32 77 ?_; refine pn 33 78 ?_; refine pn 34 79 ?_; refine pn 35 80 ?_; refine pn 36 81 ?_; refine pn 37 82 ?_; refine pu 38 83 ?_; refine pu 39 84 ?_
       refine done_ (done_of HT_.out (by kernel_rfl)) ?_
       try go_wp2
       go_meet
       case rel => exact ⟨_, (false), rsd, H', ⟨by have := HK1.out; have := HK2.out; first | omega | exact Nat.le_refl _⟩, ⟨by (with_reducible repeat (first | refine blk_drewN ?_ _ | refine blk_drew ?_ | refine blk_alloc ?_ _)); exact BK200.out⟩, ⟨tb HB⟩⟩
      obtain ⟨ji27, hji27⟩ : ∃ j_ : Int, (wrap64 (x5_2 - 1)) = j_ := ⟨_, rfl⟩
      replace H : (if 0 ≤ (ji27) then (if (ji27) < (l0_5.length : Int) then (if 0 ≤ (rd l0_5 (ji27)) then (if (rd l0_5 (ji27)) < (l0_4.length : Int) then (spec_l9Calls.j2 k2 x3_1 x5_2 (rd l0_5 x5_2) (decide (((rd_T134 l0_4 (rd l0_5 (ji27))).f3) > ((rd_T134 l0_4 (rd l0_5 x5_2)).f3))) l0_0 l0_1 l0_2 a0_3 l0_4 l0_5 l0_6 a0_7) else (none)) else (none)) else (none)) else (none)) = some r := by first | (rw [hji27] at H; exact H) | (simp only [hji27] at H ⊢; exact H)
      (try rw [hji27] at A20)
      have hji27w : (IntKind.i64.wrap (x5_2 - 1)) = ji27 := (i64_w _).trans hji27
      obtain ⟨c28b0, H⟩ := itd H
      obtain ⟨c29b0, H⟩ := itd H
      obtain ⟨c30b0, H⟩ := itd H
      obtain ⟨c31b0, H⟩ := itd H
      have H' := Aside0.mk H
      clear H
      try go_wp2
      replace BK200 := bd BK200
      replace HB := Aside0.mk (below_drew1 HB.out)
      have p207 : 0 ≤ ((rd l0_5 x5_2) : Int) := od
      have q207 : (rd l0_5 x5_2) < (l0_4.length : Int) := od
      obtain ⟨ad207, A207_8, c207_8, e207, hx207, hl207_8, hi207_8⟩ := att134 HR0_4.out (rd l0_5 x5_2) p207 q207
      have hw207 := hx207
      cases e207
      replace hx207 := ox9 HB hx207
      have HR207_8 := Aside0.mk hi207_8
      have HC207_8 := Aside0.mk hl207_8
      clear hi207_8 hl207_8
      replace p207 := eq_true p207
      replace q207 := eq_true q207
      have p208 : 0 ≤ ((ji27) : Int) := od
      have q208 : (ji27) < (l0_5.length : Int) := od
      obtain ⟨ad208, e208, hx208_0⟩ := Kd.at_int HR0_5.out (ji27) p208 q208
      have hw208_0 := hx208_0
      obtain rfl : ad205 = ad208 := (by injection e208)
      replace hx208_0 := ox HB hx208_0
      replace p208 := eq_true p208
      replace q208 := eq_true q208
      have p209 : 0 ≤ ((rd l0_5 (ji27)) : Int) := od
      have q209 : (rd l0_5 (ji27)) < (l0_4.length : Int) := od
      obtain ⟨ad209, A209_8, c209_8, e209, hx209, hl209_8, hi209_8⟩ := att134 HR0_4.out (rd l0_5 (ji27)) p209 q209
      have hw209 := hx209
      obtain rfl : ad207 = ad209 := (by injection e209)
      replace hx209 := ox9 HB hx209
      have HR209_8 := Aside0.mk hi209_8
      have HC209_8 := Aside0.mk hl209_8
      clear hi209_8 hl209_8
      replace p209 := eq_true p209
      replace q209 := eq_true q209
      have p210 : 0 ≤ ((rd l0_5 x5_2) : Int) := od
      have q210 : (rd l0_5 x5_2) < (l0_4.length : Int) := od
      obtain ⟨ad210, A210_8, c210_8, e210, hx210, hl210_8, hi210_8⟩ := att134 HR0_4.out (rd l0_5 x5_2) p210 q210
      have hw210 := hx210
      obtain rfl : ad207 = ad210 := (by injection e210)
      replace hx210 := ox9 HB hx210
      have HR210_8 := Aside0.mk hi210_8
      have HC210_8 := Aside0.mk hl210_8
      clear hi210_8 hl210_8
      replace p210 := eq_true p210
      replace q210 := eq_true q210
      have ea_ := Option.some.inj (hx207.2.2.2.2.2.2.2.2.symm.trans hx210.2.2.2.2.2.2.2.2)
      injection ea_ with ea_ en_ ec_
      subst ea_
      subst ec_
      clear en_
      refine start_ (n := 40) (S := fun w' => cS8 gb200 (.slice A0_0 l0_0.length c0_0) (.slice A0_1 l0_1.length c0_1) (.slice A0_2 l0_2.length c0_2) (.int .i64 a0_3) (.slice (some ad207) l0_4.length c0_4) (.slice (some ad205) l0_5.length c0_5) (.slice A0_6 l0_6.length c0_6) (.int .i64 a0_7) w' ∧ eT134 (ad207.add (((rd l0_5 x5_2)).toNat * 9)) (rd_T134 l0_4 (rd l0_5 x5_2)) A207_8 c207_8 w' ∧ w'.cell? (ad205.add ((ji27)).toNat) = some (.int .i64 (rd l0_5 (ji27))) ∧ eT134 (ad207.add (((rd l0_5 (ji27))).toNat * 9)) (rd_T134 l0_4 (rd l0_5 (ji27))) A209_8 c209_8 w' ∧ eT134 (ad207.add (((rd l0_5 x5_2)).toNat * 9)) (rd_T134 l0_4 (rd l0_5 x5_2)) A207_8 c207_8 w') (ds := []) #[false, false, false, false, false, false, false, false, false, false, false, false, false, false, false, false, false, false, false, false, false, false, false, false, false, false, false, false, false, false, false, false, false, false, false, false, false, false, false, false] (by kernel_rfl) rfl rfl ⟨ds8_ BK200, (ox9 HB hw207 :), ((HB.out.cell (World.block_lt_of_cell? w _ hw208_0)).trans hw208_0), (ox9 HB hw209 :), (ox9 HB hw210 :)⟩ (fun hHeld => ?_); refine with_tabW spec_l9Calls.tab12 spec_l9Calls.bits12 (fun HT_ HW_ => ?_)
      generalize wr.drew = w32 at BK200 HB HR207_8 HR209_8 HR210_8 hx207 hx208_0 hx209 hx210 hHeld ⊢
      refine pu 0 45 ?_; refine pu 1 46 ?_; refine ta 2 47 ?_; refine pu 3 48 ?_; refine pu 4 49 ?_
      refine on1 5 (some 50) (fun K hK => ?_)
      refine gS Tryz.func70 #[.int .i64 (rd l0_5 x5_2), .int .i64 0, .int .i64 (wrap64 ((l0_4.length : Int) - 1))] ?_
      with_reducible refine (spec_l1In.calls (rd l0_5 x5_2) 0 (wrap64 ((l0_4.length : Int) - 1)) true _ A20.out).mono ?_
      rintro e w' ⟨rfl, ⟨nd, rfl⟩⟩
      refine ⟨_, rfl, ?_⟩
      refine hK.out _ _ ⟨ds8_ BK200, (ox9 HB hw207 :), ((HB.out.cell (World.block_lt_of_cell? w _ hw208_0)).trans hw208_0), (ox9 HB hw209 :), (ox9 HB hw210 :)⟩ (fun hHeld => ?_)
      clear hK K
      refine nm 50 ?_
      refine pu 6 51 ?_; refine pu 7 52 ?_; refine pu 8 53 ?_; refine pu 10 55 ?_; refine ta 9 54 ?_; refine pu 11 56 ?_; refine pu 12 57 ?_; refine ta 13 58 ?_; refine pu 14 59 ?_; refine pu 15 60 ?_; refine pu 16 61 ?_; refine pu 17 62 ?_
      refine pu 18 63 ?_; refine pu 19 64 ?_; refine pu 20 65 ?_; refine pu 22 67 ?_; refine pu 24 69 ?_; refine pu 25 70 ?_; refine pu 31 76 ?_; refine pu 33 78 ?_; refine ta 21 66 ?_; refine ta 23 68 ?_; refine pu 26 71 ?_; refine ta 27 72 ?_
      refine pu 28 73 ?_; refine pu 29 74 ?_; refine ta 30 75 ?_; refine ta 32 77 ?_; refine pu 34 79 ?_; refine pu 35 80 ?_; refine ta 36 81 ?_; refine pu 37 82 ?_; refine pu 38 83 ?_; refine pu 39 84 ?_
      refine done_ (done_of HT_.out (by kernel_rfl)) ?_
      try go_wp2
      go_meet
      case rel => exact ⟨_, (decide (((rd_T134 l0_4 (rd l0_5 (ji27))).f3) > ((rd_T134 l0_4 (rd l0_5 x5_2)).f3))), (by first | rfl | (simp; done) | (simp only [← hji27] <;> (first | rfl | simp)) | (simp [*]; done)), H', ⟨by have := HK1.out; have := HK2.out; first | omega | exact Nat.le_refl _⟩, ⟨by (with_reducible repeat (first | refine blk_drewN ?_ _ | refine blk_drew ?_ | refine blk_alloc ?_ _)); exact BK200.out⟩, ⟨tb HB⟩⟩
     case rest =>
      clear HC18
      obtain ⟨kq, x84_17, rfl, HA, HJ17, BK200, HB⟩ := hcut
      cases kq with
      | zero => exact absurd HA.out (by simp [spec_l9Calls.j2])
      | succ kj17 =>
       have H := HA.out
       clear HA
       simp only [spec_l9Calls.j2] at H
       cases x84_17
       case true =>
        replace H := ipt H
        obtain rfl := oin H
        go_wp2
        go_ret
        exact ⟨er, tb HB⟩
       replace H := ipf H
       have H' := Aside0.mk H
       clear H
       go_wp2
       go_loopg [7] kj17 (fun kq v7 w' => ∃ (x7_4 : Int), v7 = .int .i64 x7_4 ∧ Aside0 (spec_l9Calls.l2 kq x3_1 x5_2 (rd l0_5 x5_2) x7_4 l0_0 l0_1 l0_2 a0_3 l0_4 l0_5 l0_6 a0_7 = some r) ∧ Aside0 (kq ≤ kj17) ∧ Aside0 (w'.heap[gb200]? = some (.cells #[(.slice A0_0 l0_0.length c0_0), (.slice A0_1 l0_1.length c0_1), (.slice A0_2 l0_2.length c0_2), .int .i64 a0_3, (.slice A0_4 l0_4.length c0_4), (.slice (some ad205) l0_5.length c0_5), (.slice A0_6 l0_6.length c0_6), .int .i64 a0_7] 75 (0, 0))) ∧ Aside0 (Below w.heap.size w w'))
       case atStart => exact ⟨(0), rsd, H', ⟨Nat.le_refl _⟩, ⟨by (with_reducible repeat (first | refine blk_drewN ?_ _ | refine blk_drew ?_ | refine blk_alloc ?_ _)); exact BK200.out⟩, ⟨tb HB⟩⟩
       case round =>
        clear H'
        obtain ⟨x7_4, rfl, HA, HK4, BK200, HB⟩ := hrel
        cases gk with
        | zero => exact absurd HA.out (by simp [spec_l9Calls.l2])
        | succ k4 =>
         have H := HA.out
         clear HA
         simp only [spec_l9Calls.l2] at H
         revert H; refine icd (fun c36b0 H => ?_) fun c36b0 H => ?neg
         case neg =>
          have H' := Aside0.mk H
          clear H
          go_wp2
          go_roundg k4
          case measure => have := HK1.out; have := HK2.out; have := HJ17.out; have := HK4.out; omega
          case rel => exact ⟨(wrap64 (x5_2 + 1)), rsd, H', ⟨by have := HK1.out; have := HK2.out; have := HJ17.out; have := HK4.out; omega⟩, ⟨by (with_reducible repeat (first | refine blk_drewN ?_ _ | refine blk_drew ?_ | refine blk_alloc ?_ _)); exact BK200.out⟩, ⟨tb HB⟩⟩
         obtain ⟨c37b0, H⟩ := itd H
         obtain ⟨c38b0, H⟩ := itd H
         by_cases c39 : (rd l0_5 x7_4) = (rd l0_5 x5_2)
         case pos =>
          rw [if_pos c39] at H
          have c39b0 : ((rd l0_5 x7_4) == (rd l0_5 x5_2)) = true := beq_iff_eq.mpr c39
          have c39b1 : ((rd l0_5 x7_4) != (rd l0_5 x5_2)) = false := bne_eq_false_iff_eq.mpr c39
          clear c39
          obtain rfl := oin H
          have hz40 := cs8_ BK200
          have p211 : 0 ≤ (x7_4 : Int) := od
          have q211 : x7_4 < (l0_5.length : Int) := od
          obtain ⟨ad211, e211, hx211_0⟩ := Kd.at_int HR0_5.out x7_4 p211 q211
          obtain rfl : ad205 = ad211 := (by injection e211)
          replace hx211_0 := ox HB hx211_0
          replace p211 := eq_true p211
          replace q211 := eq_true q211
          go_wp2
          go_ret
          exact ⟨er, tb HB⟩
         rw [if_neg c39] at H
         have c39b0 : ((rd l0_5 x7_4) == (rd l0_5 x5_2)) = false := beq_eq_false_iff_ne.mpr c39
         have c39b1 : ((rd l0_5 x7_4) != (rd l0_5 x5_2)) = true := bne_iff_ne.mpr c39
         have H' := Aside0.mk H
         clear H
         have hz41 := cs8_ BK200
         have p211 : 0 ≤ (x7_4 : Int) := od
         have q211 : x7_4 < (l0_5.length : Int) := od
         obtain ⟨ad211, e211, hx211_0⟩ := Kd.at_int HR0_5.out x7_4 p211 q211
         obtain rfl : ad205 = ad211 := (by injection e211)
         replace hx211_0 := ox HB hx211_0
         replace p211 := eq_true p211
         replace q211 := eq_true q211
         go_wp2
         go_roundg k4
         case measure => have := HK1.out; have := HK2.out; have := HJ17.out; have := HK4.out; omega
         case rel => exact ⟨(wrap64 (x7_4 + 1)), rsd, H', ⟨by have := HK1.out; have := HK2.out; have := HJ17.out; have := HK4.out; omega⟩, ⟨by (with_reducible repeat (first | refine blk_drewN ?_ _ | refine blk_drew ?_ | refine blk_alloc ?_ _)); exact BK200.out⟩, ⟨tb HB⟩⟩
end Go.Proofs.YtopikhjcbcpiaaaGreat.Q
section
namespace Go.Proofs.YtopikhjcbcpiaaaGreat.Q
open Go.RowKit Go.Proofs.YtopikhjcbcpiaaaGreatW.PrintWords Go.Proofs.YtopikhjcbcpiaaaGreatW.PrintLast Go.Proofs.YtopikhjcbcpiaaaGreatW.PrintMore
def anyO {α : Type} (p : α → Option Bool) : List α → Option Bool
  | [] => some false
  | x :: xs => (p x).bind fun b => if b = true then some true else anyO p xs
theorem anyO.leo {α : Type} {p q : α → Option Bool} (h : ∀ x, LeO (p x) (q x)) : ∀ l, LeO (anyO p l) (anyO q l)
  | [] => LeO.refl _
  | x :: xs => LeO.bind (h x) (fun _ => LeO.ite (LeO.refl _) (anyO.leo h xs))
theorem anyO.cons {α : Type} {p : α → Option Bool} {l : List α} {j : Nat} {z : α} {r : Bool} (h : anyO p (l.drop j) = some r) (hj : j < l.length) :
    ∃ b, p (l.getD j z) = some b ∧ (b = true → r = true) ∧ (b = false → anyO p (l.drop (j + 1)) = some r) := by
  have e : l.drop j = l.getD j z :: l.drop (j + 1) := by
    rw [List.drop_eq_getElem_cons hj]
    simp [List.getD_eq_getElem?_getD, List.getElem?_eq_getElem hj]
  rw [e] at h
  obtain ⟨b, hb, h2⟩ := Option.bind_eq_some_iff.mp h
  refine ⟨b, hb, ?_, ?_⟩
  · rintro rfl
    simpa using h2.symm
  · rintro rfl
    simpa using h2
theorem anyO.nil {α : Type} {p : α → Option Bool} {l : List α} {j : Nat} {r : Bool} (h : anyO p (l.drop j) = some r) (hj : l.length ≤ j) : r = false := by
  rw [List.drop_eq_nil_of_le hj] at h
  simpa [anyO] using h.symm
def impl_MemOk_1_any.f (k : Nat) (l0 : List S52) : Option Bool := anyO (fun x : S52 => impl_MemOk_1.f k x.f0 x.f1 x.f2 x.f3.f0 x.f3.f1) l0
theorem impl_MemOk_1_any.mono : ∀ l k, LeO (impl_MemOk_1_any.f k l) (impl_MemOk_1_any.f (k + 1) l) := fun l k => anyO.leo (fun _ => impl_MemOk_1.mono _ _ _ _ _ k) l
set_option maxHeartbeats 4000000 in
set_option maxRecDepth 100000 in
theorem impl_MemOk_1_idx (k : Nat) (A0 : Option Addr) (c0 : Nat) (l0 : List S52) (r : Bool) (w : World) (hr0 : Kd.C k52 w A0 l0.length l0) (h : impl_MemOk_1_any.f k l0 = some r) :
    Calls Tryz.prog 134 #[.slice A0 l0.length c0, .func (.func 77) #[] #[]] w fun e w' => ∃ n : Int, e = .returned (.int .i64 n) ∧ decide (n ≥ 0) = r ∧ Below w.heap.size w w' := by
  have huE := Tryz.underlying52
  have HR0 := Aside0.mk hr0
  have HM : l0.length ≤ 9223372036854775807 := hr0.2.1
  clear hr0
  have H0 := Aside0.mk h
  clear h
  have HW := Aside0.mk (Below.refl w.heap.size w)
  go_enter Tryz.func134, Tryz.ntmps134
  go_wp2
  go_loopg [5, 8] l0.length (fun gg _ s8 wr => ∃ kk : Nat, kk ≤ l0.length ∧ Aside0 (l0.length - kk ≤ gg) ∧ s8 = .int .i64 kk ∧ Aside0 (anyO (fun x : S52 => impl_MemOk_1.f k x.f0 x.f1 x.f2 x.f3.f0 x.f3.f1) (l0.drop kk) = some r) ∧ Aside0 (Below w.heap.size w wr))
  case atStart => exact ⟨0, Nat.zero_le _, ⟨by omega⟩, rfl, H0, HW⟩
  case round =>
    obtain ⟨kk, hkk, HF, rfl, HA, HB⟩ := hrel
    clear H0 HW
    by_cases hlt : kk < l0.length
    · have hltz : (kk : Int) < (l0.length : Int) := by omega
      obtain ⟨ad, A2, c2, A4, c4, e, hx0, hx1, hx2, hx3, hx4, hl2, hi2, hl4, hi4⟩ := at_T52 HR0.out (kk : Int) (by omega) hltz
      cases e
      replace hx0 := (HB.out.cell (World.block_lt_of_cell? w _ hx0)).trans hx0
      replace hx1 := (HB.out.cell (World.block_lt_of_cell? w _ hx1)).trans hx1
      replace hx2 := (HB.out.cell (World.block_lt_of_cell? w _ hx2)).trans hx2
      replace hx3 := (HB.out.cell (World.block_lt_of_cell? w _ hx3)).trans hx3
      replace hx4 := (HB.out.cell (World.block_lt_of_cell? w _ hx4)).trans hx4
      replace hi2 := Kd.C_below hi2 HB.out
      replace hi4 := Kd.C_below hi4 HB.out
      simp only [Int.toNat_natCast] at hx0 hx1 hx2 hx3 hx4
      have HI2 := Aside0.mk hi2
      have HL2 := Aside0.mk hl2
      clear hi2 hl2
      have HI4 := Aside0.mk hi4
      have HL4 := Aside0.mk hl4
      clear hi4 hl4
      obtain ⟨b, hb, ht, hf⟩ := anyO.cons (z := z52) HA.out hlt
      have hb := Aside0.mk (show impl_MemOk_1.f k (rd_T52 l0 (kk : Int)).f0 (rd_T52 l0 (kk : Int)).f1 (rd_T52 l0 (kk : Int)).f2 (rd_T52 l0 (kk : Int)).f3.f0 (rd_T52 l0 (kk : Int)).f3.f1 = some b from hb)
      replace ht := Aside0.mk ht
      replace hf := Aside0.mk hf
      clear HA
      cases b with
      | true =>
        have HT := Aside0.mk (ht.out rfl)
        clear ht hf
        go_wp2_with (go_at_call 77; (with_reducible refine (impl_MemOk_1.calls k (rd_T52 l0 (kk : Int)).f0 (rd_T52 l0 (kk : Int)).f1 _ _ (rd_T52 l0 (kk : Int)).f2 (rd_T52 l0 (kk : Int)).f3.f0 _ _ (rd_T52 l0 (kk : Int)).f3.f1 _ _ HI2.out HL2.out HI4.out HL4.out hb.out).mono ?_); rintro e w' ⟨rfl, hb'⟩; have HB' := Aside0.mk (below_step HB.out hb'); clear hb')
        go_ret
        exact ⟨_, rfl, by rw [HT.out]; simp, HB'.out⟩
      | false =>
        have HA := Aside0.mk (hf.out rfl)
        clear ht hf
        go_wp2_with (go_at_call 77; (with_reducible refine (impl_MemOk_1.calls k (rd_T52 l0 (kk : Int)).f0 (rd_T52 l0 (kk : Int)).f1 _ _ (rd_T52 l0 (kk : Int)).f2 (rd_T52 l0 (kk : Int)).f3.f0 _ _ (rd_T52 l0 (kk : Int)).f3.f1 _ _ HI2.out HL2.out HI4.out HL4.out hb.out).mono ?_); rintro e w' ⟨rfl, hb'⟩; have HB' := Aside0.mk (below_step HB.out hb'); clear hb')
        go_roundg (l0.length - (kk + 1))
        case measure => have := HF.out; omega
        case rel => exact ⟨kk + 1, by omega, ⟨by omega⟩, by go_num, HA, HB'⟩
    · have hltz : ¬ (kk : Int) < (l0.length : Int) := by omega
      have hr : r = false := anyO.nil HA.out (by omega)
      subst hr
      go_wp2
      go_ret
      exact ⟨_, rfl, by decide, HB.out⟩
set_option maxHeartbeats 2000000 in
theorem impl_MemOk_1_any.calls (k : Nat) (A0 : Option Addr) (c0 : Nat) (l0 : List S52) (r : Bool) (w : World) (hr0 : Kd.C k52 w A0 l0.length l0) (_hc0 : l0.length ≤ c0) (h : impl_MemOk_1_any.f k l0 = some r) :
    Calls Tryz.prog 76 #[.slice A0 l0.length c0, .func (.func 77) #[] #[]] w fun e w' => e = .returned (.bool r) ∧ Below w.heap.size w w' := by
  have HC := Aside0.mk (impl_MemOk_1_idx k A0 c0 l0 r w hr0 h)
  clear hr0 h
  go_enter Tryz.func76, Tryz.ntmps76
  go_wp2_with (go_at_call 134; refine HC.out.mono ?_; rintro e w' ⟨n, rfl, hn, hb⟩; have HN := Aside0.mk hn; have HB := Aside0.mk hb; clear hn hb)
  go_ret
  exact ⟨by rw [← HN.out]; rfl, HB.out⟩
def impl_ThreadOk_1_any.f (k : Nat) (l0 : List S132) : Option Bool := anyO (fun x : S132 => impl_ThreadOk_1.f k x.f0 x.f1 x.f2) l0
theorem impl_ThreadOk_1_any.mono : ∀ l k, LeO (impl_ThreadOk_1_any.f k l) (impl_ThreadOk_1_any.f (k + 1) l) := fun l k => anyO.leo (fun _ => impl_ThreadOk_1.mono _ _ _ k) l
set_option maxHeartbeats 4000000 in
set_option maxRecDepth 100000 in
theorem impl_ThreadOk_1_idx (k : Nat) (A0 : Option Addr) (c0 : Nat) (l0 : List S132) (r : Bool) (w : World) (hr0 : Kd.C k132 w A0 l0.length l0) (h : impl_ThreadOk_1_any.f k l0 = some r) :
    Calls Tryz.prog 161 #[.slice A0 l0.length c0, .func (.func 111) #[] #[]] w fun e w' => ∃ n : Int, e = .returned (.int .i64 n) ∧ decide (n ≥ 0) = r ∧ Below w.heap.size w w' := by
  have huE := Tryz.underlying132
  have HR0 := Aside0.mk hr0
  have HM : l0.length ≤ 9223372036854775807 := hr0.2.1
  clear hr0
  have H0 := Aside0.mk h
  clear h
  have HW := Aside0.mk (Below.refl w.heap.size w)
  go_enter Tryz.func161, Tryz.ntmps161
  go_wp2
  go_loopg [5, 8] l0.length (fun gg _ s8 wr => ∃ kk : Nat, kk ≤ l0.length ∧ Aside0 (l0.length - kk ≤ gg) ∧ s8 = .int .i64 kk ∧ Aside0 (anyO (fun x : S132 => impl_ThreadOk_1.f k x.f0 x.f1 x.f2) (l0.drop kk) = some r) ∧ Aside0 (Below w.heap.size w wr))
  case atStart => exact ⟨0, Nat.zero_le _, ⟨by omega⟩, rfl, H0, HW⟩
  case round =>
    obtain ⟨kk, hkk, HF, rfl, HA, HB⟩ := hrel
    clear H0 HW
    by_cases hlt : kk < l0.length
    · have hltz : (kk : Int) < (l0.length : Int) := by omega
      obtain ⟨ad, e, hx0, hx1, hx2⟩ := at_T132 HR0.out (kk : Int) (by omega) hltz
      cases e
      replace hx0 := (HB.out.cell (World.block_lt_of_cell? w _ hx0)).trans hx0
      replace hx1 := (HB.out.cell (World.block_lt_of_cell? w _ hx1)).trans hx1
      replace hx2 := (HB.out.cell (World.block_lt_of_cell? w _ hx2)).trans hx2
      simp only [Int.toNat_natCast] at hx0 hx1 hx2
      obtain ⟨b, hb, ht, hf⟩ := anyO.cons (z := z132) HA.out hlt
      have hb := Aside0.mk (show impl_ThreadOk_1.f k (rd_T132 l0 (kk : Int)).f0 (rd_T132 l0 (kk : Int)).f1 (rd_T132 l0 (kk : Int)).f2 = some b from hb)
      replace ht := Aside0.mk ht
      replace hf := Aside0.mk hf
      clear HA
      cases b with
      | true =>
        have HT := Aside0.mk (ht.out rfl)
        clear ht hf
        go_wp2_with (go_at_call 111; (with_reducible refine (impl_ThreadOk_1.calls k (rd_T132 l0 (kk : Int)).f0 (rd_T132 l0 (kk : Int)).f1 (rd_T132 l0 (kk : Int)).f2 _ _  hb.out).mono ?_); rintro e w' ⟨rfl, hb'⟩; have HB' := Aside0.mk (below_step HB.out hb'); clear hb')
        go_ret
        exact ⟨_, rfl, by rw [HT.out]; simp, HB'.out⟩
      | false =>
        have HA := Aside0.mk (hf.out rfl)
        clear ht hf
        go_wp2_with (go_at_call 111; (with_reducible refine (impl_ThreadOk_1.calls k (rd_T132 l0 (kk : Int)).f0 (rd_T132 l0 (kk : Int)).f1 (rd_T132 l0 (kk : Int)).f2 _ _  hb.out).mono ?_); rintro e w' ⟨rfl, hb'⟩; have HB' := Aside0.mk (below_step HB.out hb'); clear hb')
        go_roundg (l0.length - (kk + 1))
        case measure => have := HF.out; omega
        case rel => exact ⟨kk + 1, by omega, ⟨by omega⟩, by go_num, HA, HB'⟩
    · have hltz : ¬ (kk : Int) < (l0.length : Int) := by omega
      have hr : r = false := anyO.nil HA.out (by omega)
      subst hr
      go_wp2
      go_ret
      exact ⟨_, rfl, by decide, HB.out⟩
set_option maxHeartbeats 2000000 in
theorem impl_ThreadOk_1_any.calls (k : Nat) (A0 : Option Addr) (c0 : Nat) (l0 : List S132) (r : Bool) (w : World) (hr0 : Kd.C k132 w A0 l0.length l0) (_hc0 : l0.length ≤ c0) (h : impl_ThreadOk_1_any.f k l0 = some r) :
    Calls Tryz.prog 110 #[.slice A0 l0.length c0, .func (.func 111) #[] #[]] w fun e w' => e = .returned (.bool r) ∧ Below w.heap.size w w' := by
  have HC := Aside0.mk (impl_ThreadOk_1_idx k A0 c0 l0 r w hr0 h)
  clear hr0 h
  go_enter Tryz.func110, Tryz.ntmps110
  go_wp2_with (go_at_call 161; refine HC.out.mono ?_; rintro e w' ⟨n, rfl, hn, hb⟩; have HN := Aside0.mk hn; have HB := Aside0.mk hb; clear hn hb)
  go_ret
  exact ⟨by rw [← HN.out]; rfl, HB.out⟩
def impl_ThreadOk_2_any.f (l0 : List S145) : Option Bool := anyO (fun x : S145 => impl_ThreadOk_2.f x.f0 x.f1) l0
set_option maxHeartbeats 4000000 in
set_option maxRecDepth 100000 in
theorem impl_ThreadOk_2_idx (A0 : Option Addr) (c0 : Nat) (l0 : List S145) (r : Bool) (w : World) (hr0 : Kd.C k145 w A0 l0.length l0) (h : impl_ThreadOk_2_any.f l0 = some r) :
    Calls Tryz.prog 162 #[.slice A0 l0.length c0, .func (.func 113) #[] #[]] w fun e w' => ∃ n : Int, e = .returned (.int .i64 n) ∧ decide (n ≥ 0) = r ∧ Below w.heap.size w w' := by
  have huE := Tryz.underlying145
  have HR0 := Aside0.mk hr0
  have HM : l0.length ≤ 9223372036854775807 := hr0.2.1
  clear hr0
  have H0 := Aside0.mk h
  clear h
  have HW := Aside0.mk (Below.refl w.heap.size w)
  go_enter Tryz.func162, Tryz.ntmps162
  go_wp2
  go_loopg [5, 8] l0.length (fun gg _ s8 wr => ∃ kk : Nat, kk ≤ l0.length ∧ Aside0 (l0.length - kk ≤ gg) ∧ s8 = .int .i64 kk ∧ Aside0 (anyO (fun x : S145 => impl_ThreadOk_2.f x.f0 x.f1) (l0.drop kk) = some r) ∧ Aside0 (Below w.heap.size w wr))
  case atStart => exact ⟨0, Nat.zero_le _, ⟨by omega⟩, rfl, H0, HW⟩
  case round =>
    obtain ⟨kk, hkk, HF, rfl, HA, HB⟩ := hrel
    clear H0 HW
    by_cases hlt : kk < l0.length
    · have hltz : (kk : Int) < (l0.length : Int) := by omega
      obtain ⟨ad, e, hx0, hx1⟩ := at_T145 HR0.out (kk : Int) (by omega) hltz
      cases e
      replace hx0 := (HB.out.cell (World.block_lt_of_cell? w _ hx0)).trans hx0
      replace hx1 := (HB.out.cell (World.block_lt_of_cell? w _ hx1)).trans hx1
      simp only [Int.toNat_natCast] at hx0 hx1
      obtain ⟨b, hb, ht, hf⟩ := anyO.cons (z := z145) HA.out hlt
      have hb := Aside0.mk (show impl_ThreadOk_2.f (rd_T145 l0 (kk : Int)).f0 (rd_T145 l0 (kk : Int)).f1 = some b from hb)
      replace ht := Aside0.mk ht
      replace hf := Aside0.mk hf
      clear HA
      cases b with
      | true =>
        have HT := Aside0.mk (ht.out rfl)
        clear ht hf
        go_wp2_with (go_at_call 113; (with_reducible refine (impl_ThreadOk_2.calls (rd_T145 l0 (kk : Int)).f0 (rd_T145 l0 (kk : Int)).f1 _ _  hb.out).mono ?_); rintro e w' ⟨rfl, hb'⟩; have HB' := Aside0.mk (below_step HB.out hb'); clear hb')
        go_ret
        exact ⟨_, rfl, by rw [HT.out]; simp, HB'.out⟩
      | false =>
        have HA := Aside0.mk (hf.out rfl)
        clear ht hf
        go_wp2_with (go_at_call 113; (with_reducible refine (impl_ThreadOk_2.calls (rd_T145 l0 (kk : Int)).f0 (rd_T145 l0 (kk : Int)).f1 _ _  hb.out).mono ?_); rintro e w' ⟨rfl, hb'⟩; have HB' := Aside0.mk (below_step HB.out hb'); clear hb')
        go_roundg (l0.length - (kk + 1))
        case measure => have := HF.out; omega
        case rel => exact ⟨kk + 1, by omega, ⟨by omega⟩, by go_num, HA, HB'⟩
    · have hltz : ¬ (kk : Int) < (l0.length : Int) := by omega
      have hr : r = false := anyO.nil HA.out (by omega)
      subst hr
      go_wp2
      go_ret
      exact ⟨_, rfl, by decide, HB.out⟩
set_option maxHeartbeats 2000000 in
theorem impl_ThreadOk_2_any.calls (A0 : Option Addr) (c0 : Nat) (l0 : List S145) (r : Bool) (w : World) (hr0 : Kd.C k145 w A0 l0.length l0) (_hc0 : l0.length ≤ c0) (h : impl_ThreadOk_2_any.f l0 = some r) :
    Calls Tryz.prog 112 #[.slice A0 l0.length c0, .func (.func 113) #[] #[]] w fun e w' => e = .returned (.bool r) ∧ Below w.heap.size w w' := by
  have HC := Aside0.mk (impl_ThreadOk_2_idx A0 c0 l0 r w hr0 h)
  clear hr0 h
  go_enter Tryz.func112, Tryz.ntmps112
  go_wp2_with (go_at_call 162; refine HC.out.mono ?_; rintro e w' ⟨n, rfl, hn, hb⟩; have HN := Aside0.mk hn; have HB := Aside0.mk hb; clear hn hb)
  go_ret
  exact ⟨by rw [← HN.out]; rfl, HB.out⟩
def impl_ThreadOk_3_any.f (l0 : List S42) (a1 : Int) : Option Bool := anyO (fun x : S42 => impl_ThreadOk_3.f x.f0 x.f1 x.f2 x.f3 a1) l0
set_option maxHeartbeats 4000000 in
set_option maxRecDepth 100000 in
theorem impl_ThreadOk_3_idx (A0 : Option Addr) (c0 : Nat) (l0 : List S42) (g1 : Nat) (a1 : Int) (r : Bool) (w : World) (hr0 : Kd.C k42 w A0 l0.length l0) (hg1 : w.heap[g1]? = some (.cells #[.int .i64 a1] 3 (0, 0))) (h : impl_ThreadOk_3_any.f l0 a1 = some r) :
    Calls Tryz.prog 163 #[.slice A0 l0.length c0, .func (.func 117) #[] #[.pointer (some ⟨g1, 0, none⟩)]] w fun e w' => ∃ n : Int, e = .returned (.int .i64 n) ∧ decide (n ≥ 0) = r ∧ Below w.heap.size w w' := by
  have huE := Tryz.underlying42
  have HR0 := Aside0.mk hr0
  have HM : l0.length ≤ 9223372036854775807 := hr0.2.1
  have HG : ∀ W, Below w.heap.size w W → W.heap[g1]? = some (.cells #[.int .i64 a1] 3 (0, 0)) := fun W hW => blk_below hg1 hW
  clear hg1
  clear hr0
  have H0 := Aside0.mk h
  clear h
  have HW := Aside0.mk (Below.refl w.heap.size w)
  go_enter Tryz.func163, Tryz.ntmps163
  go_wp2
  go_loopg [5, 8] l0.length (fun gg _ s8 wr => ∃ kk : Nat, kk ≤ l0.length ∧ Aside0 (l0.length - kk ≤ gg) ∧ s8 = .int .i64 kk ∧ Aside0 (anyO (fun x : S42 => impl_ThreadOk_3.f x.f0 x.f1 x.f2 x.f3 a1) (l0.drop kk) = some r) ∧ Aside0 (Below w.heap.size w wr))
  case atStart => exact ⟨0, Nat.zero_le _, ⟨by omega⟩, rfl, H0, HW⟩
  case round =>
    obtain ⟨kk, hkk, HF, rfl, HA, HB⟩ := hrel
    clear H0 HW
    by_cases hlt : kk < l0.length
    · have hltz : (kk : Int) < (l0.length : Int) := by omega
      obtain ⟨ad, e, hx0, hx1, hx2, hx3⟩ := at_T42 HR0.out (kk : Int) (by omega) hltz
      cases e
      replace hx0 := (HB.out.cell (World.block_lt_of_cell? w _ hx0)).trans hx0
      replace hx1 := (HB.out.cell (World.block_lt_of_cell? w _ hx1)).trans hx1
      replace hx2 := (HB.out.cell (World.block_lt_of_cell? w _ hx2)).trans hx2
      replace hx3 := (HB.out.cell (World.block_lt_of_cell? w _ hx3)).trans hx3
      simp only [Int.toNat_natCast] at hx0 hx1 hx2 hx3
      obtain ⟨b, hb, ht, hf⟩ := anyO.cons (z := z42) HA.out hlt
      have hb := Aside0.mk (show impl_ThreadOk_3.f (rd_T42 l0 (kk : Int)).f0 (rd_T42 l0 (kk : Int)).f1 (rd_T42 l0 (kk : Int)).f2 (rd_T42 l0 (kk : Int)).f3 a1 = some b from hb)
      replace ht := Aside0.mk ht
      replace hf := Aside0.mk hf
      clear HA
      cases b with
      | true =>
        have HT := Aside0.mk (ht.out rfl)
        clear ht hf
        go_wp2_with (go_at_call 117; (with_reducible refine (impl_ThreadOk_3_test g1 (rd_T42 l0 (kk : Int)).f0 (rd_T42 l0 (kk : Int)).f1 (rd_T42 l0 (kk : Int)).f2 (rd_T42 l0 (kk : Int)).f3 a1 _ _ (HG _ HB.out) hb.out).mono ?_); rintro e w' ⟨rfl, hb'⟩; have HB' := Aside0.mk (below_step HB.out hb'); clear hb')
        go_ret
        exact ⟨_, rfl, by rw [HT.out]; simp, HB'.out⟩
      | false =>
        have HA := Aside0.mk (hf.out rfl)
        clear ht hf
        go_wp2_with (go_at_call 117; (with_reducible refine (impl_ThreadOk_3_test g1 (rd_T42 l0 (kk : Int)).f0 (rd_T42 l0 (kk : Int)).f1 (rd_T42 l0 (kk : Int)).f2 (rd_T42 l0 (kk : Int)).f3 a1 _ _ (HG _ HB.out) hb.out).mono ?_); rintro e w' ⟨rfl, hb'⟩; have HB' := Aside0.mk (below_step HB.out hb'); clear hb')
        go_roundg (l0.length - (kk + 1))
        case measure => have := HF.out; omega
        case rel => exact ⟨kk + 1, by omega, ⟨by omega⟩, by go_num, HA, HB'⟩
    · have hltz : ¬ (kk : Int) < (l0.length : Int) := by omega
      have hr : r = false := anyO.nil HA.out (by omega)
      subst hr
      go_wp2
      go_ret
      exact ⟨_, rfl, by decide, HB.out⟩
set_option maxHeartbeats 2000000 in
theorem impl_ThreadOk_3_any.calls (A0 : Option Addr) (c0 : Nat) (l0 : List S42) (g1 : Nat) (a1 : Int) (r : Bool) (w : World) (hr0 : Kd.C k42 w A0 l0.length l0) (_hc0 : l0.length ≤ c0) (hg1 : w.heap[g1]? = some (.cells #[.int .i64 a1] 3 (0, 0))) (h : impl_ThreadOk_3_any.f l0 a1 = some r) :
    Calls Tryz.prog 116 #[.slice A0 l0.length c0, .func (.func 117) #[] #[.pointer (some ⟨g1, 0, none⟩)]] w fun e w' => e = .returned (.bool r) ∧ Below w.heap.size w w' := by
  have HC := Aside0.mk (impl_ThreadOk_3_idx A0 c0 l0 g1 a1 r w hr0 hg1 h)
  clear hr0 hg1 h
  go_enter Tryz.func116, Tryz.ntmps116
  go_wp2_with (go_at_call 163; refine HC.out.mono ?_; rintro e w' ⟨n, rfl, hn, hb⟩; have HN := Aside0.mk hn; have HB := Aside0.mk hb; clear hn hb)
  go_ret
  exact ⟨by rw [← HN.out]; rfl, HB.out⟩
end Go.Proofs.YtopikhjcbcpiaaaGreat.Q
end
section
namespace Go.Proofs.YtopikhjcbcpiaaaGreat.Q
open Go.RowKit Go.Proofs.YtopikhjcbcpiaaaGreatW.PrintWords Go.Proofs.YtopikhjcbcpiaaaGreatX
theorem rd_nat (l : List Int) (i : Nat) : rd l (i : Int) = l.getD i 0 := by simp [rd]
theorem getD_at {l : List Int} {i : Nat} (h : i < l.length) : l.getD i 0 = l[i] := by simp [List.getD_eq_getElem?_getD, List.getElem?_eq_getElem h]
def idxFrom (v : Int) : List Int → Nat → Int
  | [], _ => -1
  | x :: xs, i => if x = v then (i : Int) else idxFrom v xs (i + 1)
def idxI (l : List Int) (v : Int) : Int := idxFrom v l 0
theorem idxFrom_at (v : Int) (l : List Int) (i : Nat) (h : i < l.length) : idxFrom v (l.drop i) i = if l.getD i 0 = v then (i : Int) else idxFrom v (l.drop (i + 1)) (i + 1) := by
  rw [List.drop_eq_getElem_cons h, idxFrom, getD_at h]
theorem ev_spec_KeyOf (l : List Int) (st v : Int) (hl : l.length ≤ 1048576) : Ev (fun k => spec_KeyOf.f k l st v) (idxI l v) := by
  refine ev_to (ev_down (g := fun k i => spec_KeyOf.l0 k v i l st) (R := fun i => idxFrom v (l.drop i) i) (n := l.length) (fun i hi h => ?_) 0 (by omega)) (by simp [idxI])
  by_cases hlt : i < l.length
  · rw [idxFrom_at v l i hlt]
    by_cases e : l.getD i 0 = v
    · rw [if_pos e]
      refine ev_succ (fun k => ?_)
      simp only [spec_KeyOf.l0, rd_nat]
      rw [if_pos (by omega), if_pos (by omega), if_pos e]
    · rw [if_neg e]
      refine Ev.step (fun k => ?_) (h hlt)
      simp only [spec_KeyOf.l0, rd_nat]
      rw [if_pos (by omega), if_pos (by omega), if_neg e, wrap_succ hlt (by omega)]
  · obtain rfl : i = l.length := by omega
    refine ev_succ (fun k => ?_)
    simp only [spec_KeyOf.l0]
    rw [if_neg (by omega)]
    simp [idxFrom]
theorem ev_Index (l : List Int) (v : Int) (hl : l.length ≤ 1048576) : Ev (fun k => slices_Index_int_int.f k l v) (idxI l v) := by
  refine ev_to (ev_down (g := fun k i => slices_Index_int_int.l0 k l v (l.length : Int) i) (R := fun i => idxFrom v (l.drop i) i) (n := l.length) (fun i hi h => ?_) 0 (by omega)) (by simp [idxI])
  by_cases hlt : i < l.length
  · rw [idxFrom_at v l i hlt]
    by_cases e : l.getD i 0 = v
    · rw [if_pos e]
      refine ev_succ (fun k => ?_)
      simp only [slices_Index_int_int.l0, rd_nat]
      rw [if_pos (by omega), if_pos (by omega), if_pos (by omega), if_pos e.symm]
    · rw [if_neg e]
      refine Ev.step (fun k => ?_) (h hlt)
      simp only [slices_Index_int_int.l0, rd_nat]
      rw [if_pos (by omega), if_pos (by omega), if_pos (by omega), if_neg (Ne.symm e), wrap_succ hlt (by omega)]
  · obtain rfl : i = l.length := by omega
    refine ev_succ (fun k => ?_)
    simp only [slices_Index_int_int.l0]
    rw [if_neg (by omega)]
    simp [idxFrom]
theorem ev_Contains (l : List Int) (v : Int) (hl : l.length ≤ 1048576) : Ev (fun k => slices_Contains_int_int.f k l v) (decide (idxI l v ≥ 0)) :=
  Ev.bind (f := fun _ t => some (decide (t ≥ 0))) (ev_Index l v hl) (Ev.now _)
theorem idxFrom_bd (v : Int) : ∀ (l : List Int) (i : Nat), idxFrom v l i = -1 ∨ ((i : Int) ≤ idxFrom v l i ∧ idxFrom v l i < i + l.length)
  | [], i => .inl rfl
  | x :: xs, i => by
    unfold idxFrom
    by_cases e : x = v
    · rw [if_pos e]; right; simp; omega
    · rw [if_neg e]
      rcases idxFrom_bd v xs (i + 1) with h | ⟨h1, h2⟩
      · exact .inl h
      · right; simp only [List.length_cons]; omega
theorem idxFrom_mem (v : Int) : ∀ (l : List Int) (i : Nat), idxFrom v l i = -1 ↔ v ∉ l
  | [], i => by simp [idxFrom]
  | x :: xs, i => by
    unfold idxFrom
    by_cases e : x = v
    · rw [if_pos e]; simp [e]
    · rw [if_neg e, idxFrom_mem v xs (i + 1)]; simp [Ne.symm e]
theorem idxFrom_append (v : Int) : ∀ (l m : List Int) (i : Nat), v ∉ l → idxFrom v (l ++ m) i = idxFrom v m (i + l.length)
  | [], m, i, _ => by simp
  | x :: xs, m, i, h => by
    simp only [List.mem_cons, not_or] at h
    show (if x = v then (i : Int) else idxFrom v (xs ++ m) (i + 1)) = _
    rw [if_neg (Ne.symm h.1), idxFrom_append v xs m (i + 1) h.2]
    simp only [List.length_cons]
    congr 1
    omega
theorem idx_first (l : List Int) (i : Nat) (h : i < l.length) : idxI l (l.getD i 0) = (i : Int) ↔ ¬ idxI (l.take i) (l.getD i 0) ≥ 0 := by
  have hv := getD_at h
  constructor
  · intro he hc
    rcases idxFrom_bd (l.getD i 0) (l.take i) 0 with h1 | ⟨h1, h2⟩
    · unfold idxI at hc; omega
    · have hm : l.getD i 0 ∈ l.take i := by
        by_cases hm : l.getD i 0 ∈ l.take i
        · exact hm
        · have := (idxFrom_mem _ _ 0).2 hm
          unfold idxI at hc
          omega
      have key : ∀ (v : Int) (a b : List Int) (j : Nat), v ∈ a → idxFrom v (a ++ b) j = idxFrom v a j := by
        intro v a
        induction a with
        | nil => intro b j hm; cases hm
        | cons x xs ih =>
          intro b j hm
          show (if x = v then (j : Int) else idxFrom v (xs ++ b) (j + 1)) = (if x = v then (j : Int) else idxFrom v xs (j + 1))
          by_cases e : x = v
          · rw [if_pos e, if_pos e]
          · rw [if_neg e, if_neg e]
            refine ih b (j + 1) ?_
            rcases List.mem_cons.1 hm with h' | h'
            · exact absurd h'.symm e
            · exact h'
      unfold idxI at he
      have hs : l = l.take i ++ l.drop i := (List.take_append_drop i l).symm
      rw [hs, key _ _ _ 0 (by rw [← hs]; exact hm)] at he
      rw [← hs] at he
      rw [he] at h2
      simp at h2
      omega
  · intro hc
    have hm : l.getD i 0 ∉ l.take i := by
      refine (idxFrom_mem _ _ 0).1 ?_
      rcases idxFrom_bd (l.getD i 0) (l.take i) 0 with h1 | ⟨h1, h2⟩
      · exact h1
      · exact absurd (by unfold idxI; omega) hc
    have e : idxFrom (l.getD i 0) (l.take i ++ l.drop i) 0 = idxFrom (l.getD i 0) (l.drop i) (0 + (l.take i).length) := idxFrom_append _ _ _ _ hm
    rw [List.take_append_drop] at e
    unfold idxI
    rw [e, List.drop_eq_getElem_cons h, idxFrom, if_pos hv.symm]
    simp
    omega
def rowB (l : List Int) (i : Nat) : Bool := decide (l.getD i 0 = 0) || (inB (l.getD i 0) 1 6 && decide (idxI l (l.getD i 0) = (i : Int)))
def rowsOkB (l : List Int) (st : Int) : Bool := (List.range l.length).all (rowB l) && (decide (l.length = 4) && inB st 0 5)
theorem rowsDown {g : Nat → Int → Option Bool} (l : List Int) (rest : Bool)
    (hstep : ∀ i : Nat, i < l.length → (rowB l i = true → ∀ r, Ev (fun k => g k ((i + 1 : Nat) : Int)) r → Ev (fun k => g k (i : Int)) r) ∧ (rowB l i = false → Ev (fun k => g k (i : Int)) false))
    (hend : Ev (fun k => g k (l.length : Int)) rest) : Ev (fun k => g k 0) ((List.range l.length).all (rowB l) && rest) := by
  have key := ev_down (g := g) (R := fun i => ((List.range l.length).drop i).all (rowB l) && rest) (n := l.length) (fun i hi h => ?_) 0 (by omega)
  · simpa using key
  · by_cases hlt : i < l.length
    · have hd : ((List.range l.length).drop i).all (rowB l) = (rowB l i && ((List.range l.length).drop (i + 1)).all (rowB l)) := by
        rw [List.drop_eq_getElem_cons (by simpa using hlt), List.all_cons]
        simp
      rw [hd]
      have hs := hstep i hlt
      cases hq : rowB l i with
      | true => exact ev_to (hs.1 hq _ (h hlt)) (by simp)
      | false => exact ev_to (hs.2 hq) (by simp)
    · obtain rfl : i = l.length := by omega
      exact ev_to hend (by rw [List.drop_eq_nil_of_le (by simp)]; simp)
theorem ev_spec_RowsOk (l : List Int) (st : Int) (hl : l.length ≤ 1048576) : Ev (fun k => spec_RowsOk.f k l st) (rowsOkB l st) := by
  refine rowsDown (g := fun k i => spec_RowsOk.l0 k i l st) l _ (fun i hi => ?_) ?_
  · have hk := ev_spec_KeyOf l st (l.getD i 0) hl
    have step : ∀ k, spec_RowsOk.l0 (k + 1) (i : Int) l st = if l.getD i 0 = 0 then spec_RowsOk.l0 k ((i + 1 : Nat) : Int) l st else if inB (l.getD i 0) 1 6 = true then (spec_KeyOf.f k l st (l.getD i 0)).bind fun t => if t = (i : Int) then spec_RowsOk.l0 k ((i + 1 : Nat) : Int) l st else some false else some false := by
      intro k
      simp only [spec_RowsOk.l0, rd_nat, spec_ValOk.f, l1In_eq, Option.bind_some]
      rw [if_pos (by omega), if_pos (by omega), wrap_succ hi (by omega)]
    constructor
    · intro hq r hr
      refine Ev.step step ?_
      unfold rowB at hq
      by_cases e0 : l.getD i 0 = 0
      · exact ev_pos e0 hr
      · simp only [decide_eq_false e0, Bool.false_or, Bool.and_eq_true, decide_eq_true_eq] at hq
        refine ev_neg e0 (ev_pos hq.1 (Ev.bind (f := fun k t => if t = (i : Int) then spec_RowsOk.l0 k ((i + 1 : Nat) : Int) l st else some false) hk ?_))
        exact ev_pos hq.2 hr
    · intro hq
      refine Ev.step step ?_
      unfold rowB at hq
      simp only [Bool.or_eq_false_iff, decide_eq_false_iff_not, Bool.and_eq_false_iff] at hq
      refine ev_neg hq.1 (ev_ite (fun c => Ev.bind (f := fun k t => if t = (i : Int) then spec_RowsOk.l0 k ((i + 1 : Nat) : Int) l st else some false) hk ?_) (fun _ => Ev.now _))
      rcases hq.2 with h' | h'
      · rw [h'] at c; cases c
      · exact ev_neg h' (Ev.now _)
  · refine ev_succ (fun k => ?_)
    simp only [spec_RowsOk.l0, l1In_eq, Option.bind_some]
    rw [if_neg (by omega)]
    by_cases e : l.length = 4
    · rw [if_pos (by omega)]; simp [e]
    · rw [if_neg (by omega)]; simp [e]
theorem ev_impl_RowsOk (l : List Int) (st : Int) (hl : l.length ≤ 1048576) : Ev (fun k => impl_RowsOk.f k l st) (rowsOkB l st) := by
  refine rowsDown (g := fun k i => impl_RowsOk.l0 k l (l.length : Int) i l st) l _ (fun i hi => ?_) ?_
  · have hk := ev_Contains (l.take i) (l.getD i 0) (by rw [List.length_take]; omega)
    have hidx := idx_first l i hi
    have step : ∀ k, impl_RowsOk.l0 (k + 1) l (l.length : Int) (i : Int) l st = if l.getD i 0 = 0 then impl_RowsOk.l0 k l (l.length : Int) ((i + 1 : Nat) : Int) l st else if inB (l.getD i 0) 1 6 = true then (slices_Contains_int_int.f k (l.take i) (l.getD i 0)).bind fun t => if t = true then some false else impl_RowsOk.l0 k l (l.length : Int) ((i + 1 : Nat) : Int) l st else some false := by
      intro k
      simp only [impl_RowsOk.l0, rd_nat, impl_ValOk.f, from_eq, Option.bind_some]
      rw [if_pos (by omega), if_pos (by omega), if_pos (by omega), wrap_succ hi (by omega), if_pos (show (i : Int) ≤ (l.length : Int) by omega), Int.toNat_natCast]
    constructor
    · intro hq r hr
      refine Ev.step step ?_
      unfold rowB at hq
      by_cases e0 : l.getD i 0 = 0
      · exact ev_pos e0 hr
      · simp only [decide_eq_false e0, Bool.false_or, Bool.and_eq_true, decide_eq_true_eq] at hq
        refine ev_neg e0 (ev_pos hq.1 (Ev.bind (f := fun k t => if t = true then some false else impl_RowsOk.l0 k l (l.length : Int) ((i + 1 : Nat) : Int) l st) hk ?_))
        exact ev_neg (by simpa using hidx.1 hq.2) hr
    · intro hq
      refine Ev.step step ?_
      unfold rowB at hq
      simp only [Bool.or_eq_false_iff, decide_eq_false_iff_not, Bool.and_eq_false_iff] at hq
      refine ev_neg hq.1 (ev_ite (fun c => Ev.bind (f := fun k t => if t = true then some false else impl_RowsOk.l0 k l (l.length : Int) ((i + 1 : Nat) : Int) l st) hk ?_) (fun _ => Ev.now _))
      rcases hq.2 with h' | h'
      · rw [h'] at c; cases c
      · refine ev_pos ?_ (Ev.now _)
        have := mt hidx.2 h'
        simpa using this
  · refine ev_succ (fun k => ?_)
    simp only [impl_RowsOk.l0, from_eq, Option.bind_some]
    rw [if_neg (by omega)]
    by_cases e : l.length = 4
    · rw [if_pos (by omega)]; simp [e]
    · rw [if_neg (by omega)]; simp [e]
end Go.Proofs.YtopikhjcbcpiaaaGreat.Q
end
section
namespace Go.Proofs.YtopikhjcbcpiaaaGreat.Q
open Go.RowKit Go.Proofs.YtopikhjcbcpiaaaGreatW.PrintWords Go.Proofs.YtopikhjcbcpiaaaGreatX
theorem szResD (c : Int) (l : List Int) (a : Int) (h0 : 0 ≤ a) (h1 : a ≤ 1048576) (hl : l.length ≤ 9223372036854775807) : laws_szRes.f c l a = some (if a < l.length then -1 else a - l.length) := by
  unfold laws_szRes.f
  rw [szIntS l a h0 h1 hl]
  by_cases h : a < l.length
  · simp [h]
  · simp only [if_neg h, Option.bind_some]; rw [if_neg (by omega)]
theorem ev_toResD (c : Int) (l : List Int) (h : l.length ≤ 1048576) : Ev (fun k => laws_toRes.f k c l) (c, l) := Ev.bind (f := fun _ t => some (c, t)) (ev_toIntS l h) (Ev.now _)
theorem ev_eqResD (c : Int) (l : List Int) (h : l.length ≤ 1048576) : Ev (fun k => laws_eqRes.f k c l c l) true := by
  unfold laws_eqRes.f
  exact ev_pos rfl (Ev.bind (f := fun _ t => if t = true then some true else some false) (ev_eqIntS l h) (ev_of fun k => by simp))
def cvDesc (x : S201) : S52 := ⟨x.f0, x.f1, x.f2.map cvEntry, ⟨x.f3.f0, x.f3.f1⟩⟩
def fitADesc (x : S201) : Prop := x.f2.length ≤ 1048576 ∧ x.f3.f1.length ≤ 1048576
def fitBDesc (x : S52) : Prop := x.f2.length ≤ 1048576 ∧ x.f3.f1.length ≤ 1048576
theorem szDesc_ok (x : S201) (a : Int) (h0 : 0 ≤ a) (h1 : a ≤ 1048576) (hb : x.f2.length ≤ 9223372036854775807 ∧ x.f3.f1.length ≤ 9223372036854775807) : ∃ r, laws_szDesc.f x.f0 x.f1 x.f2 x.f3.f0 x.f3.f1 a = some r ∧ (r < 0 ∨ (0 ≤ r ∧ r ≤ a ∧ fitADesc x)) := by
  unfold laws_szDesc.f
  rw [szEntryS x.f2 a (by omega) (by omega) hb.1]
  by_cases h0 : a < x.f2.length
  · exact ⟨-1, by simp [h0], .inl (by omega)⟩
  · simp only [if_neg h0, Option.bind_some]
    rw [if_neg (by omega), szResD _ _ (a - x.f2.length) (by omega) (by omega) hb.2]
    by_cases h1 : a - x.f2.length < x.f3.f1.length
    · exact ⟨-1, by simp [h1], .inl (by omega)⟩
    · simp only [if_neg h1, Option.bind_some]
      rw [if_neg (by omega)]
      exact ⟨_, rfl, .inr ⟨by omega, by omega, by unfold fitADesc; omega⟩⟩
theorem ev_toDesc (x : S201) (h : fitADesc x) : Ev (fun k => laws_toDesc.f k x.f0 x.f1 x.f2 x.f3.f0 x.f3.f1) (x.f0, x.f1, x.f2.map cvEntry, x.f3.f0, x.f3.f1) := by
  unfold laws_toDesc.f
  exact Ev.bind (ev_toEntryS x.f2 h.1) (Ev.bind (ev_toResD _ _ h.2) (Ev.now _))
theorem ev_eqDesc (x : S52) (h : fitBDesc x) : Ev (fun k => laws_eqDesc.f k x.f0 x.f1 x.f2 x.f3.f0 x.f3.f1 x.f0 x.f1 x.f2 x.f3.f0 x.f3.f1) true := by
  unfold laws_eqDesc.f
  exact ev_pos (by first | rfl | trivial) (ev_pos (by first | rfl | trivial) (Ev.bind (ev_eqEntryS x.f2 h.1) (ev_pos rfl (Ev.bind (ev_eqResD _ _ h.2) (ev_pos rfl (Ev.now _))))))
theorem rdaDesc {l : List S201} {i : Nat} (h : i < l.length) : rd_T201 l (i : Int) = l[i] := by
  show l.getD (i : Int).toNat z201 = l[i]
  rw [Int.toNat_natCast]; simp [List.getD_eq_getElem?_getD, List.getElem?_eq_getElem h]
theorem rdbDesc {l : List S52} {i : Nat} (h : i < l.length) : rd_T52 l (i : Int) = l[i] := by
  show l.getD (i : Int).toNat z52 = l[i]
  rw [Int.toNat_natCast]; simp [List.getD_eq_getElem?_getD, List.getElem?_eq_getElem h]
theorem szDescS_ok (l : List S201) (a : Int) (h0 : 0 ≤ a) (h1 : a ≤ 1048576) (hl : l.length ≤ 9223372036854775807) (ho : ∀ x ∈ l, x.f2.length ≤ 9223372036854775807 ∧ x.f3.f1.length ≤ 9223372036854775807) :
    ∃ r, Ev (fun k => laws_szDescS.f k l a) r ∧ (r < 0 ∨ (0 ≤ r ∧ r ≤ a ∧ l.length ≤ 1048576 ∧ ∀ x ∈ l, fitADesc x)) := by
  unfold laws_szDescS.f
  rw [wrap_in (by omega) (by omega)]
  by_cases h : a - l.length < 0
  · exact ⟨-1, ev_pos h (Ev.now _), .inl (by omega)⟩
  · have key : ∀ (d i : Nat) (b : Int), i + d = l.length → 0 ≤ b → b ≤ 1048576 → ∃ r, Ev (fun k => laws_szDescS.l0 k l b (i : Int)) r ∧ (r < 0 ∨ (0 ≤ r ∧ r ≤ b ∧ ∀ x ∈ l.drop i, fitADesc x)) := by
      intro d
      induction d with
      | zero =>
        intro i b hi hb0 hb1
        refine ⟨b, ev_succ (fun k => ?_), .inr ⟨hb0, by omega, fun x hx => ?_⟩⟩
        · simp only [laws_szDescS.l0]; rw [if_neg (by omega)]
        · rw [List.drop_eq_nil_of_le (by omega)] at hx; cases hx
      | succ d ih =>
        intro i b hi hb0 hb1
        have hlt : i < l.length := by omega
        have hm := ho _ (List.getElem_mem hlt)
        obtain ⟨r, hr, hcase⟩ := szDesc_ok l[i] b hb0 hb1 hm
        rcases hcase with hneg | ⟨hr0, hr1, hfit⟩
        · refine ⟨-1, ev_succ (fun k => ?_), .inl (by omega)⟩
          simp only [laws_szDescS.l0, rdaDesc hlt]
          rw [if_pos (by omega), if_pos (by omega), hr]
          simp only [Option.bind_some]
          rw [if_pos hneg]
        · obtain ⟨q, hq, hc⟩ := ih (i + 1) r (by omega) hr0 (by omega)
          refine ⟨q, Ev.step (fun k => ?_) hq, ?_⟩
          · simp only [laws_szDescS.l0, rdaDesc hlt]
            rw [if_pos (by omega), if_pos (by omega), hr]
            simp only [Option.bind_some]
            rw [if_neg (by omega), wrap_succ hlt (by omega)]
          · rcases hc with hc | ⟨c0, c1, c2⟩
            · exact .inl hc
            · refine .inr ⟨c0, by omega, fun x hx => ?_⟩
              rw [List.drop_eq_getElem_cons hlt] at hx
              rcases List.mem_cons.1 hx with rfl | hx
              · exact hfit
              · exact c2 x hx
    obtain ⟨r, hr, hc⟩ := key l.length 0 (a - l.length) (by omega) (by omega) (by omega)
    refine ⟨r, ev_neg h hr, ?_⟩
    rcases hc with hc | ⟨c0, c1, c2⟩
    · exact .inl hc
    · exact .inr ⟨c0, by omega, by omega, fun x hx => c2 x (by simpa using hx)⟩
theorem ev_toDescS (l : List S201) (hl : l.length ≤ 1048576) (hf : ∀ x ∈ l, fitADesc x) : Ev (fun k => laws_toDescS.f k l) (l.map cvDesc) := by
  unfold laws_toDescS.f
  refine ev_pos (by omega) (ev_pos (by omega) ?_)
  refine ev_fill (g := fun k acc i => laws_toDescS.l0 k l acc i) (za := z201) ?_ ?_ _ (by simp)
  · intro acc i r hi hacc h
    have ht := ev_toDesc l[i] (hf _ (List.getElem_mem hi))
    have hg : l.getD i z201 = l[i] := by simp [List.getD_eq_getElem?_getD, List.getElem?_eq_getElem hi]
    rw [hg] at h
    refine Ev.step (f := fun k => (laws_toDesc.f k l[i].f0 l[i].f1 l[i].f2 l[i].f3.f0 l[i].f3.f1).bind fun bt => laws_toDescS.l0 k l (acc.set i (⟨bt.1, bt.2.1, bt.2.2.1, (⟨bt.2.2.2.1, bt.2.2.2.2⟩ : S31)⟩ : S52)) ((i + 1 : Nat) : Int)) (fun k => ?_) (Ev.bind ht h)
    simp only [laws_toDescS.l0, rdaDesc hi]
    rw [if_pos (by omega), if_pos (by omega), wrap_succ hi (by omega)]
    congr 1
    funext bt
    rw [if_pos (by omega)]
    rfl
  · intro acc hacc
    refine ev_succ (fun k => ?_)
    simp only [laws_toDescS.l0]
    rw [if_neg (by omega)]
theorem ev_eqDescS (l : List S52) (hl : l.length ≤ 1048576) (hf : ∀ x ∈ l, fitBDesc x) : Ev (fun k => laws_eqDescS.f k l l) true := by
  unfold laws_eqDescS.f
  refine ev_pos rfl ?_
  refine ev_down (g := fun k i => laws_eqDescS.l0 k l l i) (R := fun _ => true) (n := l.length) ?_ 0 (by omega)
  intro i hi h
  by_cases hlt : i < l.length
  · have he := ev_eqDesc l[i] (hf _ (List.getElem_mem hlt))
    refine Ev.step (f := fun k => (laws_eqDesc.f k l[i].f0 l[i].f1 l[i].f2 l[i].f3.f0 l[i].f3.f1 l[i].f0 l[i].f1 l[i].f2 l[i].f3.f0 l[i].f3.f1).bind fun t => if t = true then laws_eqDescS.l0 k l l ((i + 1 : Nat) : Int) else some false) (fun k => ?_) (Ev.bind he (ev_pos rfl (h hlt)))
    simp only [laws_eqDescS.l0, rdbDesc hlt]
    rw [if_pos (by omega), if_pos (by omega), if_pos (by omega), wrap_succ hlt (by omega)]
  · refine ev_succ (fun k => ?_)
    simp only [laws_eqDescS.l0]
    rw [if_neg (by omega)]
theorem fit_cvDesc (x : S201) (h : fitADesc x) : fitBDesc (cvDesc x) := by
  unfold fitADesc at h
  unfold fitBDesc cvDesc
  simpa using h
def cvThread (x : S171) : S82 := ⟨x.f0.map cvOp, x.f1, x.f2, x.f3.map cvPair, x.f4.map cvHelp⟩
def fitAThread (x : S171) : Prop := x.f0.length ≤ 1048576 ∧ x.f3.length ≤ 1048576 ∧ x.f4.length ≤ 1048576
def fitBThread (x : S82) : Prop := x.f0.length ≤ 1048576 ∧ x.f3.length ≤ 1048576 ∧ x.f4.length ≤ 1048576
theorem szThread_ok (x : S171) (a : Int) (h0 : 0 ≤ a) (h1 : a ≤ 1048576) (hb : x.f0.length ≤ 9223372036854775807 ∧ x.f3.length ≤ 9223372036854775807 ∧ x.f4.length ≤ 9223372036854775807) : ∃ r, laws_szThread.f x.f0 x.f1 x.f2 x.f3 x.f4 a = some r ∧ (r < 0 ∨ (0 ≤ r ∧ r ≤ a ∧ fitAThread x)) := by
  unfold laws_szThread.f
  rw [szOpS x.f0 a (by omega) (by omega) hb.1]
  by_cases h0 : a < x.f0.length
  · exact ⟨-1, by simp [h0], .inl (by omega)⟩
  · simp only [if_neg h0, Option.bind_some]
    rw [if_neg (by omega), szPairS x.f3 (a - x.f0.length) (by omega) (by omega) hb.2.1]
    by_cases h1 : a - x.f0.length < x.f3.length
    · exact ⟨-1, by simp [h1], .inl (by omega)⟩
    · simp only [if_neg h1, Option.bind_some]
      rw [if_neg (by omega), szHelpS x.f4 (a - x.f0.length - x.f3.length) (by omega) (by omega) hb.2.2]
      by_cases h2 : a - x.f0.length - x.f3.length < x.f4.length
      · exact ⟨-1, by simp [h2], .inl (by omega)⟩
      · simp only [if_neg h2, Option.bind_some]
        rw [if_neg (by omega)]
        exact ⟨_, rfl, .inr ⟨by omega, by omega, by unfold fitAThread; omega⟩⟩
theorem ev_toThread (x : S171) (h : fitAThread x) : Ev (fun k => laws_toThread.f k x.f0 x.f1 x.f2 x.f3 x.f4) (x.f0.map cvOp, x.f1, x.f2, x.f3.map cvPair, x.f4.map cvHelp) := by
  unfold laws_toThread.f
  exact Ev.bind (ev_toOpS x.f0 h.1) (Ev.bind (ev_toPairS x.f3 h.2.1) (Ev.bind (ev_toHelpS x.f4 h.2.2) (Ev.now _)))
theorem ev_eqThread (x : S82) (h : fitBThread x) : Ev (fun k => laws_eqThread.f k x.f0 x.f1 x.f2 x.f3 x.f4 x.f0 x.f1 x.f2 x.f3 x.f4) true := by
  unfold laws_eqThread.f
  exact Ev.bind (ev_eqOpS x.f0 h.1) (ev_pos rfl (ev_pos (by first | rfl | trivial) (ev_neg (by simp) (Ev.bind (ev_eqPairS x.f3 h.2.1) (ev_pos rfl (Ev.bind (ev_eqHelpS x.f4 h.2.2) (ev_pos rfl (Ev.now _))))))))
theorem rdaThread {l : List S171} {i : Nat} (h : i < l.length) : rd_T171 l (i : Int) = l[i] := by
  show l.getD (i : Int).toNat z171 = l[i]
  rw [Int.toNat_natCast]; simp [List.getD_eq_getElem?_getD, List.getElem?_eq_getElem h]
theorem rdbThread {l : List S82} {i : Nat} (h : i < l.length) : rd_T82 l (i : Int) = l[i] := by
  show l.getD (i : Int).toNat z82 = l[i]
  rw [Int.toNat_natCast]; simp [List.getD_eq_getElem?_getD, List.getElem?_eq_getElem h]
theorem szThreadS_ok (l : List S171) (a : Int) (h0 : 0 ≤ a) (h1 : a ≤ 1048576) (hl : l.length ≤ 9223372036854775807) (ho : ∀ x ∈ l, x.f0.length ≤ 9223372036854775807 ∧ x.f3.length ≤ 9223372036854775807 ∧ x.f4.length ≤ 9223372036854775807) :
    ∃ r, Ev (fun k => laws_szThreadS.f k l a) r ∧ (r < 0 ∨ (0 ≤ r ∧ r ≤ a ∧ l.length ≤ 1048576 ∧ ∀ x ∈ l, fitAThread x)) := by
  unfold laws_szThreadS.f
  rw [wrap_in (by omega) (by omega)]
  by_cases h : a - l.length < 0
  · exact ⟨-1, ev_pos h (Ev.now _), .inl (by omega)⟩
  · have key : ∀ (d i : Nat) (b : Int), i + d = l.length → 0 ≤ b → b ≤ 1048576 → ∃ r, Ev (fun k => laws_szThreadS.l0 k l b (i : Int)) r ∧ (r < 0 ∨ (0 ≤ r ∧ r ≤ b ∧ ∀ x ∈ l.drop i, fitAThread x)) := by
      intro d
      induction d with
      | zero =>
        intro i b hi hb0 hb1
        refine ⟨b, ev_succ (fun k => ?_), .inr ⟨hb0, by omega, fun x hx => ?_⟩⟩
        · simp only [laws_szThreadS.l0]; rw [if_neg (by omega)]
        · rw [List.drop_eq_nil_of_le (by omega)] at hx; cases hx
      | succ d ih =>
        intro i b hi hb0 hb1
        have hlt : i < l.length := by omega
        have hm := ho _ (List.getElem_mem hlt)
        obtain ⟨r, hr, hcase⟩ := szThread_ok l[i] b hb0 hb1 hm
        rcases hcase with hneg | ⟨hr0, hr1, hfit⟩
        · refine ⟨-1, ev_succ (fun k => ?_), .inl (by omega)⟩
          simp only [laws_szThreadS.l0, rdaThread hlt]
          rw [if_pos (by omega), if_pos (by omega), hr]
          simp only [Option.bind_some]
          rw [if_pos hneg]
        · obtain ⟨q, hq, hc⟩ := ih (i + 1) r (by omega) hr0 (by omega)
          refine ⟨q, Ev.step (fun k => ?_) hq, ?_⟩
          · simp only [laws_szThreadS.l0, rdaThread hlt]
            rw [if_pos (by omega), if_pos (by omega), hr]
            simp only [Option.bind_some]
            rw [if_neg (by omega), wrap_succ hlt (by omega)]
          · rcases hc with hc | ⟨c0, c1, c2⟩
            · exact .inl hc
            · refine .inr ⟨c0, by omega, fun x hx => ?_⟩
              rw [List.drop_eq_getElem_cons hlt] at hx
              rcases List.mem_cons.1 hx with rfl | hx
              · exact hfit
              · exact c2 x hx
    obtain ⟨r, hr, hc⟩ := key l.length 0 (a - l.length) (by omega) (by omega) (by omega)
    refine ⟨r, ev_neg h hr, ?_⟩
    rcases hc with hc | ⟨c0, c1, c2⟩
    · exact .inl hc
    · exact .inr ⟨c0, by omega, by omega, fun x hx => c2 x (by simpa using hx)⟩
theorem ev_toThreadS (l : List S171) (hl : l.length ≤ 1048576) (hf : ∀ x ∈ l, fitAThread x) : Ev (fun k => laws_toThreadS.f k l) (l.map cvThread) := by
  unfold laws_toThreadS.f
  refine ev_pos (by omega) (ev_pos (by omega) ?_)
  refine ev_fill (g := fun k acc i => laws_toThreadS.l0 k l acc i) (za := z171) ?_ ?_ _ (by simp)
  · intro acc i r hi hacc h
    have ht := ev_toThread l[i] (hf _ (List.getElem_mem hi))
    have hg : l.getD i z171 = l[i] := by simp [List.getD_eq_getElem?_getD, List.getElem?_eq_getElem hi]
    rw [hg] at h
    refine Ev.step (f := fun k => (laws_toThread.f k l[i].f0 l[i].f1 l[i].f2 l[i].f3 l[i].f4).bind fun bt => laws_toThreadS.l0 k l (acc.set i (⟨bt.1, bt.2.1, bt.2.2.1, bt.2.2.2.1, bt.2.2.2.2⟩ : S82)) ((i + 1 : Nat) : Int)) (fun k => ?_) (Ev.bind ht h)
    simp only [laws_toThreadS.l0, rdaThread hi]
    rw [if_pos (by omega), if_pos (by omega), wrap_succ hi (by omega)]
    congr 1
    funext bt
    rw [if_pos (by omega)]
    rfl
  · intro acc hacc
    refine ev_succ (fun k => ?_)
    simp only [laws_toThreadS.l0]
    rw [if_neg (by omega)]
theorem ev_eqThreadS (l : List S82) (hl : l.length ≤ 1048576) (hf : ∀ x ∈ l, fitBThread x) : Ev (fun k => laws_eqThreadS.f k l l) true := by
  unfold laws_eqThreadS.f
  refine ev_pos rfl ?_
  refine ev_down (g := fun k i => laws_eqThreadS.l0 k l l i) (R := fun _ => true) (n := l.length) ?_ 0 (by omega)
  intro i hi h
  by_cases hlt : i < l.length
  · have he := ev_eqThread l[i] (hf _ (List.getElem_mem hlt))
    refine Ev.step (f := fun k => (laws_eqThread.f k l[i].f0 l[i].f1 l[i].f2 l[i].f3 l[i].f4 l[i].f0 l[i].f1 l[i].f2 l[i].f3 l[i].f4).bind fun t => if t = true then laws_eqThreadS.l0 k l l ((i + 1 : Nat) : Int) else some false) (fun k => ?_) (Ev.bind he (ev_pos rfl (h hlt)))
    simp only [laws_eqThreadS.l0, rdbThread hlt]
    rw [if_pos (by omega), if_pos (by omega), if_pos (by omega), wrap_succ hlt (by omega)]
  · refine ev_succ (fun k => ?_)
    simp only [laws_eqThreadS.l0]
    rw [if_neg (by omega)]
theorem fit_cvThread (x : S171) (h : fitAThread x) : fitBThread (cvThread x) := by
  unfold fitAThread at h
  unfold fitBThread cvThread
  simpa using h
def cvCall (x : S176) : S134 := ⟨x.f0, ⟨x.f1.f0, x.f1.f1, x.f1.f2⟩, x.f2, x.f3, x.f4, ⟨x.f5.f0, x.f5.f1⟩⟩
def fitACall (x : S176) : Prop := x.f5.f1.length ≤ 1048576
def fitBCall (x : S134) : Prop := x.f5.f1.length ≤ 1048576
theorem szCall_ok (x : S176) (a : Int) (h0 : 0 ≤ a) (h1 : a ≤ 1048576) (hb : x.f5.f1.length ≤ 9223372036854775807) : ∃ r, laws_szCall.f x.f0 x.f1.f0 x.f1.f1 x.f1.f2 x.f2 x.f3 x.f4 x.f5.f0 x.f5.f1 a = some r ∧ (r < 0 ∨ (0 ≤ r ∧ r ≤ a ∧ fitACall x)) := by
  unfold laws_szCall.f
  rw [szResD _ _ a (by omega) (by omega) hb]
  by_cases h0 : a < x.f5.f1.length
  · exact ⟨-1, by simp [h0], .inl (by omega)⟩
  · simp only [if_neg h0, Option.bind_some]
    rw [if_neg (by omega)]
    exact ⟨_, rfl, .inr ⟨by omega, by omega, by unfold fitACall; omega⟩⟩
theorem ev_toCall (x : S176) (h : fitACall x) : Ev (fun k => laws_toCall.f k x.f0 x.f1.f0 x.f1.f1 x.f1.f2 x.f2 x.f3 x.f4 x.f5.f0 x.f5.f1) (x.f0, x.f1.f0, x.f1.f1, x.f1.f2, x.f2, x.f3, x.f4, x.f5.f0, x.f5.f1) := by
  unfold laws_toCall.f
  simp only [laws_toOp.f, Option.bind_some]
  exact Ev.bind (ev_toResD _ _ h) (Ev.now _)
theorem ev_eqCall (x : S134) (h : fitBCall x) : Ev (fun k => laws_eqCall.f k x.f0 x.f1.f0 x.f1.f1 x.f1.f2 x.f2 x.f3 x.f4 x.f5.f0 x.f5.f1 x.f0 x.f1.f0 x.f1.f1 x.f1.f2 x.f2 x.f3 x.f4 x.f5.f0 x.f5.f1) true := by
  unfold laws_eqCall.f
  have hop : laws_eqOp.f x.f1.f0 x.f1.f1 x.f1.f2 x.f1.f0 x.f1.f1 x.f1.f2 = some true := by simp [laws_eqOp.f]
  simp only [hop, Option.bind_some]
  exact ev_pos (by first | rfl | trivial) (ev_pos (by first | rfl | trivial) (ev_pos (by first | rfl | trivial) (ev_pos (by first | rfl | trivial) (ev_pos (by first | rfl | trivial) (Ev.bind (ev_eqResD _ _ h) (ev_pos rfl (Ev.now _)))))))
theorem rdaCall {l : List S176} {i : Nat} (h : i < l.length) : rd_T176 l (i : Int) = l[i] := by
  show l.getD (i : Int).toNat z176 = l[i]
  rw [Int.toNat_natCast]; simp [List.getD_eq_getElem?_getD, List.getElem?_eq_getElem h]
theorem rdbCall {l : List S134} {i : Nat} (h : i < l.length) : rd_T134 l (i : Int) = l[i] := by
  show l.getD (i : Int).toNat z134 = l[i]
  rw [Int.toNat_natCast]; simp [List.getD_eq_getElem?_getD, List.getElem?_eq_getElem h]
theorem szCallS_ok (l : List S176) (a : Int) (h0 : 0 ≤ a) (h1 : a ≤ 1048576) (hl : l.length ≤ 9223372036854775807) (ho : ∀ x ∈ l, x.f5.f1.length ≤ 9223372036854775807) :
    ∃ r, Ev (fun k => laws_szCallS.f k l a) r ∧ (r < 0 ∨ (0 ≤ r ∧ r ≤ a ∧ l.length ≤ 1048576 ∧ ∀ x ∈ l, fitACall x)) := by
  unfold laws_szCallS.f
  rw [wrap_in (by omega) (by omega)]
  by_cases h : a - l.length < 0
  · exact ⟨-1, ev_pos h (Ev.now _), .inl (by omega)⟩
  · have key : ∀ (d i : Nat) (b : Int), i + d = l.length → 0 ≤ b → b ≤ 1048576 → ∃ r, Ev (fun k => laws_szCallS.l0 k l b (i : Int)) r ∧ (r < 0 ∨ (0 ≤ r ∧ r ≤ b ∧ ∀ x ∈ l.drop i, fitACall x)) := by
      intro d
      induction d with
      | zero =>
        intro i b hi hb0 hb1
        refine ⟨b, ev_succ (fun k => ?_), .inr ⟨hb0, by omega, fun x hx => ?_⟩⟩
        · simp only [laws_szCallS.l0]; rw [if_neg (by omega)]
        · rw [List.drop_eq_nil_of_le (by omega)] at hx; cases hx
      | succ d ih =>
        intro i b hi hb0 hb1
        have hlt : i < l.length := by omega
        have hm := ho _ (List.getElem_mem hlt)
        obtain ⟨r, hr, hcase⟩ := szCall_ok l[i] b hb0 hb1 hm
        rcases hcase with hneg | ⟨hr0, hr1, hfit⟩
        · refine ⟨-1, ev_succ (fun k => ?_), .inl (by omega)⟩
          simp only [laws_szCallS.l0, rdaCall hlt]
          rw [if_pos (by omega), if_pos (by omega), hr]
          simp only [Option.bind_some]
          rw [if_pos hneg]
        · obtain ⟨q, hq, hc⟩ := ih (i + 1) r (by omega) hr0 (by omega)
          refine ⟨q, Ev.step (fun k => ?_) hq, ?_⟩
          · simp only [laws_szCallS.l0, rdaCall hlt]
            rw [if_pos (by omega), if_pos (by omega), hr]
            simp only [Option.bind_some]
            rw [if_neg (by omega), wrap_succ hlt (by omega)]
          · rcases hc with hc | ⟨c0, c1, c2⟩
            · exact .inl hc
            · refine .inr ⟨c0, by omega, fun x hx => ?_⟩
              rw [List.drop_eq_getElem_cons hlt] at hx
              rcases List.mem_cons.1 hx with rfl | hx
              · exact hfit
              · exact c2 x hx
    obtain ⟨r, hr, hc⟩ := key l.length 0 (a - l.length) (by omega) (by omega) (by omega)
    refine ⟨r, ev_neg h hr, ?_⟩
    rcases hc with hc | ⟨c0, c1, c2⟩
    · exact .inl hc
    · exact .inr ⟨c0, by omega, by omega, fun x hx => c2 x (by simpa using hx)⟩
theorem ev_toCallS (l : List S176) (hl : l.length ≤ 1048576) (hf : ∀ x ∈ l, fitACall x) : Ev (fun k => laws_toCallS.f k l) (l.map cvCall) := by
  unfold laws_toCallS.f
  refine ev_pos (by omega) (ev_pos (by omega) ?_)
  refine ev_fill (g := fun k acc i => laws_toCallS.l0 k l acc i) (za := z176) ?_ ?_ _ (by simp)
  · intro acc i r hi hacc h
    have ht := ev_toCall l[i] (hf _ (List.getElem_mem hi))
    have hg : l.getD i z176 = l[i] := by simp [List.getD_eq_getElem?_getD, List.getElem?_eq_getElem hi]
    rw [hg] at h
    refine Ev.step (f := fun k => (laws_toCall.f k l[i].f0 l[i].f1.f0 l[i].f1.f1 l[i].f1.f2 l[i].f2 l[i].f3 l[i].f4 l[i].f5.f0 l[i].f5.f1).bind fun bt => laws_toCallS.l0 k l (acc.set i (⟨bt.1, (⟨bt.2.1, bt.2.2.1, bt.2.2.2.1⟩ : S132), bt.2.2.2.2.1, bt.2.2.2.2.2.1, bt.2.2.2.2.2.2.1, (⟨bt.2.2.2.2.2.2.2.1, bt.2.2.2.2.2.2.2.2⟩ : S31)⟩ : S134)) ((i + 1 : Nat) : Int)) (fun k => ?_) (Ev.bind ht h)
    simp only [laws_toCallS.l0, rdaCall hi]
    rw [if_pos (by omega), if_pos (by omega), wrap_succ hi (by omega)]
    congr 1
    funext bt
    rw [if_pos (by omega)]
    rfl
  · intro acc hacc
    refine ev_succ (fun k => ?_)
    simp only [laws_toCallS.l0]
    rw [if_neg (by omega)]
theorem ev_eqCallS (l : List S134) (hl : l.length ≤ 1048576) (hf : ∀ x ∈ l, fitBCall x) : Ev (fun k => laws_eqCallS.f k l l) true := by
  unfold laws_eqCallS.f
  refine ev_pos rfl ?_
  refine ev_down (g := fun k i => laws_eqCallS.l0 k l l i) (R := fun _ => true) (n := l.length) ?_ 0 (by omega)
  intro i hi h
  by_cases hlt : i < l.length
  · have he := ev_eqCall l[i] (hf _ (List.getElem_mem hlt))
    refine Ev.step (f := fun k => (laws_eqCall.f k l[i].f0 l[i].f1.f0 l[i].f1.f1 l[i].f1.f2 l[i].f2 l[i].f3 l[i].f4 l[i].f5.f0 l[i].f5.f1 l[i].f0 l[i].f1.f0 l[i].f1.f1 l[i].f1.f2 l[i].f2 l[i].f3 l[i].f4 l[i].f5.f0 l[i].f5.f1).bind fun t => if t = true then laws_eqCallS.l0 k l l ((i + 1 : Nat) : Int) else some false) (fun k => ?_) (Ev.bind he (ev_pos rfl (h hlt)))
    simp only [laws_eqCallS.l0, rdbCall hlt]
    rw [if_pos (by omega), if_pos (by omega), if_pos (by omega), wrap_succ hlt (by omega)]
  · refine ev_succ (fun k => ?_)
    simp only [laws_eqCallS.l0]
    rw [if_neg (by omega)]
theorem fit_cvCall (x : S176) (h : fitACall x) : fitBCall (cvCall x) := by
  unfold fitACall at h
  unfold fitBCall cvCall
  simpa using h
end Go.Proofs.YtopikhjcbcpiaaaGreat.Q
end
