/- Part 3 of the steps by which the law is shown: what each function of the program, of the reference and of the law computes. No condition. -/
import Derived.Test.YtopikhjcbcpiaaaGreatMac2
namespace Go.Proofs.YtopikhjcbcpiaaaGreat.Q
open Go.RowKit Go.Proofs.YtopikhjcbcpiaaaGreatW.PrintWords Go.Proofs.YtopikhjcbcpiaaaGreatW.PrintLast Go.Proofs.YtopikhjcbcpiaaaGreatW.PrintMore
attribute [local go_sem] max2_int min2_int max_two min_two max_three min_three max_four min_four   -- for this text's walks alone
set_option linter.unusedVariables false
set_option linter.unusedSimpArgs false
def laws_toMem.f (k : Nat) (l0_0 : List (S207)) (l0_1 : List (S201)) : Option ((List (S39)) × (List (S52))) := (laws_toWordS.f k l0_0).bind fun t291 => ((laws_toDescS.f k l0_1).bind fun t294 => (some (t291, t294)))
set_option maxHeartbeats 8000000 in
set_option maxRecDepth 100000 in
theorem laws_toMem.calls (k : Nat) (A0_0 : Option Addr) (c0_0 : Nat) (l0_0 : List (S207)) (A0_1 : Option Addr) (c0_1 : Nat) (l0_1 : List (S201)) (r1 : List (S39)) (r2 : List (S52)) (w : World) (hr0_0 : Kd.C k207 w A0_0 l0_0.length l0_0) (hc0_0 : l0_0.length ≤ c0_0) (hr0_1 : Kd.C k201 w A0_1 l0_1.length l0_1) (hc0_1 : l0_1.length ≤ c0_1) (h : laws_toMem.f k l0_0 l0_1 = some (r1, r2)) :
  Calls Tryz.prog 88 #[.agg #[.slice A0_0 l0_0.length c0_0, .slice A0_1 l0_1.length c0_1]] w fun e w' => ∃ v0_ v1_ : Value, e = .returned (.agg #[v0_, v1_]) ∧ Kd.R k39 39 w' w.heap.size (fun _ => True) v0_ r1 ∧ Kd.S k52 52 w' w.heap.size (fun _ => True) v1_ r2 ∧ Below w.heap.size w w' := by
 have hu62 := Tryz.underlying62
 have hu27 := Tryz.underlying27
 have HR0_0 := Aside0.mk hr0_0
 have HC0_0 := Aside0.mk hc0_0
 clear hr0_0 hc0_0
 have HR0_1 := Aside0.mk hr0_1
 have HC0_1 := Aside0.mk hc0_1
 clear hr0_1 hc0_1
 have HB := Aside0.mk (Below.refl w.heap.size w)
 have H := h
 clear h
 unfold laws_toMem.f at H
 obtain ⟨t291, A2, H⟩ := bn H
 try dsimp only at H
 obtain ⟨t294, A3, H⟩ := bn H
 try dsimp only at H
 simp only [Option.some.injEq, Prod.mk.injEq] at H
 obtain ⟨rfl, rfl⟩ := H
 go_enter Tryz.func88, Tryz.ntmps88
 go_wp2_with (first | ((with_reducible refine gq 1 rfl ?_); refine bx0 HB (N := 1) (t := 62) ?_; clear HB; intro gb288 w4 BK288 GE288 HB) | ((with_reducible refine gq 2 rfl ?_); refine bx1 HB BK288 (N := 2) (cs := #[.slice none 0 0, .slice none 0 0]) (t := 27) ?_; clear HB BK288; intro gb289 w5 BK289 GE289 HB NB288_289 NB289_288 BK288) | ((with_reducible refine gq 3 rfl ?_); refine bx2 HB BK288 BK289 (N := 3) (cs := #[.slice none 0 0, .slice none 0 0]) (t := 27) ?_; clear HB BK288 BK289; intro gb290 w6 BK290 GE290 HB NB288_290 NB290_288 BK288 NB289_290 NB290_289 BK289; have hnb7 := NB288_289.out; have hnc7 := NB289_288.out; have hnb8 := NB288_290.out; have hnc8 := NB290_288.out; have hz9 := cs2_ BK288) | ((with_reducible refine gf 144 rfl ?_); refine gL 6 Tryz.func144 #[.slice A0_0 l0_0.length c0_0] ?_; (with_reducible refine (laws_toWordS.calls k _ _ l0_0 t291 _ (kc HR0_0 HB) HC0_0.out A2.out).mono ?_); rintro e w10 ⟨v292, rfl, ho0, hb⟩; refine ⟨_, rfl, ?_⟩; have HO293 := Aside0.mk (Kd.R_lower ho0 (below_size (tb HB))); replace BK288 := bb BK288 hb; replace BK289 := bb BK289 hb; replace BK290 := bb BK290 hb; replace HB := bs HB hb; (try clear hb); (try clear ho0); obtain ⟨Ao11, co11, eo11⟩ := Kd.R_slice HO293.out; subst eo11; have hnb12 := NB290_289.out; have hnc12 := NB289_290.out; have hz13 := cs2_ BK290; have hz14 := cs2_ BK288) | ((with_reducible refine gf 145 rfl ?_); refine gL 10 Tryz.func145 #[.slice A0_1 l0_1.length c0_1] ?_; (with_reducible refine (laws_toDescS.calls k _ _ l0_1 t294 _ ?side1 HC0_1.out A3.out).mono ?_); (case side1 => exact Kd.C_below HR0_1.out (tb HB)); rintro e w15 ⟨v295, rfl, ho0, hb⟩; refine ⟨_, rfl, ?_⟩; replace HO293 := Aside0.mk (Kd.R_below (kr ((Kd.R_mono (Kd.R_far (p := ⟨gb290, 0, none⟩) (Kd.R_types HO293.out BK290.out (by decide)) (fun _ hk => hk.2) (.slice Ao11 t291.length co11)) (fun _ h_ => h_.1)))) hb); have HO296 := Aside0.mk (Kd.S_lower ho0 (below_size (tb HB))); replace BK288 := bbf BK288 hb; replace BK289 := bbf BK289 hb; replace BK290 := Aside0.mk (blk_below (g := gb290) (o := .cells #[.slice Ao11 t291.length co11, .slice none 0 0] 27 (0, 0)) (by (with_reducible repeat (first | refine blk_drewN ?_ _ | refine blk_drew ?_ | refine blk_alloc ?_ _)); refine blk_put (cs := #[.slice none 0 0, .slice none 0 0]) ?_ 0 _ rfl; (with_reducible repeat (first | refine blk_drewN ?_ _ | refine blk_drew ?_ | refine blk_alloc ?_ _)); exact BK290.out) hb); replace HB := bs HB hb; (try clear hb); (try clear hk); (try clear ho0); obtain ⟨Ao16, co16, eo16⟩ := Kd.S_slice HO296.out; subst eo16; have hz17 := cs2_ BK290; have hz18 := cs2_ BK289))
 refine bodyPost_ret (results_cell_row rfl _ _ gb289 27 #[.slice Ao11 t291.length co11, .slice Ao16 t294.length co16] (0, 0) _ rfl (bfp2 BK289) Tryz.underlying27 rfl (by kernel_rfl)) rfl ?_
 exact ⟨_, _, er, by (with_reducible repeat (first | apply Kd.R_alloc | apply Kd.R_drewN | apply Kd.R_drew)); exact Kd.R_mono (Kd.R_far (p := ⟨gb289, 1, none⟩) (Kd.R_far (p := ⟨gb289, 0, none⟩) (Kd.R_far (p := ⟨gb290, 1, none⟩) (Kd.R_types (Kd.R_types HO293.out BK290.out (by decide)) BK289.out (by decide)) (fun _ hk => hk.1.2) (.slice Ao16 t294.length co16)) (fun _ hk => hk.2) (.slice Ao11 t291.length co11)) (fun _ hk => hk.2) (.slice Ao16 t294.length co16)) (fun _ hk => trivial), by (with_reducible repeat (first | apply Kd.S_alloc | apply Kd.S_drewN | apply Kd.S_drew)); exact Kd.S_mono (Kd.S_far (p := ⟨gb289, 1, none⟩) (Kd.S_far (p := ⟨gb289, 0, none⟩) (Kd.S_far (p := ⟨gb290, 1, none⟩) (Kd.S_types (Kd.S_types HO296.out BK290.out (by decide)) BK289.out (by decide)) (fun _ hk => hk.1.2) (.slice Ao16 t294.length co16)) (fun _ hk => hk.2) (.slice Ao11 t291.length co11)) (fun _ hk => hk.2) (.slice Ao16 t294.length co16)) (fun _ hk => trivial), tb HB⟩
def laws_toOp.f (a0_0 : Int) (a0_1 : Int) (a0_2 : Int) : Option (Int × Int × Int) := some (a0_0, a0_1, a0_2)
set_option maxHeartbeats 8000000 in
set_option maxRecDepth 100000 in
theorem laws_toOp.calls (a0_0 : Int) (a0_1 : Int) (a0_2 : Int) (r1 : Int) (r2 : Int) (r3 : Int) (w : World) (h : laws_toOp.f a0_0 a0_1 a0_2 = some (r1, r2, r3)) :
  Calls Tryz.prog 179 #[.agg #[.int .i64 a0_0, .int .i64 a0_1, .int .i64 a0_2]] w fun e w' => e = .returned (.agg #[.int .i64 r1, .int .i64 r2, .int .i64 r3]) ∧ Below w.heap.size w w' := by
 have hu173 := Tryz.underlying173
 have hu132 := Tryz.underlying132
 have HB := Aside0.mk (Below.refl w.heap.size w)
 have H := h
 clear h
 unfold laws_toOp.f at H
 simp only [Option.some.injEq, Prod.mk.injEq] at H
 obtain ⟨rfl, rfl, rfl⟩ := H
 go_enter Tryz.func179, Tryz.ntmps179
 go_wp2_with (first | ((with_reducible refine gq 1 rfl ?_); refine bx0 HB (N := 1) (t := 173) ?_; clear HB; intro gb297 w2 BK297 GE297 HB) | ((with_reducible refine gq 2 rfl ?_); refine bx1 HB BK297 (N := 2) (cs := #[.int .i64 0, .int .i64 0, .int .i64 0]) (t := 132) ?_; clear HB BK297; intro gb298 w3 BK298 GE298 HB NB297_298 NB298_297 BK297) | ((with_reducible refine gq 3 rfl ?_); refine bx2 HB BK297 BK298 (N := 3) (cs := #[.int .i64 0, .int .i64 0, .int .i64 0]) (t := 132) ?_; clear HB BK297 BK298; intro gb299 w4 BK299 GE299 HB NB297_299 NB299_297 BK297 NB298_299 NB299_298 BK298; have hnb5 := NB297_298.out; have hnc5 := NB298_297.out; have hnb6 := NB297_299.out; have hnc6 := NB299_297.out; have hz7 := cs3_ BK297; have hnb8 := NB299_298.out; have hnc8 := NB298_299.out; have hz9 := cs3_ BK299; have hz10 := cs3_ BK298))
 refine bodyPost_ret (results_cell_row rfl _ _ gb298 132 #[.int .i64 a0_0, .int .i64 a0_1, .int .i64 a0_2] (0, 0) _ rfl (bfp3 BK298) Tryz.underlying132 rfl (by kernel_rfl)) rfl ?_
 exact ⟨er, tb HB⟩
def laws_toOpS.l0 : Nat → List (S173) → List (S132) → Int → Option ((List (S132)))
 | 0, _, _, _ => none
 | k + 1, x0, x3, x4 => if x4 < (x0.length : Int) then (if 0 ≤ x4 then ((laws_toOp.f ((rd_T173 x0 x4).f0) ((rd_T173 x0 x4).f1) ((rd_T173 x0 x4).f2)).bind fun bt304 => (if x4 < (x3.length : Int) then (laws_toOpS.l0 k x0 (x3.set (x4 : Int).toNat (⟨bt304.1, bt304.2.1, bt304.2.2⟩ : S132)) (wrap64 (x4 + 1))) else (none))) else (none)) else (some x3)
def laws_toOpS.f (k : Nat) (l0 : List (S173)) : Option ((List (S132))) := if 0 ≤ (l0.length : Int) then (if ((l0.length : Int) : Int).toNat ≤ 11728124029610 then (laws_toOpS.l0 k l0 (List.replicate ((l0.length : Int) : Int).toNat z132) 0) else (none)) else (none)
set_option maxHeartbeats 8000000 in
set_option maxRecDepth 100000 in
theorem laws_toOpS.calls (k : Nat) (A0 : Option Addr) (c0 : Nat) (l0 : List (S173)) (r : List (S132)) (w : World) (hr0 : Kd.C k173 w A0 l0.length l0) (hc0 : l0.length ≤ c0) (h : laws_toOpS.f k l0 = some r) :
  Calls Tryz.prog 176 #[.slice A0 l0.length c0] w fun e w' => ∃ v0_ : Value, e = .returned (v0_) ∧ Kd.R k132 132 w' w.heap.size (fun _ => True) v0_ r ∧ Below w.heap.size w w' := by
 have hu173 := Tryz.underlying173
 have hu132 := Tryz.underlying132
 have HR0 := Aside0.mk hr0
 have HC0 := Aside0.mk hc0
 clear hr0 hc0
 have HB := Aside0.mk (Below.refl w.heap.size w)
 have H := h
 clear h
 unfold laws_toOpS.f at H
 obtain ⟨c2b0, c2b1, H⟩ := itb H
 obtain ⟨c3b0, c3b1, H⟩ := itb H
 obtain ⟨y300, hy300⟩ : ∃ y_ : List (S132), y_ = (List.replicate ((l0.length : Int) : Int).toNat z132) := ⟨_, rfl⟩
 replace H : (laws_toOpS.l0 k l0 y300 0) = some r := by first | (rw [hy300]; with_reducible exact H) | (have H2_ := (Option.bind_some _ _).symm.trans H; rw [hy300]; with_reducible exact H2_) | (have H2_ := (Option.bind_some _ _).symm.trans H; with_reducible exact H2_) | with_reducible exact H | (rw [hy300]; exact H) | exact H
 have Ny300 := Aside0.mk hy300
 clear hy300
 have H' := Aside0.mk H
 clear H
 go_enter Tryz.func176, Tryz.ntmps176
 go_wp2_with (first | ((with_reducible refine gq 7 rfl ?_); refine Kd.R_make k132 _ 132 rfl (N := 7) rfl 79 _ _ rfl (l0.length : Int) rfl rfl Tryz.underlying79 (.agg #[(.int .i64 0), (.int .i64 0), (.int .i64 0)]) 24 info132 rfl (by decide) (by omega) z132 (ok := fun _ => True) (okp := fun _ => True) (k132_mkM _ _ _ z132 ) (fun _ hk => hk) trivial (od) (Nat.le_trans (Nat.mul_le_mul_right _ (od : (l0.length : Int).toNat ≤ 11728124029610)) (by omega)) (Below.refl _ _) (Nat.le_refl _) ?_; intro v301 w4 ho5 hb hg_ hnew_; clear hg_ hnew_; (first | rw [← Ny300.out] at ho5 | (simp only [Int.reduceToNat] at ho5; rw [← Ny300.out] at ho5)); have HO302 := Aside0.mk (Kd.R_lower ho5 (below_size (tb HB))); replace HB := bs HB hb; clear hb ho5))
 go_loopg [4] k (fun kq v4 w' => ∃ (x3_1 : List (S132)) (x4_1 : Int), v4 = .int .i64 x4_1 ∧ Aside0 (laws_toOpS.l0 kq l0 x3_1 x4_1 = some r) ∧ Aside0 (kq ≤ k) ∧ Aside0 (Kd.R k132 132 w' w.heap.size (fun _ => True) v301 x3_1) ∧ Aside0 (Below w.heap.size w w'))
 case atStart => exact ⟨(y300), (0), rsd, H', ⟨Nat.le_refl _⟩, ⟨kr HO302.out⟩, ⟨tb HB⟩⟩
 case round =>
  clear H'
  try clear c1
  try clear c2
  try clear c2b0
  try clear c2b1
  try clear p2
  try clear c3
  try clear c3b0
  try clear c3b1
  obtain ⟨x3_1, x4_1, rfl, HA, HK1, HO_3, HB⟩ := hrel
  cases gk with
  | zero => exact absurd HA.out (by simp [laws_toOpS.l0])
  | succ k1 =>
   have H := HA.out
   clear HA
   simp only [laws_toOpS.l0] at H
   revert H; refine icd (fun c6b0 H => ?_) fun c6b0 H => ?neg
   case neg =>
    obtain rfl := oin H
    go_wp2
    go_ret
    exact ⟨_, er, kr HO_3.out, tb HB⟩
   obtain ⟨c7b0, H⟩ := itd H
   obtain ⟨⟨t304, t305, t306⟩, A8, H⟩ := bn H
   try dsimp only at H
   obtain ⟨c9b0, H⟩ := itd H
   obtain ⟨y307, hy307⟩ : ∃ y_ : List (S132), y_ = (x3_1.set (x4_1 : Int).toNat (⟨t304, t305, t306⟩ : S132)) := ⟨_, rfl⟩
   replace H : (laws_toOpS.l0 k1 l0 y307 (wrap64 (x4_1 + 1))) = some r := by first | (rw [hy307]; with_reducible exact H) | (have H2_ := (Option.bind_some _ _).symm.trans H; rw [hy307]; with_reducible exact H2_) | (have H2_ := (Option.bind_some _ _).symm.trans H; with_reducible exact H2_) | with_reducible exact H | (rw [hy307]; exact H) | exact H
   have Ny307 := Aside0.mk hy307
   clear hy307
   have H' := Aside0.mk H
   clear H
   have p303 : 0 ≤ (x4_1 : Int) := od
   have q303 : x4_1 < (l0.length : Int) := od
   obtain ⟨ad303, e303, hx303⟩ := att173 HR0.out x4_1 p303 q303
   cases e303
   replace hx303 := ox3 HB hx303
   replace p303 := eq_true p303
   replace q303 := eq_true q303
   go_wp2_with (first | ((with_reducible refine gf 179 rfl ?_); refine gL 20 Tryz.func179 #[.agg #[.int .i64 ((rd_T173 l0 x4_1).f0), .int .i64 ((rd_T173 l0 x4_1).f1), .int .i64 ((rd_T173 l0 x4_1).f2)]] ?_; (with_reducible refine (laws_toOp.calls ((rd_T173 l0 x4_1).f0) ((rd_T173 l0 x4_1).f1) ((rd_T173 l0 x4_1).f2) t304 t305 t306 _ A8.out).mono ?_); rintro e w11 ⟨rfl, hb⟩; refine ⟨_, rfl, ?_⟩; replace HO_3 := rb HO_3 hb; replace HB := bs HB hb; (try clear hb); have p10 : 0 ≤ (x4_1 : Int) := od; have q10 : (x4_1 : Int) < ((x3_1.length : Int) : Int) := od; obtain ⟨go10, co10, eo10, gb10, gl10, cl10, HG10⟩ := Kd.R_form HO_3.out (by omega); (first | cases eo10 | (injection eo10 with ea_ en_ ec_; (first | subst ea_ | (injection ea_ with ea_; subst ea_)); subst ec_; clear en_)); have GB10 := Aside0.mk gb10; have GG10 := Aside0.mk HG10; clear gb10 gl10 HG10; obtain ⟨ce10, hcl10, hM10, hcc10, hfr10⟩ := Kd.R_elem HO_3.out z132 (x4_1 : Int) p10 q10; obtain rfl := k132_openM hM10; have hx10_0 : w11.cell? ⟨go10, (x4_1 : Int).toNat * 3, none⟩ = some (.int .i64 ((rd_T132 x3_1 x4_1).f0)) := hcc10 0 _ rfl; have hx10_1 : w11.cell? ⟨go10, (x4_1 : Int).toNat * 3 + 1, none⟩ = some (.int .i64 ((rd_T132 x3_1 x4_1).f1)) := hcc10 1 _ rfl; have hx10_2 : w11.cell? ⟨go10, (x4_1 : Int).toNat * 3 + 2, none⟩ = some (.int .i64 ((rd_T132 x3_1 x4_1).f2)) := hcc10 2 _ rfl; have hf10_0 : w11.frozen? ⟨go10, (x4_1 : Int).toNat * 3, none⟩ = false := hfr10 0; have hf10_1 : w11.frozen? ⟨go10, (x4_1 : Int).toNat * 3 + 1, none⟩ = false := hfr10 1; have hf10_2 : w11.frozen? ⟨go10, (x4_1 : Int).toNat * 3 + 2, none⟩ = false := hfr10 2; clear hcl10 hcc10 hfr10 hM10; replace p10 := eq_true p10; replace q10 := eq_true q10; have HX12 := Aside0.mk (show Kd.R k132 132 w11 w.heap.size (fun _ => True) (.slice (some ⟨go10, 0, none⟩) x3_1.length co10) x3_1 from (kr HO_3.out)); obtain ⟨ce12, hcl12, hM12, hcc12, hfr12⟩ := Kd.R_elem HX12.out z132 (x4_1 : Int) (od) (by have h_ : (x4_1 : Int) < ((x3_1.length : Int) : Int) := od; first | exact h_ | (have e_ := (Kd.R_reads' HO_3.out).1; omega) | simpa using h_); obtain rfl := k132_openM hM12; have HP12 := Kd.R_seg HX12.out (x4_1 : Int) (od) (by have h_ : (x4_1 : Int) < ((x3_1.length : Int) : Int) := od; first | exact h_ | (have e_ := (Kd.R_reads' HO_3.out).1; omega) | simpa using h_) (seg := [.int .i64 t304, .int .i64 t305, .int .i64 t306]) (j := 0) hcl12 hcc12 (show 3 ≤ 3 from by decide) (x' := (⟨t304, t305, t306⟩ : S132)) (k132_mkM _ _ _ (⟨t304, t305, t306⟩ : S132) ) (fun _ hk => hk); have hx12_0 := hcc12 0 _ rfl; (try simp only [show (k132).sz = 3 from rfl, Nat.mul_one, Nat.add_zero] at hx12_0); have hf12_0 := hfr12 0; (try simp only [show (k132).sz = 3 from rfl, Nat.mul_one, Nat.add_zero] at hf12_0); have hx12_1 := hcc12 1 _ rfl; (try simp only [show (k132).sz = 3 from rfl, Nat.mul_one, Nat.add_zero] at hx12_1); have hf12_1 := hfr12 1; (try simp only [show (k132).sz = 3 from rfl, Nat.mul_one, Nat.add_zero] at hf12_1); have hx12_2 := hcc12 2 _ rfl; (try simp only [show (k132).sz = 3 from rfl, Nat.mul_one, Nat.add_zero] at hx12_2); have hf12_2 := hfr12 2; (try simp only [show (k132).sz = 3 from rfl, Nat.mul_one, Nat.add_zero] at hf12_2); clear hcl12 hcc12 hfr12 hM12) | ((with_reducible refine gate_store (t := 132) (p := 21) rfl ?_); refine store_event (t := 132) (p := 21) (v := ?vo_w13) (w1 := (((w11.setCell ⟨go10, (x4_1 : Int).toNat * 3, none⟩ (.int .i64 t304)).setCell ⟨go10, (x4_1 : Int).toNat * 3 + 1, none⟩ (.int .i64 t305)).setCell ⟨go10, (x4_1 : Int).toNat * 3 + 2, none⟩ (.int .i64 t306))) ?hg ?ho ?hn ?hr ?_; (case ho => rfl); (case hg => rfl); (case hn => rfl); (case hr => first | (go_simp; done) | (go_simp; rfl)); intro w13 hw; have hg : w11.grownBy w13 (some go10) := (by rw [hw]; exact HP12.2); have hp_ : Kd.R k132 132 w13 w.heap.size (fun _ => True) (.slice (some ⟨go10, 0, none⟩) x3_1.length co10) y307 := (by rw [hw, Ny307.out]; exact HP12.1); clear HP12; replace HO_3 := Aside0.mk (hp_); replace HB := Aside0.mk ((by rw [hw]; exact below_set (below_set (below_set (HB.out) GB10.out) GB10.out) GB10.out : Below w.heap.size w w13)); clear hg hw hp_))
   go_roundg k1
   case measure => have := HK1.out; omega
   case rel => exact ⟨(y307), (wrap64 (x4_1 + 1)), rsd, H', ⟨by have := HK1.out; omega⟩, ⟨kr HO_3.out⟩, ⟨tb HB⟩⟩
def laws_toPair.f (a0_0 : Int) (a0_1 : Int) : Option (Int × Int) := some (a0_0, a0_1)
set_option maxHeartbeats 8000000 in
set_option maxRecDepth 100000 in
theorem laws_toPair.calls (a0_0 : Int) (a0_1 : Int) (r1 : Int) (r2 : Int) (w : World) (h : laws_toPair.f a0_0 a0_1 = some (r1, r2)) :
  Calls Tryz.prog 192 #[.agg #[.int .i64 a0_0, .int .i64 a0_1]] w fun e w' => e = .returned (.agg #[.int .i64 r1, .int .i64 r2]) ∧ Below w.heap.size w w' := by
 have hu224 := Tryz.underlying224
 have hu145 := Tryz.underlying145
 have HB := Aside0.mk (Below.refl w.heap.size w)
 have H := h
 clear h
 unfold laws_toPair.f at H
 simp only [Option.some.injEq, Prod.mk.injEq] at H
 obtain ⟨rfl, rfl⟩ := H
 go_enter Tryz.func192, Tryz.ntmps192
 go_wp2_with (first | ((with_reducible refine gq 1 rfl ?_); refine bx0 HB (N := 1) (t := 224) ?_; clear HB; intro gb308 w2 BK308 GE308 HB) | ((with_reducible refine gq 2 rfl ?_); refine bx1 HB BK308 (N := 2) (cs := #[.int .i64 0, .int .i64 0]) (t := 145) ?_; clear HB BK308; intro gb309 w3 BK309 GE309 HB NB308_309 NB309_308 BK308) | ((with_reducible refine gq 3 rfl ?_); refine bx2 HB BK308 BK309 (N := 3) (cs := #[.int .i64 0, .int .i64 0]) (t := 145) ?_; clear HB BK308 BK309; intro gb310 w4 BK310 GE310 HB NB308_310 NB310_308 BK308 NB309_310 NB310_309 BK309; have hnb5 := NB308_309.out; have hnc5 := NB309_308.out; have hnb6 := NB308_310.out; have hnc6 := NB310_308.out; have hz7 := cs2_ BK308; have hnb8 := NB310_309.out; have hnc8 := NB309_310.out; have hz9 := cs2_ BK310; have hz10 := cs2_ BK309))
 refine bodyPost_ret (results_cell_row rfl _ _ gb309 145 #[.int .i64 a0_0, .int .i64 a0_1] (0, 0) _ rfl (bfp2 BK309) Tryz.underlying145 rfl (by kernel_rfl)) rfl ?_
 exact ⟨er, tb HB⟩
def laws_toPairS.l0 : Nat → List (S224) → List (S145) → Int → Option ((List (S145)))
 | 0, _, _, _ => none
 | k + 1, x0, x3, x4 => if x4 < (x0.length : Int) then (if 0 ≤ x4 then ((laws_toPair.f ((rd_T224 x0 x4).f0) ((rd_T224 x0 x4).f1)).bind fun bt315 => (if x4 < (x3.length : Int) then (laws_toPairS.l0 k x0 (x3.set (x4 : Int).toNat (⟨bt315.1, bt315.2⟩ : S145)) (wrap64 (x4 + 1))) else (none))) else (none)) else (some x3)
def laws_toPairS.f (k : Nat) (l0 : List (S224)) : Option ((List (S145))) := if 0 ≤ (l0.length : Int) then (if ((l0.length : Int) : Int).toNat ≤ 17592186044416 then (laws_toPairS.l0 k l0 (List.replicate ((l0.length : Int) : Int).toNat z145) 0) else (none)) else (none)
set_option maxHeartbeats 8000000 in
set_option maxRecDepth 100000 in
theorem laws_toPairS.calls (k : Nat) (A0 : Option Addr) (c0 : Nat) (l0 : List (S224)) (r : List (S145)) (w : World) (hr0 : Kd.C k224 w A0 l0.length l0) (hc0 : l0.length ≤ c0) (h : laws_toPairS.f k l0 = some r) :
  Calls Tryz.prog 177 #[.slice A0 l0.length c0] w fun e w' => ∃ v0_ : Value, e = .returned (v0_) ∧ Kd.R k145 145 w' w.heap.size (fun _ => True) v0_ r ∧ Below w.heap.size w w' := by
 have hu224 := Tryz.underlying224
 have hu145 := Tryz.underlying145
 have HR0 := Aside0.mk hr0
 have HC0 := Aside0.mk hc0
 clear hr0 hc0
 have HB := Aside0.mk (Below.refl w.heap.size w)
 have H := h
 clear h
 unfold laws_toPairS.f at H
 obtain ⟨c2b0, c2b1, H⟩ := itb H
 obtain ⟨c3b0, c3b1, H⟩ := itb H
 obtain ⟨y311, hy311⟩ : ∃ y_ : List (S145), y_ = (List.replicate ((l0.length : Int) : Int).toNat z145) := ⟨_, rfl⟩
 replace H : (laws_toPairS.l0 k l0 y311 0) = some r := by first | (rw [hy311]; with_reducible exact H) | (have H2_ := (Option.bind_some _ _).symm.trans H; rw [hy311]; with_reducible exact H2_) | (have H2_ := (Option.bind_some _ _).symm.trans H; with_reducible exact H2_) | with_reducible exact H | (rw [hy311]; exact H) | exact H
 have Ny311 := Aside0.mk hy311
 clear hy311
 have H' := Aside0.mk H
 clear H
 go_enter Tryz.func177, Tryz.ntmps177
 go_wp2_with (first | ((with_reducible refine gq 7 rfl ?_); refine Kd.R_make k145 _ 145 rfl (N := 7) rfl 80 _ _ rfl (l0.length : Int) rfl rfl Tryz.underlying80 (.agg #[(.int .i64 0), (.int .i64 0)]) 16 info145 rfl (by decide) (by omega) z145 (ok := fun _ => True) (okp := fun _ => True) (k145_mkM _ _ _ z145 ) (fun _ hk => hk) trivial (od) (Nat.le_trans (Nat.mul_le_mul_right _ (od : (l0.length : Int).toNat ≤ 17592186044416)) (by omega)) (Below.refl _ _) (Nat.le_refl _) ?_; intro v312 w4 ho5 hb hg_ hnew_; clear hg_ hnew_; (first | rw [← Ny311.out] at ho5 | (simp only [Int.reduceToNat] at ho5; rw [← Ny311.out] at ho5)); have HO313 := Aside0.mk (Kd.R_lower ho5 (below_size (tb HB))); replace HB := bs HB hb; clear hb ho5))
 go_loopg [4] k (fun kq v4 w' => ∃ (x3_1 : List (S145)) (x4_1 : Int), v4 = .int .i64 x4_1 ∧ Aside0 (laws_toPairS.l0 kq l0 x3_1 x4_1 = some r) ∧ Aside0 (kq ≤ k) ∧ Aside0 (Kd.R k145 145 w' w.heap.size (fun _ => True) v312 x3_1) ∧ Aside0 (Below w.heap.size w w'))
 case atStart => exact ⟨(y311), (0), rsd, H', ⟨Nat.le_refl _⟩, ⟨kr HO313.out⟩, ⟨tb HB⟩⟩
 case round =>
  clear H'
  try clear c1
  try clear c2
  try clear c2b0
  try clear c2b1
  try clear p2
  try clear c3
  try clear c3b0
  try clear c3b1
  obtain ⟨x3_1, x4_1, rfl, HA, HK1, HO_3, HB⟩ := hrel
  cases gk with
  | zero => exact absurd HA.out (by simp [laws_toPairS.l0])
  | succ k1 =>
   have H := HA.out
   clear HA
   simp only [laws_toPairS.l0] at H
   revert H; refine icd (fun c6b0 H => ?_) fun c6b0 H => ?neg
   case neg =>
    obtain rfl := oin H
    go_wp2
    go_ret
    exact ⟨_, er, kr HO_3.out, tb HB⟩
   obtain ⟨c7b0, H⟩ := itd H
   obtain ⟨⟨t315, t316⟩, A8, H⟩ := bn H
   try dsimp only at H
   obtain ⟨c9b0, H⟩ := itd H
   obtain ⟨y317, hy317⟩ : ∃ y_ : List (S145), y_ = (x3_1.set (x4_1 : Int).toNat (⟨t315, t316⟩ : S145)) := ⟨_, rfl⟩
   replace H : (laws_toPairS.l0 k1 l0 y317 (wrap64 (x4_1 + 1))) = some r := by first | (rw [hy317]; with_reducible exact H) | (have H2_ := (Option.bind_some _ _).symm.trans H; rw [hy317]; with_reducible exact H2_) | (have H2_ := (Option.bind_some _ _).symm.trans H; with_reducible exact H2_) | with_reducible exact H | (rw [hy317]; exact H) | exact H
   have Ny317 := Aside0.mk hy317
   clear hy317
   have H' := Aside0.mk H
   clear H
   have p314 : 0 ≤ (x4_1 : Int) := od
   have q314 : x4_1 < (l0.length : Int) := od
   obtain ⟨ad314, e314, hx314⟩ := att224 HR0.out x4_1 p314 q314
   cases e314
   replace hx314 := ox2 HB hx314
   replace p314 := eq_true p314
   replace q314 := eq_true q314
   go_wp2_with (first | ((with_reducible refine gf 192 rfl ?_); refine gL 20 Tryz.func192 #[.agg #[.int .i64 ((rd_T224 l0 x4_1).f0), .int .i64 ((rd_T224 l0 x4_1).f1)]] ?_; (with_reducible refine (laws_toPair.calls ((rd_T224 l0 x4_1).f0) ((rd_T224 l0 x4_1).f1) t315 t316 _ A8.out).mono ?_); rintro e w11 ⟨rfl, hb⟩; refine ⟨_, rfl, ?_⟩; replace HO_3 := rb HO_3 hb; replace HB := bs HB hb; (try clear hb); have p10 : 0 ≤ (x4_1 : Int) := od; have q10 : (x4_1 : Int) < ((x3_1.length : Int) : Int) := od; obtain ⟨go10, co10, eo10, gb10, gl10, cl10, HG10⟩ := Kd.R_form HO_3.out (by omega); (first | cases eo10 | (injection eo10 with ea_ en_ ec_; (first | subst ea_ | (injection ea_ with ea_; subst ea_)); subst ec_; clear en_)); have GB10 := Aside0.mk gb10; have GG10 := Aside0.mk HG10; clear gb10 gl10 HG10; obtain ⟨ce10, hcl10, hM10, hcc10, hfr10⟩ := Kd.R_elem HO_3.out z145 (x4_1 : Int) p10 q10; obtain rfl := k145_openM hM10; have hx10_0 : w11.cell? ⟨go10, (x4_1 : Int).toNat * 2, none⟩ = some (.int .i64 ((rd_T145 x3_1 x4_1).f0)) := hcc10 0 _ rfl; have hx10_1 : w11.cell? ⟨go10, (x4_1 : Int).toNat * 2 + 1, none⟩ = some (.int .i64 ((rd_T145 x3_1 x4_1).f1)) := hcc10 1 _ rfl; have hf10_0 : w11.frozen? ⟨go10, (x4_1 : Int).toNat * 2, none⟩ = false := hfr10 0; have hf10_1 : w11.frozen? ⟨go10, (x4_1 : Int).toNat * 2 + 1, none⟩ = false := hfr10 1; clear hcl10 hcc10 hfr10 hM10; replace p10 := eq_true p10; replace q10 := eq_true q10; have HX12 := Aside0.mk (show Kd.R k145 145 w11 w.heap.size (fun _ => True) (.slice (some ⟨go10, 0, none⟩) x3_1.length co10) x3_1 from (kr HO_3.out)); obtain ⟨ce12, hcl12, hM12, hcc12, hfr12⟩ := Kd.R_elem HX12.out z145 (x4_1 : Int) (od) (by have h_ : (x4_1 : Int) < ((x3_1.length : Int) : Int) := od; first | exact h_ | (have e_ := (Kd.R_reads' HO_3.out).1; omega) | simpa using h_); obtain rfl := k145_openM hM12; have HP12 := Kd.R_seg HX12.out (x4_1 : Int) (od) (by have h_ : (x4_1 : Int) < ((x3_1.length : Int) : Int) := od; first | exact h_ | (have e_ := (Kd.R_reads' HO_3.out).1; omega) | simpa using h_) (seg := [.int .i64 t315, .int .i64 t316]) (j := 0) hcl12 hcc12 (show 2 ≤ 2 from by decide) (x' := (⟨t315, t316⟩ : S145)) (k145_mkM _ _ _ (⟨t315, t316⟩ : S145) ) (fun _ hk => hk); have hx12_0 := hcc12 0 _ rfl; (try simp only [show (k145).sz = 2 from rfl, Nat.mul_one, Nat.add_zero] at hx12_0); have hf12_0 := hfr12 0; (try simp only [show (k145).sz = 2 from rfl, Nat.mul_one, Nat.add_zero] at hf12_0); have hx12_1 := hcc12 1 _ rfl; (try simp only [show (k145).sz = 2 from rfl, Nat.mul_one, Nat.add_zero] at hx12_1); have hf12_1 := hfr12 1; (try simp only [show (k145).sz = 2 from rfl, Nat.mul_one, Nat.add_zero] at hf12_1); clear hcl12 hcc12 hfr12 hM12) | ((with_reducible refine gate_store (t := 145) (p := 21) rfl ?_); refine store_event (t := 145) (p := 21) (v := ?vo_w13) (w1 := ((w11.setCell ⟨go10, (x4_1 : Int).toNat * 2, none⟩ (.int .i64 t315)).setCell ⟨go10, (x4_1 : Int).toNat * 2 + 1, none⟩ (.int .i64 t316))) ?hg ?ho ?hn ?hr ?_; (case ho => rfl); (case hg => rfl); (case hn => rfl); (case hr => first | (go_simp; done) | (go_simp; rfl)); intro w13 hw; have hg : w11.grownBy w13 (some go10) := (by rw [hw]; exact HP12.2); have hp_ : Kd.R k145 145 w13 w.heap.size (fun _ => True) (.slice (some ⟨go10, 0, none⟩) x3_1.length co10) y317 := (by rw [hw, Ny317.out]; exact HP12.1); clear HP12; replace HO_3 := Aside0.mk (hp_); replace HB := Aside0.mk ((by rw [hw]; exact below_set (below_set (HB.out) GB10.out) GB10.out : Below w.heap.size w w13)); clear hg hw hp_))
   go_roundg k1
   case measure => have := HK1.out; omega
   case rel => exact ⟨(y317), (wrap64 (x4_1 + 1)), rsd, H', ⟨by have := HK1.out; omega⟩, ⟨kr HO_3.out⟩, ⟨tb HB⟩⟩
def laws_toHelp.f (a0_0 : Int) (a0_1 : Int) (a0_2 : Int) (a0_3 : Int) : Option (Int × Int × Int × Int) := some (a0_0, a0_1, a0_2, a0_3)
set_option maxHeartbeats 8000000 in
set_option maxRecDepth 100000 in
theorem laws_toHelp.calls (a0_0 : Int) (a0_1 : Int) (a0_2 : Int) (a0_3 : Int) (r1 : Int) (r2 : Int) (r3 : Int) (r4 : Int) (w : World) (h : laws_toHelp.f a0_0 a0_1 a0_2 a0_3 = some (r1, r2, r3, r4)) :
  Calls Tryz.prog 193 #[.agg #[.int .i64 a0_0, .int .i64 a0_1, .int .i64 a0_2, .int .i64 a0_3]] w fun e w' => e = .returned (.agg #[.int .i64 r1, .int .i64 r2, .int .i64 r3, .int .i64 r4]) ∧ Below w.heap.size w w' := by
 have hu226 := Tryz.underlying226
 have hu42 := Tryz.underlying42
 have HB := Aside0.mk (Below.refl w.heap.size w)
 have H := h
 clear h
 unfold laws_toHelp.f at H
 simp only [Option.some.injEq, Prod.mk.injEq] at H
 obtain ⟨rfl, rfl, rfl, rfl⟩ := H
 go_enter Tryz.func193, Tryz.ntmps193
 go_wp2_with (first | ((with_reducible refine gq 1 rfl ?_); refine bx0 HB (N := 1) (t := 226) ?_; clear HB; intro gb318 w2 BK318 GE318 HB) | ((with_reducible refine gq 2 rfl ?_); refine bx1 HB BK318 (N := 2) (cs := #[.int .i64 0, .int .i64 0, .int .i64 0, .int .i64 0]) (t := 42) ?_; clear HB BK318; intro gb319 w3 BK319 GE319 HB NB318_319 NB319_318 BK318) | ((with_reducible refine gq 3 rfl ?_); refine bx2 HB BK318 BK319 (N := 3) (cs := #[.int .i64 0, .int .i64 0, .int .i64 0, .int .i64 0]) (t := 42) ?_; clear HB BK318 BK319; intro gb320 w4 BK320 GE320 HB NB318_320 NB320_318 BK318 NB319_320 NB320_319 BK319; have hnb5 := NB318_319.out; have hnc5 := NB319_318.out; have hnb6 := NB318_320.out; have hnc6 := NB320_318.out; have hz7 := cs4_ BK318; have hnb8 := NB320_319.out; have hnc8 := NB319_320.out; have hz9 := cs4_ BK320; have hz10 := cs4_ BK319))
 refine bodyPost_ret (results_cell_row rfl _ _ gb319 42 #[.int .i64 a0_0, .int .i64 a0_1, .int .i64 a0_2, .int .i64 a0_3] (0, 0) _ rfl (bfp4 BK319) Tryz.underlying42 rfl (by kernel_rfl)) rfl ?_
 exact ⟨er, tb HB⟩
def laws_toHelpS.l0 : Nat → List (S226) → List (S42) → Int → Option ((List (S42)))
 | 0, _, _, _ => none
 | k + 1, x0, x3, x4 => if x4 < (x0.length : Int) then (if 0 ≤ x4 then ((laws_toHelp.f ((rd_T226 x0 x4).f0) ((rd_T226 x0 x4).f1) ((rd_T226 x0 x4).f2) ((rd_T226 x0 x4).f3)).bind fun bt325 => (if x4 < (x3.length : Int) then (laws_toHelpS.l0 k x0 (x3.set (x4 : Int).toNat (⟨bt325.1, bt325.2.1, bt325.2.2.1, bt325.2.2.2⟩ : S42)) (wrap64 (x4 + 1))) else (none))) else (none)) else (some x3)
def laws_toHelpS.f (k : Nat) (l0 : List (S226)) : Option ((List (S42))) := if 0 ≤ (l0.length : Int) then (if ((l0.length : Int) : Int).toNat ≤ 8796093022208 then (laws_toHelpS.l0 k l0 (List.replicate ((l0.length : Int) : Int).toNat z42) 0) else (none)) else (none)
set_option maxHeartbeats 8000000 in
set_option maxRecDepth 100000 in
theorem laws_toHelpS.calls (k : Nat) (A0 : Option Addr) (c0 : Nat) (l0 : List (S226)) (r : List (S42)) (w : World) (hr0 : Kd.C k226 w A0 l0.length l0) (hc0 : l0.length ≤ c0) (h : laws_toHelpS.f k l0 = some r) :
  Calls Tryz.prog 178 #[.slice A0 l0.length c0] w fun e w' => ∃ v0_ : Value, e = .returned (v0_) ∧ Kd.R k42 42 w' w.heap.size (fun _ => True) v0_ r ∧ Below w.heap.size w w' := by
 have hu226 := Tryz.underlying226
 have hu42 := Tryz.underlying42
 have HR0 := Aside0.mk hr0
 have HC0 := Aside0.mk hc0
 clear hr0 hc0
 have HB := Aside0.mk (Below.refl w.heap.size w)
 have H := h
 clear h
 unfold laws_toHelpS.f at H
 obtain ⟨c2b0, c2b1, H⟩ := itb H
 obtain ⟨c3b0, c3b1, H⟩ := itb H
 obtain ⟨y321, hy321⟩ : ∃ y_ : List (S42), y_ = (List.replicate ((l0.length : Int) : Int).toNat z42) := ⟨_, rfl⟩
 replace H : (laws_toHelpS.l0 k l0 y321 0) = some r := by first | (rw [hy321]; with_reducible exact H) | (have H2_ := (Option.bind_some _ _).symm.trans H; rw [hy321]; with_reducible exact H2_) | (have H2_ := (Option.bind_some _ _).symm.trans H; with_reducible exact H2_) | with_reducible exact H | (rw [hy321]; exact H) | exact H
 have Ny321 := Aside0.mk hy321
 clear hy321
 have H' := Aside0.mk H
 clear H
 go_enter Tryz.func178, Tryz.ntmps178
 go_wp2_with (first | ((with_reducible refine gq 7 rfl ?_); refine Kd.R_make k42 _ 42 rfl (N := 7) rfl 45 _ _ rfl (l0.length : Int) rfl rfl Tryz.underlying45 (.agg #[(.int .i64 0), (.int .i64 0), (.int .i64 0), (.int .i64 0)]) 32 info42 rfl (by decide) (by omega) z42 (ok := fun _ => True) (okp := fun _ => True) (k42_mkM _ _ _ z42 ) (fun _ hk => hk) trivial (od) (Nat.le_trans (Nat.mul_le_mul_right _ (od : (l0.length : Int).toNat ≤ 8796093022208)) (by omega)) (Below.refl _ _) (Nat.le_refl _) ?_; intro v322 w4 ho5 hb hg_ hnew_; clear hg_ hnew_; (first | rw [← Ny321.out] at ho5 | (simp only [Int.reduceToNat] at ho5; rw [← Ny321.out] at ho5)); have HO323 := Aside0.mk (Kd.R_lower ho5 (below_size (tb HB))); replace HB := bs HB hb; clear hb ho5))
 go_loopg [4] k (fun kq v4 w' => ∃ (x3_1 : List (S42)) (x4_1 : Int), v4 = .int .i64 x4_1 ∧ Aside0 (laws_toHelpS.l0 kq l0 x3_1 x4_1 = some r) ∧ Aside0 (kq ≤ k) ∧ Aside0 (Kd.R k42 42 w' w.heap.size (fun _ => True) v322 x3_1) ∧ Aside0 (Below w.heap.size w w'))
 case atStart => exact ⟨(y321), (0), rsd, H', ⟨Nat.le_refl _⟩, ⟨kr HO323.out⟩, ⟨tb HB⟩⟩
 case round =>
  clear H'
  try clear c1
  try clear c2
  try clear c2b0
  try clear c2b1
  try clear p2
  try clear c3
  try clear c3b0
  try clear c3b1
  obtain ⟨x3_1, x4_1, rfl, HA, HK1, HO_3, HB⟩ := hrel
  cases gk with
  | zero => exact absurd HA.out (by simp [laws_toHelpS.l0])
  | succ k1 =>
   have H := HA.out
   clear HA
   simp only [laws_toHelpS.l0] at H
   revert H; refine icd (fun c6b0 H => ?_) fun c6b0 H => ?neg
   case neg =>
    obtain rfl := oin H
    go_wp2
    go_ret
    exact ⟨_, er, kr HO_3.out, tb HB⟩
   obtain ⟨c7b0, H⟩ := itd H
   obtain ⟨⟨t325, t326, t327, t328⟩, A8, H⟩ := bn H
   try dsimp only at H
   obtain ⟨c9b0, H⟩ := itd H
   obtain ⟨y329, hy329⟩ : ∃ y_ : List (S42), y_ = (x3_1.set (x4_1 : Int).toNat (⟨t325, t326, t327, t328⟩ : S42)) := ⟨_, rfl⟩
   replace H : (laws_toHelpS.l0 k1 l0 y329 (wrap64 (x4_1 + 1))) = some r := by first | (rw [hy329]; with_reducible exact H) | (have H2_ := (Option.bind_some _ _).symm.trans H; rw [hy329]; with_reducible exact H2_) | (have H2_ := (Option.bind_some _ _).symm.trans H; with_reducible exact H2_) | with_reducible exact H | (rw [hy329]; exact H) | exact H
   have Ny329 := Aside0.mk hy329
   clear hy329
   have H' := Aside0.mk H
   clear H
   have p324 : 0 ≤ (x4_1 : Int) := od
   have q324 : x4_1 < (l0.length : Int) := od
   obtain ⟨ad324, e324, hx324⟩ := att226 HR0.out x4_1 p324 q324
   cases e324
   replace hx324 := ox4 HB hx324
   replace p324 := eq_true p324
   replace q324 := eq_true q324
   go_wp2_with (first | ((with_reducible refine gf 193 rfl ?_); refine gL 20 Tryz.func193 #[.agg #[.int .i64 ((rd_T226 l0 x4_1).f0), .int .i64 ((rd_T226 l0 x4_1).f1), .int .i64 ((rd_T226 l0 x4_1).f2), .int .i64 ((rd_T226 l0 x4_1).f3)]] ?_; (with_reducible refine (laws_toHelp.calls ((rd_T226 l0 x4_1).f0) ((rd_T226 l0 x4_1).f1) ((rd_T226 l0 x4_1).f2) ((rd_T226 l0 x4_1).f3) t325 t326 t327 t328 _ A8.out).mono ?_); rintro e w11 ⟨rfl, hb⟩; refine ⟨_, rfl, ?_⟩; replace HO_3 := rb HO_3 hb; replace HB := bs HB hb; (try clear hb); have p10 : 0 ≤ (x4_1 : Int) := od; have q10 : (x4_1 : Int) < ((x3_1.length : Int) : Int) := od; obtain ⟨go10, co10, eo10, gb10, gl10, cl10, HG10⟩ := Kd.R_form HO_3.out (by omega); (first | cases eo10 | (injection eo10 with ea_ en_ ec_; (first | subst ea_ | (injection ea_ with ea_; subst ea_)); subst ec_; clear en_)); have GB10 := Aside0.mk gb10; have GG10 := Aside0.mk HG10; clear gb10 gl10 HG10; obtain ⟨ce10, hcl10, hM10, hcc10, hfr10⟩ := Kd.R_elem HO_3.out z42 (x4_1 : Int) p10 q10; obtain rfl := k42_openM hM10; have hx10_0 : w11.cell? ⟨go10, (x4_1 : Int).toNat * 4, none⟩ = some (.int .i64 ((rd_T42 x3_1 x4_1).f0)) := hcc10 0 _ rfl; have hx10_1 : w11.cell? ⟨go10, (x4_1 : Int).toNat * 4 + 1, none⟩ = some (.int .i64 ((rd_T42 x3_1 x4_1).f1)) := hcc10 1 _ rfl; have hx10_2 : w11.cell? ⟨go10, (x4_1 : Int).toNat * 4 + 2, none⟩ = some (.int .i64 ((rd_T42 x3_1 x4_1).f2)) := hcc10 2 _ rfl; have hx10_3 : w11.cell? ⟨go10, (x4_1 : Int).toNat * 4 + 3, none⟩ = some (.int .i64 ((rd_T42 x3_1 x4_1).f3)) := hcc10 3 _ rfl; have hf10_0 : w11.frozen? ⟨go10, (x4_1 : Int).toNat * 4, none⟩ = false := hfr10 0; have hf10_1 : w11.frozen? ⟨go10, (x4_1 : Int).toNat * 4 + 1, none⟩ = false := hfr10 1; have hf10_2 : w11.frozen? ⟨go10, (x4_1 : Int).toNat * 4 + 2, none⟩ = false := hfr10 2; have hf10_3 : w11.frozen? ⟨go10, (x4_1 : Int).toNat * 4 + 3, none⟩ = false := hfr10 3; clear hcl10 hcc10 hfr10 hM10; replace p10 := eq_true p10; replace q10 := eq_true q10; have HX12 := Aside0.mk (show Kd.R k42 42 w11 w.heap.size (fun _ => True) (.slice (some ⟨go10, 0, none⟩) x3_1.length co10) x3_1 from (kr HO_3.out)); obtain ⟨ce12, hcl12, hM12, hcc12, hfr12⟩ := Kd.R_elem HX12.out z42 (x4_1 : Int) (od) (by have h_ : (x4_1 : Int) < ((x3_1.length : Int) : Int) := od; first | exact h_ | (have e_ := (Kd.R_reads' HO_3.out).1; omega) | simpa using h_); obtain rfl := k42_openM hM12; have HP12 := Kd.R_seg HX12.out (x4_1 : Int) (od) (by have h_ : (x4_1 : Int) < ((x3_1.length : Int) : Int) := od; first | exact h_ | (have e_ := (Kd.R_reads' HO_3.out).1; omega) | simpa using h_) (seg := [.int .i64 t325, .int .i64 t326, .int .i64 t327, .int .i64 t328]) (j := 0) hcl12 hcc12 (show 4 ≤ 4 from by decide) (x' := (⟨t325, t326, t327, t328⟩ : S42)) (k42_mkM _ _ _ (⟨t325, t326, t327, t328⟩ : S42) ) (fun _ hk => hk); have hx12_0 := hcc12 0 _ rfl; (try simp only [show (k42).sz = 4 from rfl, Nat.mul_one, Nat.add_zero] at hx12_0); have hf12_0 := hfr12 0; (try simp only [show (k42).sz = 4 from rfl, Nat.mul_one, Nat.add_zero] at hf12_0); have hx12_1 := hcc12 1 _ rfl; (try simp only [show (k42).sz = 4 from rfl, Nat.mul_one, Nat.add_zero] at hx12_1); have hf12_1 := hfr12 1; (try simp only [show (k42).sz = 4 from rfl, Nat.mul_one, Nat.add_zero] at hf12_1); have hx12_2 := hcc12 2 _ rfl; (try simp only [show (k42).sz = 4 from rfl, Nat.mul_one, Nat.add_zero] at hx12_2); have hf12_2 := hfr12 2; (try simp only [show (k42).sz = 4 from rfl, Nat.mul_one, Nat.add_zero] at hf12_2); have hx12_3 := hcc12 3 _ rfl; (try simp only [show (k42).sz = 4 from rfl, Nat.mul_one, Nat.add_zero] at hx12_3); have hf12_3 := hfr12 3; (try simp only [show (k42).sz = 4 from rfl, Nat.mul_one, Nat.add_zero] at hf12_3); clear hcl12 hcc12 hfr12 hM12) | ((with_reducible refine gate_store (t := 42) (p := 21) rfl ?_); refine store_event (t := 42) (p := 21) (v := ?vo_w13) (w1 := ((((w11.setCell ⟨go10, (x4_1 : Int).toNat * 4, none⟩ (.int .i64 t325)).setCell ⟨go10, (x4_1 : Int).toNat * 4 + 1, none⟩ (.int .i64 t326)).setCell ⟨go10, (x4_1 : Int).toNat * 4 + 2, none⟩ (.int .i64 t327)).setCell ⟨go10, (x4_1 : Int).toNat * 4 + 3, none⟩ (.int .i64 t328))) ?hg ?ho ?hn ?hr ?_; (case ho => rfl); (case hg => rfl); (case hn => rfl); (case hr => first | (go_simp; done) | (go_simp; rfl)); intro w13 hw; have hg : w11.grownBy w13 (some go10) := (by rw [hw]; exact HP12.2); have hp_ : Kd.R k42 42 w13 w.heap.size (fun _ => True) (.slice (some ⟨go10, 0, none⟩) x3_1.length co10) y329 := (by rw [hw, Ny329.out]; exact HP12.1); clear HP12; replace HO_3 := Aside0.mk (hp_); replace HB := Aside0.mk ((by rw [hw]; exact below_set (below_set (below_set (below_set (HB.out) GB10.out) GB10.out) GB10.out) GB10.out : Below w.heap.size w w13)); clear hg hw hp_))
   go_roundg k1
   case measure => have := HK1.out; omega
   case rel => exact ⟨(y329), (wrap64 (x4_1 + 1)), rsd, H', ⟨by have := HK1.out; omega⟩, ⟨kr HO_3.out⟩, ⟨tb HB⟩⟩
def laws_toThread.f (k : Nat) (l0_0 : List (S173)) (a0_1 : Int) (a0_2 : Bool) (l0_3 : List (S224)) (l0_4 : List (S226)) : Option ((List (S132)) × Int × Bool × (List (S145)) × (List (S42))) := (laws_toOpS.f k l0_0).bind fun t333 => ((laws_toPairS.f k l0_3).bind fun t336 => ((laws_toHelpS.f k l0_4).bind fun t339 => (some (t333, a0_1, a0_2, t336, t339))))
set_option maxHeartbeats 8000000 in
set_option maxRecDepth 100000 in
theorem laws_toThread.calls (k : Nat) (A0_0 : Option Addr) (c0_0 : Nat) (l0_0 : List (S173)) (a0_1 : Int) (a0_2 : Bool) (A0_3 : Option Addr) (c0_3 : Nat) (l0_3 : List (S224)) (A0_4 : Option Addr) (c0_4 : Nat) (l0_4 : List (S226)) (r1 : List (S132)) (r2 : Int) (r3 : Bool) (r4 : List (S145)) (r5 : List (S42)) (w : World) (hr0_0 : Kd.C k173 w A0_0 l0_0.length l0_0) (hc0_0 : l0_0.length ≤ c0_0) (hr0_3 : Kd.C k224 w A0_3 l0_3.length l0_3) (hc0_3 : l0_3.length ≤ c0_3) (hr0_4 : Kd.C k226 w A0_4 l0_4.length l0_4) (hc0_4 : l0_4.length ≤ c0_4) (h : laws_toThread.f k l0_0 a0_1 a0_2 l0_3 l0_4 = some (r1, r2, r3, r4, r5)) :
  Calls Tryz.prog 146 #[.agg #[.slice A0_0 l0_0.length c0_0, .int .i64 a0_1, .bool a0_2, .slice A0_3 l0_3.length c0_3, .slice A0_4 l0_4.length c0_4]] w fun e w' => ∃ v0_ v3_ v4_ : Value, e = .returned (.agg #[v0_, .int .i64 r2, .bool r3, v3_, v4_]) ∧ Kd.R k132 132 w' w.heap.size (fun _ => True) v0_ r1 ∧ Kd.R k145 145 w' w.heap.size (fun _ => True) v3_ r4 ∧ Kd.R k42 42 w' w.heap.size (fun _ => True) v4_ r5 ∧ Below w.heap.size w w' := by
 have hu171 := Tryz.underlying171
 have hu82 := Tryz.underlying82
 have HR0_0 := Aside0.mk hr0_0
 have HC0_0 := Aside0.mk hc0_0
 clear hr0_0 hc0_0
 have HR0_3 := Aside0.mk hr0_3
 have HC0_3 := Aside0.mk hc0_3
 clear hr0_3 hc0_3
 have HR0_4 := Aside0.mk hr0_4
 have HC0_4 := Aside0.mk hc0_4
 clear hr0_4 hc0_4
 have HB := Aside0.mk (Below.refl w.heap.size w)
 have H := h
 clear h
 unfold laws_toThread.f at H
 obtain ⟨t333, A2, H⟩ := bn H
 try dsimp only at H
 obtain ⟨t336, A3, H⟩ := bn H
 try dsimp only at H
 obtain ⟨t339, A4, H⟩ := bn H
 try dsimp only at H
 simp only [Option.some.injEq, Prod.mk.injEq] at H
 obtain ⟨rfl, rfl, rfl, rfl, rfl⟩ := H
 go_enter Tryz.func146, Tryz.ntmps146
 go_wp2_with (first | ((with_reducible refine gq 1 rfl ?_); refine bx0 HB (N := 1) (t := 171) ?_; clear HB; intro gb330 w5 BK330 GE330 HB) | ((with_reducible refine gq 2 rfl ?_); refine bx1 HB BK330 (N := 2) (cs := #[.slice none 0 0, .int .i64 0, .bool false, .slice none 0 0, .slice none 0 0]) (t := 82) ?_; clear HB BK330; intro gb331 w6 BK331 GE331 HB NB330_331 NB331_330 BK330) | ((with_reducible refine gq 3 rfl ?_); refine bx2 HB BK330 BK331 (N := 3) (cs := #[.slice none 0 0, .int .i64 0, .bool false, .slice none 0 0, .slice none 0 0]) (t := 82) ?_; clear HB BK330 BK331; intro gb332 w7 BK332 GE332 HB NB330_332 NB332_330 BK330 NB331_332 NB332_331 BK331; have hnb8 := NB330_331.out; have hnc8 := NB331_330.out; have hnb9 := NB330_332.out; have hnc9 := NB332_330.out; have hz10 := cs5_ BK330) | ((with_reducible refine gf 176 rfl ?_); refine gL 6 Tryz.func176 #[.slice A0_0 l0_0.length c0_0] ?_; (with_reducible refine (laws_toOpS.calls k _ _ l0_0 t333 _ (kc HR0_0 HB) HC0_0.out A2.out).mono ?_); rintro e w11 ⟨v334, rfl, ho0, hb⟩; refine ⟨_, rfl, ?_⟩; have HO335 := Aside0.mk (Kd.R_lower ho0 (below_size (tb HB))); replace BK330 := bb BK330 hb; replace BK331 := bb BK331 hb; replace BK332 := bb BK332 hb; replace HB := bs HB hb; (try clear hb); (try clear ho0); obtain ⟨Ao12, co12, eo12⟩ := Kd.R_slice HO335.out; subst eo12; have hnb13 := NB332_331.out; have hnc13 := NB331_332.out; have hz14 := cs5_ BK332; have hz15 := cs5_ BK330) | ((with_reducible refine gf 177 rfl ?_); refine gL 16 Tryz.func177 #[.slice A0_3 l0_3.length c0_3] ?_; (with_reducible refine (laws_toPairS.calls k _ _ l0_3 t336 _ ?side1 HC0_3.out A3.out).mono ?_); (case side1 => exact Kd.C_below HR0_3.out (tb HB)); rintro e w16 ⟨v337, rfl, ho0, hb⟩; refine ⟨_, rfl, ?_⟩; replace HO335 := Aside0.mk (Kd.R_below (kr ((Kd.R_mono (Kd.R_far (p := ⟨gb332, 2, none⟩) (Kd.R_far (p := ⟨gb332, 1, none⟩) (Kd.R_far (p := ⟨gb332, 0, none⟩) (Kd.R_types HO335.out BK332.out (by decide)) (fun _ hk => hk.2) (.slice Ao12 t333.length co12)) (fun _ hk => hk.2) (.int .i64 a0_1)) (fun _ hk => hk.2) (.bool a0_2)) (fun _ h_ => h_.1)))) hb); have HO338 := Aside0.mk (Kd.R_lower ho0 (below_size (tb HB))); replace BK330 := bbf BK330 hb; replace BK331 := bbf BK331 hb; replace BK332 := Aside0.mk (blk_below (g := gb332) (o := .cells #[.slice Ao12 t333.length co12, .int .i64 a0_1, .bool a0_2, .slice none 0 0, .slice none 0 0] 82 (0, 0)) (by (with_reducible repeat (first | refine blk_drewN ?_ _ | refine blk_drew ?_ | refine blk_alloc ?_ _)); refine blk_put (cs := #[.slice Ao12 t333.length co12, .int .i64 a0_1, .bool false, .slice none 0 0, .slice none 0 0]) ?_ 2 _ rfl; (with_reducible repeat (first | refine blk_drewN ?_ _ | refine blk_drew ?_ | refine blk_alloc ?_ _)); refine blk_put (cs := #[.slice Ao12 t333.length co12, .int .i64 0, .bool false, .slice none 0 0, .slice none 0 0]) ?_ 1 _ rfl; (with_reducible repeat (first | refine blk_drewN ?_ _ | refine blk_drew ?_ | refine blk_alloc ?_ _)); refine blk_put (cs := #[.slice none 0 0, .int .i64 0, .bool false, .slice none 0 0, .slice none 0 0]) ?_ 0 _ rfl; (with_reducible repeat (first | refine blk_drewN ?_ _ | refine blk_drew ?_ | refine blk_alloc ?_ _)); exact BK332.out) hb); replace HB := bs HB hb; (try clear hb); (try clear hk); (try clear ho0); obtain ⟨Ao17, co17, eo17⟩ := Kd.R_slice HO338.out; subst eo17; have hz18 := cs5_ BK332; have hz19 := cs5_ BK330) | ((with_reducible refine gf 178 rfl ?_); refine gL 20 Tryz.func178 #[.slice A0_4 l0_4.length c0_4] ?_; (with_reducible refine (laws_toHelpS.calls k _ _ l0_4 t339 _ ?side1 HC0_4.out A4.out).mono ?_); (case side1 => exact Kd.C_below HR0_4.out (tb HB)); rintro e w20 ⟨v340, rfl, ho0, hb⟩; refine ⟨_, rfl, ?_⟩; replace HO335 := Aside0.mk (Kd.R_below (kr ((Kd.R_mono (Kd.R_far (p := ⟨gb332, 3, none⟩) (Kd.R_types HO335.out BK332.out (by decide)) (fun _ hk => hk.2) (.slice Ao17 t336.length co17)) (fun _ h_ => h_.1)))) hb); replace HO338 := Aside0.mk (Kd.R_below (kr ((Kd.R_mono (Kd.R_far (p := ⟨gb332, 3, none⟩) (Kd.R_types HO338.out BK332.out (by decide)) (fun _ hk => hk.2) (.slice Ao17 t336.length co17)) (fun _ h_ => h_.1)))) hb); have HO341 := Aside0.mk (Kd.R_lower ho0 (below_size (tb HB))); replace BK330 := bbf BK330 hb; replace BK331 := bbf BK331 hb; replace BK332 := Aside0.mk (blk_below (g := gb332) (o := .cells #[.slice Ao12 t333.length co12, .int .i64 a0_1, .bool a0_2, .slice Ao17 t336.length co17, .slice none 0 0] 82 (0, 0)) (by (with_reducible repeat (first | refine blk_drewN ?_ _ | refine blk_drew ?_ | refine blk_alloc ?_ _)); refine blk_put (cs := #[.slice Ao12 t333.length co12, .int .i64 a0_1, .bool a0_2, .slice none 0 0, .slice none 0 0]) ?_ 3 _ rfl; (with_reducible repeat (first | refine blk_drewN ?_ _ | refine blk_drew ?_ | refine blk_alloc ?_ _)); exact BK332.out) hb); replace HB := bs HB hb; (try clear hb); (try clear hk); (try clear ho0); obtain ⟨Ao21, co21, eo21⟩ := Kd.R_slice HO341.out; subst eo21; have hz22 := cs5_ BK332; have hz23 := cs5_ BK331))
 refine bodyPost_ret (results_cell_row rfl _ _ gb331 82 #[.slice Ao12 t333.length co12, .int .i64 a0_1, .bool a0_2, .slice Ao17 t336.length co17, .slice Ao21 t339.length co21] (0, 0) _ rfl (bfp5 BK331) Tryz.underlying82 rfl (by kernel_rfl)) rfl ?_
 exact ⟨_, _, _, er, by (with_reducible repeat (first | apply Kd.R_alloc | apply Kd.R_drewN | apply Kd.R_drew)); exact Kd.R_mono (Kd.R_far (p := ⟨gb331, 4, none⟩) (Kd.R_far (p := ⟨gb331, 3, none⟩) (Kd.R_far (p := ⟨gb331, 2, none⟩) (Kd.R_far (p := ⟨gb331, 1, none⟩) (Kd.R_far (p := ⟨gb331, 0, none⟩) (Kd.R_far (p := ⟨gb332, 4, none⟩) (Kd.R_types (Kd.R_types HO335.out BK332.out (by decide)) BK331.out (by decide)) (fun _ hk => hk.1.2) (.slice Ao21 t339.length co21)) (fun _ hk => hk.2) (.slice Ao12 t333.length co12)) (fun _ hk => hk.2) (.int .i64 a0_1)) (fun _ hk => hk.2) (.bool a0_2)) (fun _ hk => hk.2) (.slice Ao17 t336.length co17)) (fun _ hk => hk.2) (.slice Ao21 t339.length co21)) (fun _ hk => trivial), by (with_reducible repeat (first | apply Kd.R_alloc | apply Kd.R_drewN | apply Kd.R_drew)); exact Kd.R_mono (Kd.R_far (p := ⟨gb331, 4, none⟩) (Kd.R_far (p := ⟨gb331, 3, none⟩) (Kd.R_far (p := ⟨gb331, 2, none⟩) (Kd.R_far (p := ⟨gb331, 1, none⟩) (Kd.R_far (p := ⟨gb331, 0, none⟩) (Kd.R_far (p := ⟨gb332, 4, none⟩) (Kd.R_types (Kd.R_types HO338.out BK332.out (by decide)) BK331.out (by decide)) (fun _ hk => hk.1.2) (.slice Ao21 t339.length co21)) (fun _ hk => hk.2) (.slice Ao12 t333.length co12)) (fun _ hk => hk.2) (.int .i64 a0_1)) (fun _ hk => hk.2) (.bool a0_2)) (fun _ hk => hk.2) (.slice Ao17 t336.length co17)) (fun _ hk => hk.2) (.slice Ao21 t339.length co21)) (fun _ hk => trivial), by (with_reducible repeat (first | apply Kd.R_alloc | apply Kd.R_drewN | apply Kd.R_drew)); exact Kd.R_mono (Kd.R_far (p := ⟨gb331, 4, none⟩) (Kd.R_far (p := ⟨gb331, 3, none⟩) (Kd.R_far (p := ⟨gb331, 2, none⟩) (Kd.R_far (p := ⟨gb331, 1, none⟩) (Kd.R_far (p := ⟨gb331, 0, none⟩) (Kd.R_far (p := ⟨gb332, 4, none⟩) (Kd.R_types (Kd.R_types HO341.out BK332.out (by decide)) BK331.out (by decide)) (fun _ hk => hk.1.2) (.slice Ao21 t339.length co21)) (fun _ hk => hk.2) (.slice Ao12 t333.length co12)) (fun _ hk => hk.2) (.int .i64 a0_1)) (fun _ hk => hk.2) (.bool a0_2)) (fun _ hk => hk.2) (.slice Ao17 t336.length co17)) (fun _ hk => hk.2) (.slice Ao21 t339.length co21)) (fun _ hk => trivial), tb HB⟩
def laws_toThreadS.l0 : Nat → List (S171) → List (S82) → Int → Option ((List (S82)))
 | 0, _, _, _ => none
 | k + 1, x0, x3, x4 => if x4 < (x0.length : Int) then (if 0 ≤ x4 then ((laws_toThread.f k ((rd_T171 x0 x4).f0) ((rd_T171 x0 x4).f1) ((rd_T171 x0 x4).f2) ((rd_T171 x0 x4).f3) ((rd_T171 x0 x4).f4)).bind fun bt346 => (if x4 < (x3.length : Int) then (laws_toThreadS.l0 k x0 (x3.set (x4 : Int).toNat (⟨bt346.1, bt346.2.1, bt346.2.2.1, bt346.2.2.2.1, bt346.2.2.2.2⟩ : S82)) (wrap64 (x4 + 1))) else (none))) else (none)) else (some x3)
def laws_toThreadS.f (k : Nat) (l0 : List (S171)) : Option ((List (S82))) := if 0 ≤ (l0.length : Int) then (if ((l0.length : Int) : Int).toNat ≤ 3198579280802 then (laws_toThreadS.l0 k l0 (List.replicate ((l0.length : Int) : Int).toNat z82) 0) else (none)) else (none)
set_option maxHeartbeats 8000000 in
set_option maxRecDepth 100000 in
theorem laws_toThreadS.calls (k : Nat) (A0 : Option Addr) (c0 : Nat) (l0 : List (S171)) (r : List (S82)) (w : World) (hr0 : Kd.C k171 w A0 l0.length l0) (hc0 : l0.length ≤ c0) (h : laws_toThreadS.f k l0 = some r) :
  Calls Tryz.prog 89 #[.slice A0 l0.length c0] w fun e w' => ∃ v0_ : Value, e = .returned (v0_) ∧ Kd.S k82 82 w' w.heap.size (fun _ => True) v0_ r ∧ Below w.heap.size w w' := by
 have hu171 := Tryz.underlying171
 have hu82 := Tryz.underlying82
 have HR0 := Aside0.mk hr0
 have HC0 := Aside0.mk hc0
 clear hr0 hc0
 have HB := Aside0.mk (Below.refl w.heap.size w)
 have H := h
 clear h
 unfold laws_toThreadS.f at H
 obtain ⟨c2b0, c2b1, H⟩ := itb H
 obtain ⟨c3b0, c3b1, H⟩ := itb H
 obtain ⟨y342, hy342⟩ : ∃ y_ : List (S82), y_ = (List.replicate ((l0.length : Int) : Int).toNat z82) := ⟨_, rfl⟩
 replace H : (laws_toThreadS.l0 k l0 y342 0) = some r := by first | (rw [hy342]; with_reducible exact H) | (have H2_ := (Option.bind_some _ _).symm.trans H; rw [hy342]; with_reducible exact H2_) | (have H2_ := (Option.bind_some _ _).symm.trans H; with_reducible exact H2_) | with_reducible exact H | (rw [hy342]; exact H) | exact H
 have Ny342 := Aside0.mk hy342
 clear hy342
 have H' := Aside0.mk H
 clear H
 go_enter Tryz.func89, Tryz.ntmps89
 go_wp2_with (first | ((with_reducible refine gq 7 rfl ?_); refine Kd.S_make k82 _ 82 rfl (N := 7) rfl 71 _ _ rfl (l0.length : Int) rfl rfl Tryz.underlying71 (.agg #[(.slice none 0 0), (.int .i64 0), (.bool false), (.slice none 0 0), (.slice none 0 0)]) 88 info82 rfl (by decide) (by omega) z82 (ok := fun _ => True) (okp := fun _ => True) (k82_mkM _ _ _ z82 (Kd.R_nil _ _ _ _ _) (Kd.R_nil _ _ _ _ _) (Kd.R_nil _ _ _ _ _)) (fun _ hk => hk) trivial (od) (Nat.le_trans (Nat.mul_le_mul_right _ (od : (l0.length : Int).toNat ≤ 3198579280802)) (by omega)) (Below.refl _ _) (Nat.le_refl _) ?_; intro v343 w4 ho5 hb hg_ hnew_; clear hg_ hnew_; (first | rw [← Ny342.out] at ho5 | (simp only [Int.reduceToNat] at ho5; rw [← Ny342.out] at ho5)); have HO344 := Aside0.mk (Kd.S_lower ho5 (below_size (tb HB))); replace HB := bs HB hb; clear hb ho5))
 go_loopg [4] k (fun kq v4 w' => ∃ (x3_1 : List (S82)) (x4_1 : Int), v4 = .int .i64 x4_1 ∧ Aside0 (laws_toThreadS.l0 kq l0 x3_1 x4_1 = some r) ∧ Aside0 (kq ≤ k) ∧ Aside0 (Kd.S k82 82 w' w.heap.size (fun _ => True) v343 x3_1) ∧ Aside0 (Below w.heap.size w w'))
 case atStart => exact ⟨(y342), (0), rsd, H', ⟨Nat.le_refl _⟩, ⟨by (with_reducible repeat (first | apply Kd.S_alloc | apply Kd.S_drewN | apply Kd.S_drew)); exact HO344.out⟩, ⟨tb HB⟩⟩
 case round =>
  clear H'
  try clear c2
  try clear c2b0
  try clear c2b1
  try clear p2
  try clear c3
  try clear c3b0
  try clear c3b1
  obtain ⟨x3_1, x4_1, rfl, HA, HK1, HO_3, HB⟩ := hrel
  cases gk with
  | zero => exact absurd HA.out (by simp [laws_toThreadS.l0])
  | succ k1 =>
   have H := HA.out
   clear HA
   simp only [laws_toThreadS.l0] at H
   revert H; refine icd (fun c6b0 H => ?_) fun c6b0 H => ?neg
   case neg =>
    obtain rfl := oin H
    go_wp2
    go_ret
    exact ⟨_, er, by (with_reducible repeat (first | apply Kd.S_alloc | apply Kd.S_drewN | apply Kd.S_drew)); exact HO_3.out, tb HB⟩
   obtain ⟨c7b0, H⟩ := itd H
   obtain ⟨⟨t346, t349, t350, t351, t354⟩, A8, H⟩ := bn H
   try dsimp only at H
   obtain ⟨c9b0, H⟩ := itd H
   obtain ⟨y357, hy357⟩ : ∃ y_ : List (S82), y_ = (x3_1.set (x4_1 : Int).toNat (⟨t346, t349, t350, t351, t354⟩ : S82)) := ⟨_, rfl⟩
   replace H : (laws_toThreadS.l0 k1 l0 y357 (wrap64 (x4_1 + 1))) = some r := by first | (rw [hy357]; with_reducible exact H) | (have H2_ := (Option.bind_some _ _).symm.trans H; rw [hy357]; with_reducible exact H2_) | (have H2_ := (Option.bind_some _ _).symm.trans H; with_reducible exact H2_) | with_reducible exact H | (rw [hy357]; exact H) | exact H
   have Ny357 := Aside0.mk hy357
   clear hy357
   have H' := Aside0.mk H
   clear H
   have p345 : 0 ≤ (x4_1 : Int) := od
   have q345 : x4_1 < (l0.length : Int) := od
   obtain ⟨ad345, A345_0, c345_0, A345_3, c345_3, A345_4, c345_4, e345, hx345, hl345_0, hi345_0, hl345_3, hi345_3, hl345_4, hi345_4⟩ := att171 HR0.out x4_1 p345 q345
   cases e345
   replace hx345 := ox5 HB hx345
   have HR345_0 := Aside0.mk hi345_0
   have HC345_0 := Aside0.mk hl345_0
   clear hi345_0 hl345_0
   have HR345_3 := Aside0.mk hi345_3
   have HC345_3 := Aside0.mk hl345_3
   clear hi345_3 hl345_3
   have HR345_4 := Aside0.mk hi345_4
   have HC345_4 := Aside0.mk hl345_4
   clear hi345_4 hl345_4
   replace p345 := eq_true p345
   replace q345 := eq_true q345
   go_wp2_with (first | ((with_reducible refine gf 146 rfl ?_); refine gL 20 Tryz.func146 #[.agg #[.slice A345_0 ((rd_T171 l0 x4_1).f0).length c345_0, .int .i64 ((rd_T171 l0 x4_1).f1), .bool ((rd_T171 l0 x4_1).f2), .slice A345_3 ((rd_T171 l0 x4_1).f3).length c345_3, .slice A345_4 ((rd_T171 l0 x4_1).f4).length c345_4]] ?_; (with_reducible refine (laws_toThread.calls k1 _ _ ((rd_T171 l0 x4_1).f0) ((rd_T171 l0 x4_1).f1) ((rd_T171 l0 x4_1).f2) _ _ ((rd_T171 l0 x4_1).f3) _ _ ((rd_T171 l0 x4_1).f4) t346 t349 t350 t351 t354 _ (kc HR345_0 HB) HC345_0.out (kc HR345_3 HB) HC345_3.out (kc HR345_4 HB) HC345_4.out A8.out).mono ?_); rintro e w11 ⟨v347, v352, v355, rfl, ho0, ho1, ho2, hb⟩; refine ⟨_, rfl, ?_⟩; replace HO_3 := Aside0.mk (Kd.S_mono (Kd.S_told (Kd.S_told (Kd.S_told (Kd.S_old (by (with_reducible repeat (first | apply Kd.S_alloc | apply Kd.S_drewN | apply Kd.S_drew)); exact HO_3.out) hb) (Kd.R_base ho0)) (Kd.R_base ho1)) (Kd.R_base ho2)) (fun _ h_ => h_.1)); have HO348 := Aside0.mk (Kd.R_lower ho0 (below_size (tb HB))); have HO353 := Aside0.mk (Kd.R_lower ho1 (below_size (tb HB))); have HO356 := Aside0.mk (Kd.R_lower ho2 (below_size (tb HB))); replace HB := bs HB hb; (try clear hb); (try clear ho0); (try clear ho1); (try clear ho2); have p10 : 0 ≤ (x4_1 : Int) := od; have q10 : (x4_1 : Int) < ((x3_1.length : Int) : Int) := od; obtain ⟨go10, co10, eo10, gb10, gl10, cl10, HG10⟩ := Kd.S_form HO_3.out (by omega); (first | cases eo10 | (injection eo10 with ea_ en_ ec_; (first | subst ea_ | (injection ea_ with ea_; subst ea_)); subst ec_; clear en_)); have GB10 := Aside0.mk gb10; have GG10 := Aside0.mk HG10; clear gb10 gl10 HG10; obtain ⟨_, ce10, hcl10, hM10, hcc10, hfr10, _, _⟩ := Kd.S_elem HO_3.out z82 (x4_1 : Int) p10 q10; obtain ⟨ve10_0, ve10_3, ve10_4, rfl, ge10_0, ge10_3, ge10_4⟩ := k82_openM hM10; have hx10_0 : w11.cell? ⟨go10, (x4_1 : Int).toNat * 5, none⟩ = some (ve10_0) := hcc10 0 _ rfl; have hx10_1 : w11.cell? ⟨go10, (x4_1 : Int).toNat * 5 + 1, none⟩ = some (.int .i64 ((rd_T82 x3_1 x4_1).f1)) := hcc10 1 _ rfl; have hx10_2 : w11.cell? ⟨go10, (x4_1 : Int).toNat * 5 + 2, none⟩ = some (.bool ((rd_T82 x3_1 x4_1).f2)) := hcc10 2 _ rfl; have hx10_3 : w11.cell? ⟨go10, (x4_1 : Int).toNat * 5 + 3, none⟩ = some (ve10_3) := hcc10 3 _ rfl; have hx10_4 : w11.cell? ⟨go10, (x4_1 : Int).toNat * 5 + 4, none⟩ = some (ve10_4) := hcc10 4 _ rfl; have hf10_0 : w11.frozen? ⟨go10, (x4_1 : Int).toNat * 5, none⟩ = false := hfr10 0; have hf10_1 : w11.frozen? ⟨go10, (x4_1 : Int).toNat * 5 + 1, none⟩ = false := hfr10 1; have hf10_2 : w11.frozen? ⟨go10, (x4_1 : Int).toNat * 5 + 2, none⟩ = false := hfr10 2; have hf10_3 : w11.frozen? ⟨go10, (x4_1 : Int).toNat * 5 + 3, none⟩ = false := hfr10 3; have hf10_4 : w11.frozen? ⟨go10, (x4_1 : Int).toNat * 5 + 4, none⟩ = false := hfr10 4; clear hcl10 hcc10 hfr10 hM10; replace p10 := eq_true p10; replace q10 := eq_true q10; obtain ⟨Ao14, co14, eo14⟩ := Kd.R_slice HO348.out; subst eo14; obtain ⟨Ao15, co15, eo15⟩ := Kd.R_slice HO353.out; subst eo15; obtain ⟨Ao16, co16, eo16⟩ := Kd.R_slice HO356.out; subst eo16; have n_ := Aside0.mk (Kd.S_mono (ok' := (fun k_ => some k_ ≠ (.slice Ao14 t346.length co14 : Value).ownBlock ∧ some k_ ≠ (.slice Ao15 t351.length co15 : Value).ownBlock ∧ some k_ ≠ (.slice Ao16 t354.length co16 : Value).ownBlock)) HO_3.out (fun k_ hk => ⟨hk.1.1.2, ⟨hk.1.2, hk.2⟩⟩)); clear HO_3; have HO_3 := n_; clear n_; have HX12 := Aside0.mk (show Kd.S k82 82 w11 w.heap.size (fun k_ => ((fun _ => True)) k_ ∧ ¬ ((fun k_ => some k_ = (.slice Ao14 t346.length co14 : Value).ownBlock ∨ some k_ = (.slice Ao15 t351.length co15 : Value).ownBlock ∨ some k_ = (.slice Ao16 t354.length co16 : Value).ownBlock)) k_) (.slice (some ⟨go10, 0, none⟩) x3_1.length co10) x3_1 from (by (with_reducible repeat (first | apply Kd.S_alloc | apply Kd.S_drewN | apply Kd.S_drew)); exact Kd.S_mono HO_3.out (fun k_ hk => ⟨trivial, fun e_ => e_.elim (fun h_ => hk.1 h_) (fun h_ => h_.elim (fun h_ => hk.2.1 h_) (fun h_ => hk.2.2 h_))⟩))); obtain ⟨oki12, ce12, hcl12, hM12, hcc12, hfr12, hoki12, hH12⟩ := Kd.S_elem HX12.out z82 (x4_1 : Int) (od) (by have h_ : (x4_1 : Int) < ((x3_1.length : Int) : Int) := od; first | exact h_ | (have e_ := (Kd.S_reads' HO_3.out).1; omega) | simpa using h_); obtain ⟨ve12_0, ve12_3, ve12_4, rfl, ge12_0, ge12_3, ge12_4⟩ := k82_openM hM12; have HP12 := Kd.S_seg hH12 (od) (by have h_ : (x4_1 : Int) < ((x3_1.length : Int) : Int) := od; first | exact h_ | (have e_ := (Kd.S_reads' HO_3.out).1; omega) | simpa using h_) (seg := [.slice Ao14 t346.length co14, .int .i64 t349, .bool t350, .slice Ao15 t351.length co15, .slice Ao16 t354.length co16]) (j := 0) (show 5 ≤ 5 from by decide) (x' := (⟨t346, t349, t350, t351, t354⟩ : S82)) (k82_mkM _ _ _ (⟨t346, t349, t350, t351, t354⟩ : S82) (Kd.R_mono (Kd.R_tight rfl (Kd.R_mono (ok' := fun k_ => ((fun _ => True)) k_ ∧ k_ ≠ go10) (Kd.R_apart' (HO348.out) (Kd.S_typed HO_3.out) (by decide)) (fun k_ hk => ⟨trivial, fun e_ => (hk.2) (by rw [e_]; rfl)⟩))) (fun _ h_ => Or.inr (Or.inl h_))) (Kd.R_mono (Kd.R_tight rfl (Kd.R_mono (ok' := fun k_ => ((fun _ => True)) k_ ∧ k_ ≠ go10) (Kd.R_apart' (HO353.out) (Kd.S_typed HO_3.out) (by decide)) (fun k_ hk => ⟨trivial, fun e_ => (hk.2) (by rw [e_]; rfl)⟩))) (fun _ h_ => Or.inr (Or.inr (Or.inl h_)))) (Kd.R_mono (Kd.R_tight rfl (Kd.R_mono (ok' := fun k_ => ((fun _ => True)) k_ ∧ k_ ≠ go10) (Kd.R_apart' (HO356.out) (Kd.S_typed HO_3.out) (by decide)) (fun k_ hk => ⟨trivial, fun e_ => (hk.2) (by rw [e_]; rfl)⟩))) (fun _ h_ => Or.inr (Or.inr (Or.inr (h_)))))) (fun _ hk => hk) (fun k_ hk_ => hk_.elim (fun h_ => ((Kd.R_mono (ok' := fun k_ => ((fun _ => True)) k_ ∧ k_ ≠ go10) (Kd.R_apart' (HO348.out) (Kd.S_typed HO_3.out) (by decide)) (fun k_ hk => ⟨trivial, fun e_ => (hk.2) (by rw [e_]; rfl)⟩))).1 k_ h_.symm) (fun h_ => h_.elim (fun h_ => ((Kd.R_mono (ok' := fun k_ => ((fun _ => True)) k_ ∧ k_ ≠ go10) (Kd.R_apart' (HO353.out) (Kd.S_typed HO_3.out) (by decide)) (fun k_ hk => ⟨trivial, fun e_ => (hk.2) (by rw [e_]; rfl)⟩))).1 k_ h_.symm) (fun h_ => ((Kd.R_mono (ok' := fun k_ => ((fun _ => True)) k_ ∧ k_ ≠ go10) (Kd.R_apart' (HO356.out) (Kd.S_typed HO_3.out) (by decide)) (fun k_ hk => ⟨trivial, fun e_ => (hk.2) (by rw [e_]; rfl)⟩))).1 k_ h_.symm))); have hx12_0 := hcc12 0 _ rfl; (try simp only [show (k82).sz = 5 from rfl, Nat.mul_one, Nat.add_zero] at hx12_0); have hf12_0 := hfr12 0; (try simp only [show (k82).sz = 5 from rfl, Nat.mul_one, Nat.add_zero] at hf12_0); have hx12_1 := hcc12 1 _ rfl; (try simp only [show (k82).sz = 5 from rfl, Nat.mul_one, Nat.add_zero] at hx12_1); have hf12_1 := hfr12 1; (try simp only [show (k82).sz = 5 from rfl, Nat.mul_one, Nat.add_zero] at hf12_1); have hx12_2 := hcc12 2 _ rfl; (try simp only [show (k82).sz = 5 from rfl, Nat.mul_one, Nat.add_zero] at hx12_2); have hf12_2 := hfr12 2; (try simp only [show (k82).sz = 5 from rfl, Nat.mul_one, Nat.add_zero] at hf12_2); have hx12_3 := hcc12 3 _ rfl; (try simp only [show (k82).sz = 5 from rfl, Nat.mul_one, Nat.add_zero] at hx12_3); have hf12_3 := hfr12 3; (try simp only [show (k82).sz = 5 from rfl, Nat.mul_one, Nat.add_zero] at hf12_3); have hx12_4 := hcc12 4 _ rfl; (try simp only [show (k82).sz = 5 from rfl, Nat.mul_one, Nat.add_zero] at hx12_4); have hf12_4 := hfr12 4; (try simp only [show (k82).sz = 5 from rfl, Nat.mul_one, Nat.add_zero] at hf12_4); clear hcl12 hcc12 hfr12 hM12 hoki12 hH12) | ((with_reducible refine gate_store (t := 82) (p := 21) rfl ?_); refine store_event (t := 82) (p := 21) (v := ?vo_w13) (w1 := (((((w11.setCell ⟨go10, (x4_1 : Int).toNat * 5, none⟩ (.slice Ao14 t346.length co14)).setCell ⟨go10, (x4_1 : Int).toNat * 5 + 1, none⟩ (.int .i64 t349)).setCell ⟨go10, (x4_1 : Int).toNat * 5 + 2, none⟩ (.bool t350)).setCell ⟨go10, (x4_1 : Int).toNat * 5 + 3, none⟩ (.slice Ao15 t351.length co15)).setCell ⟨go10, (x4_1 : Int).toNat * 5 + 4, none⟩ (.slice Ao16 t354.length co16))) ?hg ?ho ?hn ?hr ?_; (case ho => rfl); (case hg => rfl); (case hn => rfl); (case hr => first | (go_simp; done) | (go_simp; rfl)); intro w13 hw; have hg : w11.grownBy w13 (some go10) := (by rw [hw]; exact HP12.2); have hp_ : Kd.S k82 82 w13 w.heap.size (fun _ => True) (.slice (some ⟨go10, 0, none⟩) x3_1.length co10) y357 := (by rw [hw, Ny357.out]; exact HP12.1); clear HP12; replace HO_3 := Aside0.mk (hp_); replace HB := Aside0.mk ((by rw [hw]; exact below_set (below_set (below_set (below_set (below_set (HB.out) GB10.out) GB10.out) GB10.out) GB10.out) GB10.out : Below w.heap.size w w13)); clear HO348 HO353 HO356; clear hg hw hp_))
   go_roundg k1
   case measure => have := HK1.out; omega
   case rel => exact ⟨(y357), (wrap64 (x4_1 + 1)), rsd, H', ⟨by have := HK1.out; omega⟩, ⟨by (with_reducible repeat (first | apply Kd.S_alloc | apply Kd.S_drewN | apply Kd.S_drew)); exact HO_3.out⟩, ⟨tb HB⟩⟩
def laws_toCall.f (k : Nat) (a0_0 : Int) (a0_1 : Int) (a0_2 : Int) (a0_3 : Int) (a0_4 : Int) (a0_5 : Int) (a0_6 : Int) (a0_7 : Int) (l0_8 : List Int) : Option (Int × Int × Int × Int × Int × Int × Int × Int × List Int) := (laws_toOp.f a0_1 a0_2 a0_3).bind fun bt361 => ((laws_toRes.f k a0_7 l0_8).bind fun bt364 => (some (a0_0, bt361.1, bt361.2.1, bt361.2.2, a0_4, a0_5, a0_6, bt364.1, bt364.2)))
set_option maxHeartbeats 8000000 in
set_option maxRecDepth 100000 in
theorem laws_toCall.calls (k : Nat) (a0_0 : Int) (a0_1 : Int) (a0_2 : Int) (a0_3 : Int) (a0_4 : Int) (a0_5 : Int) (a0_6 : Int) (a0_7 : Int) (A0_8 : Option Addr) (c0_8 : Nat) (l0_8 : List Int) (r1 : Int) (r2 : Int) (r3 : Int) (r4 : Int) (r5 : Int) (r6 : Int) (r7 : Int) (r8 : Int) (r9 : List Int) (w : World) (hr0_8 : Kd.C (Kd.int .i64) w A0_8 l0_8.length l0_8) (hc0_8 : l0_8.length ≤ c0_8) (h : laws_toCall.f k a0_0 a0_1 a0_2 a0_3 a0_4 a0_5 a0_6 a0_7 l0_8 = some (r1, r2, r3, r4, r5, r6, r7, r8, r9)) :
  Calls Tryz.prog 147 #[.agg #[.int .i64 a0_0, .int .i64 a0_1, .int .i64 a0_2, .int .i64 a0_3, .int .i64 a0_4, .int .i64 a0_5, .int .i64 a0_6, .int .i64 a0_7, .slice A0_8 l0_8.length c0_8]] w fun e w' => ∃ v8_ : Value, e = .returned (.agg #[.int .i64 r1, .int .i64 r2, .int .i64 r3, .int .i64 r4, .int .i64 r5, .int .i64 r6, .int .i64 r7, .int .i64 r8, v8_]) ∧ Kd.R (Kd.int .i64) 3 w' w.heap.size (fun _ => True) v8_ r9 ∧ Below w.heap.size w w' := by
 have hu176 := Tryz.underlying176
 have hu134 := Tryz.underlying134
 have hu173 := Tryz.underlying173
 have hu132 := Tryz.underlying132
 have hu174 := Tryz.underlying174
 have hu31 := Tryz.underlying31
 have HR0_8 := Aside0.mk hr0_8
 have HC0_8 := Aside0.mk hc0_8
 clear hr0_8 hc0_8
 have HB := Aside0.mk (Below.refl w.heap.size w)
 have H := h
 clear h
 unfold laws_toCall.f at H
 obtain ⟨⟨t361, t362, t363⟩, A2, H⟩ := bn H
 try dsimp only at H
 obtain ⟨⟨t364, t365⟩, A3, H⟩ := bn H
 try dsimp only at H
 simp only [Option.some.injEq, Prod.mk.injEq] at H
 obtain ⟨rfl, rfl, rfl, rfl, rfl, rfl, rfl, rfl, rfl⟩ := H
 go_enter Tryz.func147, Tryz.ntmps147
 go_wp2_with (first | ((with_reducible refine gq 1 rfl ?_); refine bx0 HB (N := 1) (t := 176) ?_; clear HB; intro gb358 w4 BK358 GE358 HB) | ((with_reducible refine gq 2 rfl ?_); refine bx1 HB BK358 (N := 2) (cs := #[.int .i64 0, .int .i64 0, .int .i64 0, .int .i64 0, .int .i64 0, .int .i64 0, .int .i64 0, .int .i64 0, .slice none 0 0]) (t := 134) ?_; clear HB BK358; intro gb359 w5 BK359 GE359 HB NB358_359 NB359_358 BK358) | ((with_reducible refine gq 3 rfl ?_); refine bx2 HB BK358 BK359 (N := 3) (cs := #[.int .i64 0, .int .i64 0, .int .i64 0, .int .i64 0, .int .i64 0, .int .i64 0, .int .i64 0, .int .i64 0, .slice none 0 0]) (t := 134) ?_; clear HB BK358 BK359; intro gb360 w6 BK360 GE360 HB NB358_360 NB360_358 BK358 NB359_360 NB360_359 BK359; have hnb7 := NB358_359.out; have hnc7 := NB359_358.out; have hnb8 := NB358_360.out; have hnc8 := NB360_358.out; have hz9 := cs9_ BK358; have hnb10 := NB360_359.out; have hnc10 := NB359_360.out; have hz11 := cs9_ BK360) | ((with_reducible refine gf 179 rfl ?_); refine gL 9 Tryz.func179 #[.agg #[.int .i64 a0_1, .int .i64 a0_2, .int .i64 a0_3]] ?_; (with_reducible refine (laws_toOp.calls a0_1 a0_2 a0_3 t361 t362 t363 _ A2.out).mono ?_); rintro e w12 ⟨rfl, hb⟩; refine ⟨_, rfl, ?_⟩; replace BK358 := bbf BK358 hb; replace BK359 := bbf BK359 hb; replace BK360 := Aside0.mk (blk_below (g := gb360) (o := .cells #[.int .i64 a0_0, .int .i64 0, .int .i64 0, .int .i64 0, .int .i64 0, .int .i64 0, .int .i64 0, .int .i64 0, .slice none 0 0] 134 (0, 0)) (by (with_reducible repeat (first | refine blk_drewN ?_ _ | refine blk_drew ?_ | refine blk_alloc ?_ _)); refine blk_put (cs := #[.int .i64 0, .int .i64 0, .int .i64 0, .int .i64 0, .int .i64 0, .int .i64 0, .int .i64 0, .int .i64 0, .slice none 0 0]) ?_ 0 _ rfl; (with_reducible repeat (first | refine blk_drewN ?_ _ | refine blk_drew ?_ | refine blk_alloc ?_ _)); exact BK360.out) hb); replace HB := bs HB hb; (try clear hb); have hz13 := cs9_ BK360; have hz14 := cs9_ BK358) | ((with_reducible refine gf 180 rfl ?_); refine gL 22 Tryz.func180 #[.agg #[.int .i64 a0_7, .slice A0_8 l0_8.length c0_8]] ?_; (with_reducible refine (laws_toRes.calls k a0_7 _ _ l0_8 t364 t365 _ ?side1 HC0_8.out A3.out).mono ?_); (case side1 => exact Kd.C_below HR0_8.out (tb HB)); rintro e w15 ⟨v366, rfl, ho0, hb⟩; refine ⟨_, rfl, ?_⟩; have HO367 := Aside0.mk (Kd.R_lower ho0 (below_size (tb HB))); replace BK358 := bbf BK358 hb; replace BK359 := bbf BK359 hb; replace BK360 := Aside0.mk (blk_below (g := gb360) (o := .cells #[.int .i64 a0_0, .int .i64 t361, .int .i64 t362, .int .i64 t363, .int .i64 a0_4, .int .i64 a0_5, .int .i64 a0_6, .int .i64 0, .slice none 0 0] 134 (0, 0)) (by (with_reducible repeat (first | refine blk_drewN ?_ _ | refine blk_drew ?_ | refine blk_alloc ?_ _)); refine blk_put (cs := #[.int .i64 a0_0, .int .i64 t361, .int .i64 t362, .int .i64 t363, .int .i64 a0_4, .int .i64 a0_5, .int .i64 0, .int .i64 0, .slice none 0 0]) ?_ 6 _ rfl; (with_reducible repeat (first | refine blk_drewN ?_ _ | refine blk_drew ?_ | refine blk_alloc ?_ _)); refine blk_put (cs := #[.int .i64 a0_0, .int .i64 t361, .int .i64 t362, .int .i64 t363, .int .i64 a0_4, .int .i64 0, .int .i64 0, .int .i64 0, .slice none 0 0]) ?_ 5 _ rfl; (with_reducible repeat (first | refine blk_drewN ?_ _ | refine blk_drew ?_ | refine blk_alloc ?_ _)); refine blk_put (cs := #[.int .i64 a0_0, .int .i64 t361, .int .i64 t362, .int .i64 t363, .int .i64 0, .int .i64 0, .int .i64 0, .int .i64 0, .slice none 0 0]) ?_ 4 _ rfl; (with_reducible repeat (first | refine blk_drewN ?_ _ | refine blk_drew ?_ | refine blk_alloc ?_ _)); refine blk_put (cs := #[.int .i64 a0_0, .int .i64 t361, .int .i64 t362, .int .i64 0, .int .i64 0, .int .i64 0, .int .i64 0, .int .i64 0, .slice none 0 0]) ?_ 3 _ rfl; (with_reducible repeat (first | refine blk_drewN ?_ _ | refine blk_drew ?_ | refine blk_alloc ?_ _)); refine blk_put (cs := #[.int .i64 a0_0, .int .i64 t361, .int .i64 0, .int .i64 0, .int .i64 0, .int .i64 0, .int .i64 0, .int .i64 0, .slice none 0 0]) ?_ 2 _ rfl; (with_reducible repeat (first | refine blk_drewN ?_ _ | refine blk_drew ?_ | refine blk_alloc ?_ _)); refine blk_put (cs := #[.int .i64 a0_0, .int .i64 0, .int .i64 0, .int .i64 0, .int .i64 0, .int .i64 0, .int .i64 0, .int .i64 0, .slice none 0 0]) ?_ 1 _ rfl; (with_reducible repeat (first | refine blk_drewN ?_ _ | refine blk_drew ?_ | refine blk_alloc ?_ _)); exact BK360.out) hb); replace HB := bs HB hb; (try clear hb); (try clear ho0); have hz16 := cs9_ BK360; obtain ⟨Ao17, co17, eo17⟩ := Kd.R_slice HO367.out; subst eo17; have hz18 := cs9_ BK359))
 refine bodyPost_ret (results_cell_row rfl _ _ gb359 134 #[.int .i64 a0_0, .int .i64 t361, .int .i64 t362, .int .i64 t363, .int .i64 a0_4, .int .i64 a0_5, .int .i64 a0_6, .int .i64 t364, .slice Ao17 t365.length co17] (0, 0) _ rfl (bfp9 BK359) Tryz.underlying134 rfl (by kernel_rfl)) rfl ?_
 exact ⟨_, er, by (with_reducible repeat (first | apply Kd.R_alloc | apply Kd.R_drewN | apply Kd.R_drew)); exact Kd.R_mono (Kd.R_far (p := ⟨gb359, 8, none⟩) (Kd.R_far (p := ⟨gb359, 7, none⟩) (Kd.R_far (p := ⟨gb359, 6, none⟩) (Kd.R_far (p := ⟨gb359, 5, none⟩) (Kd.R_far (p := ⟨gb359, 4, none⟩) (Kd.R_far (p := ⟨gb359, 3, none⟩) (Kd.R_far (p := ⟨gb359, 2, none⟩) (Kd.R_far (p := ⟨gb359, 1, none⟩) (Kd.R_far (p := ⟨gb359, 0, none⟩) (Kd.R_far (p := ⟨gb360, 8, none⟩) (Kd.R_far (p := ⟨gb360, 7, none⟩) (Kd.R_types (Kd.R_types HO367.out BK360.out (by decide)) BK359.out (by decide)) (fun _ hk => hk.1.2) (.int .i64 t364)) (fun _ hk => hk.1.2) (.slice Ao17 t365.length co17)) (fun _ hk => hk.2) (.int .i64 a0_0)) (fun _ hk => hk.2) (.int .i64 t361)) (fun _ hk => hk.2) (.int .i64 t362)) (fun _ hk => hk.2) (.int .i64 t363)) (fun _ hk => hk.2) (.int .i64 a0_4)) (fun _ hk => hk.2) (.int .i64 a0_5)) (fun _ hk => hk.2) (.int .i64 a0_6)) (fun _ hk => hk.2) (.int .i64 t364)) (fun _ hk => hk.2) (.slice Ao17 t365.length co17)) (fun _ hk => trivial), tb HB⟩
def laws_toCallS.l0 : Nat → List (S176) → List (S134) → Int → Option ((List (S134)))
 | 0, _, _, _ => none
 | k + 1, x0, x3, x4 => if x4 < (x0.length : Int) then (if 0 ≤ x4 then ((laws_toCall.f k ((rd_T176 x0 x4).f0) ((rd_T176 x0 x4).f1.f0) ((rd_T176 x0 x4).f1.f1) ((rd_T176 x0 x4).f1.f2) ((rd_T176 x0 x4).f2) ((rd_T176 x0 x4).f3) ((rd_T176 x0 x4).f4) ((rd_T176 x0 x4).f5.f0) ((rd_T176 x0 x4).f5.f1)).bind fun bt372 => (if x4 < (x3.length : Int) then (laws_toCallS.l0 k x0 (x3.set (x4 : Int).toNat (⟨bt372.1, (⟨bt372.2.1, bt372.2.2.1, bt372.2.2.2.1⟩ : S132), bt372.2.2.2.2.1, bt372.2.2.2.2.2.1, bt372.2.2.2.2.2.2.1, (⟨bt372.2.2.2.2.2.2.2.1, bt372.2.2.2.2.2.2.2.2⟩ : S31)⟩ : S134)) (wrap64 (x4 + 1))) else (none))) else (none)) else (some x3)
def laws_toCallS.f (k : Nat) (l0 : List (S176)) : Option ((List (S134))) := if 0 ≤ (l0.length : Int) then (if ((l0.length : Int) : Int).toNat ≤ 3198579280802 then (laws_toCallS.l0 k l0 (List.replicate ((l0.length : Int) : Int).toNat z134) 0) else (none)) else (none)
set_option maxHeartbeats 8000000 in
set_option maxRecDepth 100000 in
theorem laws_toCallS.calls (k : Nat) (A0 : Option Addr) (c0 : Nat) (l0 : List (S176)) (r : List (S134)) (w : World) (hr0 : Kd.C k176 w A0 l0.length l0) (hc0 : l0.length ≤ c0) (h : laws_toCallS.f k l0 = some r) :
  Calls Tryz.prog 90 #[.slice A0 l0.length c0] w fun e w' => ∃ v0_ : Value, e = .returned (v0_) ∧ Kd.S k134 134 w' w.heap.size (fun _ => True) v0_ r ∧ Below w.heap.size w w' := by
 have hu176 := Tryz.underlying176
 have hu134 := Tryz.underlying134
 have HR0 := Aside0.mk hr0
 have HC0 := Aside0.mk hc0
 clear hr0 hc0
 have HB := Aside0.mk (Below.refl w.heap.size w)
 have H := h
 clear h
 unfold laws_toCallS.f at H
 obtain ⟨c2b0, c2b1, H⟩ := itb H
 obtain ⟨c3b0, c3b1, H⟩ := itb H
 obtain ⟨y368, hy368⟩ : ∃ y_ : List (S134), y_ = (List.replicate ((l0.length : Int) : Int).toNat z134) := ⟨_, rfl⟩
 replace H : (laws_toCallS.l0 k l0 y368 0) = some r := by first | (rw [hy368]; with_reducible exact H) | (have H2_ := (Option.bind_some _ _).symm.trans H; rw [hy368]; with_reducible exact H2_) | (have H2_ := (Option.bind_some _ _).symm.trans H; with_reducible exact H2_) | with_reducible exact H | (rw [hy368]; exact H) | exact H
 have Ny368 := Aside0.mk hy368
 clear hy368
 have H' := Aside0.mk H
 clear H
 go_enter Tryz.func90, Tryz.ntmps90
 go_wp2_with (first | ((with_reducible refine gq 7 rfl ?_); refine Kd.S_make k134 _ 134 rfl (N := 7) rfl 72 _ _ rfl (l0.length : Int) rfl rfl Tryz.underlying72 (.agg #[(.int .i64 0), (.int .i64 0), (.int .i64 0), (.int .i64 0), (.int .i64 0), (.int .i64 0), (.int .i64 0), (.int .i64 0), (.slice none 0 0)]) 88 info134 rfl (by decide) (by omega) z134 (ok := fun _ => True) (okp := fun _ => True) (k134_mkM _ _ _ z134 (Kd.R_nil _ _ _ _ _)) (fun _ hk => hk) trivial (od) (Nat.le_trans (Nat.mul_le_mul_right _ (od : (l0.length : Int).toNat ≤ 3198579280802)) (by omega)) (Below.refl _ _) (Nat.le_refl _) ?_; intro v369 w4 ho5 hb hg_ hnew_; clear hg_ hnew_; (first | rw [← Ny368.out] at ho5 | (simp only [Int.reduceToNat] at ho5; rw [← Ny368.out] at ho5)); have HO370 := Aside0.mk (Kd.S_lower ho5 (below_size (tb HB))); replace HB := bs HB hb; clear hb ho5))
 go_loopg [4] k (fun kq v4 w' => ∃ (x3_1 : List (S134)) (x4_1 : Int), v4 = .int .i64 x4_1 ∧ Aside0 (laws_toCallS.l0 kq l0 x3_1 x4_1 = some r) ∧ Aside0 (kq ≤ k) ∧ Aside0 (Kd.S k134 134 w' w.heap.size (fun _ => True) v369 x3_1) ∧ Aside0 (Below w.heap.size w w'))
 case atStart => exact ⟨(y368), (0), rsd, H', ⟨Nat.le_refl _⟩, ⟨by (with_reducible repeat (first | apply Kd.S_alloc | apply Kd.S_drewN | apply Kd.S_drew)); exact HO370.out⟩, ⟨tb HB⟩⟩
 case round =>
  clear H'
  try clear c2
  try clear c2b0
  try clear c2b1
  try clear p2
  try clear c3
  try clear c3b0
  try clear c3b1
  obtain ⟨x3_1, x4_1, rfl, HA, HK1, HO_3, HB⟩ := hrel
  cases gk with
  | zero => exact absurd HA.out (by simp [laws_toCallS.l0])
  | succ k1 =>
   have H := HA.out
   clear HA
   simp only [laws_toCallS.l0] at H
   revert H; refine icd (fun c6b0 H => ?_) fun c6b0 H => ?neg
   case neg =>
    obtain rfl := oin H
    go_wp2
    go_ret
    exact ⟨_, er, by (with_reducible repeat (first | apply Kd.S_alloc | apply Kd.S_drewN | apply Kd.S_drew)); exact HO_3.out, tb HB⟩
   obtain ⟨c7b0, H⟩ := itd H
   obtain ⟨⟨t372, t373, t374, t375, t376, t377, t378, t379, t380⟩, A8, H⟩ := bn H
   try dsimp only at H
   obtain ⟨c9b0, H⟩ := itd H
   obtain ⟨y383, hy383⟩ : ∃ y_ : List (S134), y_ = (x3_1.set (x4_1 : Int).toNat (⟨t372, (⟨t373, t374, t375⟩ : S132), t376, t377, t378, (⟨t379, t380⟩ : S31)⟩ : S134)) := ⟨_, rfl⟩
   replace H : (laws_toCallS.l0 k1 l0 y383 (wrap64 (x4_1 + 1))) = some r := by first | (rw [hy383]; with_reducible exact H) | (have H2_ := (Option.bind_some _ _).symm.trans H; rw [hy383]; with_reducible exact H2_) | (have H2_ := (Option.bind_some _ _).symm.trans H; with_reducible exact H2_) | with_reducible exact H | (rw [hy383]; exact H) | exact H
   have Ny383 := Aside0.mk hy383
   clear hy383
   have H' := Aside0.mk H
   clear H
   have p371 : 0 ≤ (x4_1 : Int) := od
   have q371 : x4_1 < (l0.length : Int) := od
   obtain ⟨ad371, A371_8, c371_8, e371, hx371, hl371_8, hi371_8⟩ := att176 HR0.out x4_1 p371 q371
   cases e371
   replace hx371 := ox9 HB hx371
   have HR371_8 := Aside0.mk hi371_8
   have HC371_8 := Aside0.mk hl371_8
   clear hi371_8 hl371_8
   replace p371 := eq_true p371
   replace q371 := eq_true q371
   go_wp2_with (first | ((with_reducible refine gf 147 rfl ?_); refine gL 20 Tryz.func147 #[.agg #[.int .i64 ((rd_T176 l0 x4_1).f0), .int .i64 ((rd_T176 l0 x4_1).f1.f0), .int .i64 ((rd_T176 l0 x4_1).f1.f1), .int .i64 ((rd_T176 l0 x4_1).f1.f2), .int .i64 ((rd_T176 l0 x4_1).f2), .int .i64 ((rd_T176 l0 x4_1).f3), .int .i64 ((rd_T176 l0 x4_1).f4), .int .i64 ((rd_T176 l0 x4_1).f5.f0), .slice A371_8 ((rd_T176 l0 x4_1).f5.f1).length c371_8]] ?_; (with_reducible refine (laws_toCall.calls k1 ((rd_T176 l0 x4_1).f0) ((rd_T176 l0 x4_1).f1.f0) ((rd_T176 l0 x4_1).f1.f1) ((rd_T176 l0 x4_1).f1.f2) ((rd_T176 l0 x4_1).f2) ((rd_T176 l0 x4_1).f3) ((rd_T176 l0 x4_1).f4) ((rd_T176 l0 x4_1).f5.f0) _ _ ((rd_T176 l0 x4_1).f5.f1) t372 t373 t374 t375 t376 t377 t378 t379 t380 _ (kc HR371_8 HB) HC371_8.out A8.out).mono ?_); rintro e w11 ⟨v381, rfl, ho0, hb⟩; refine ⟨_, rfl, ?_⟩; replace HO_3 := Aside0.mk (Kd.S_elder' (by (with_reducible repeat (first | apply Kd.S_alloc | apply Kd.S_drewN | apply Kd.S_drew)); exact HO_3.out) (Kd.R_base ho0) hb); have HO382 := Aside0.mk (Kd.R_lower ho0 (below_size (tb HB))); replace HB := bs HB hb; (try clear hb); (try clear ho0); have p10 : 0 ≤ (x4_1 : Int) := od; have q10 : (x4_1 : Int) < ((x3_1.length : Int) : Int) := od; obtain ⟨go10, co10, eo10, gb10, gl10, cl10, HG10⟩ := Kd.S_form HO_3.out (by omega); (first | cases eo10 | (injection eo10 with ea_ en_ ec_; (first | subst ea_ | (injection ea_ with ea_; subst ea_)); subst ec_; clear en_)); have GB10 := Aside0.mk gb10; have GG10 := Aside0.mk HG10; clear gb10 gl10 HG10; obtain ⟨_, ce10, hcl10, hM10, hcc10, hfr10, _, _⟩ := Kd.S_elem HO_3.out z134 (x4_1 : Int) p10 q10; obtain ⟨ve10_8, rfl, ge10_8⟩ := k134_openM hM10; have hx10_0 : w11.cell? ⟨go10, (x4_1 : Int).toNat * 9, none⟩ = some (.int .i64 ((rd_T134 x3_1 x4_1).f0)) := hcc10 0 _ rfl; have hx10_1 : w11.cell? ⟨go10, (x4_1 : Int).toNat * 9 + 1, none⟩ = some (.int .i64 ((rd_T134 x3_1 x4_1).f1.f0)) := hcc10 1 _ rfl; have hx10_2 : w11.cell? ⟨go10, (x4_1 : Int).toNat * 9 + 2, none⟩ = some (.int .i64 ((rd_T134 x3_1 x4_1).f1.f1)) := hcc10 2 _ rfl; have hx10_3 : w11.cell? ⟨go10, (x4_1 : Int).toNat * 9 + 3, none⟩ = some (.int .i64 ((rd_T134 x3_1 x4_1).f1.f2)) := hcc10 3 _ rfl; have hx10_4 : w11.cell? ⟨go10, (x4_1 : Int).toNat * 9 + 4, none⟩ = some (.int .i64 ((rd_T134 x3_1 x4_1).f2)) := hcc10 4 _ rfl; have hx10_5 : w11.cell? ⟨go10, (x4_1 : Int).toNat * 9 + 5, none⟩ = some (.int .i64 ((rd_T134 x3_1 x4_1).f3)) := hcc10 5 _ rfl; have hx10_6 : w11.cell? ⟨go10, (x4_1 : Int).toNat * 9 + 6, none⟩ = some (.int .i64 ((rd_T134 x3_1 x4_1).f4)) := hcc10 6 _ rfl; have hx10_7 : w11.cell? ⟨go10, (x4_1 : Int).toNat * 9 + 7, none⟩ = some (.int .i64 ((rd_T134 x3_1 x4_1).f5.f0)) := hcc10 7 _ rfl; have hx10_8 : w11.cell? ⟨go10, (x4_1 : Int).toNat * 9 + 8, none⟩ = some (ve10_8) := hcc10 8 _ rfl; have hf10_0 : w11.frozen? ⟨go10, (x4_1 : Int).toNat * 9, none⟩ = false := hfr10 0; have hf10_1 : w11.frozen? ⟨go10, (x4_1 : Int).toNat * 9 + 1, none⟩ = false := hfr10 1; have hf10_2 : w11.frozen? ⟨go10, (x4_1 : Int).toNat * 9 + 2, none⟩ = false := hfr10 2; have hf10_3 : w11.frozen? ⟨go10, (x4_1 : Int).toNat * 9 + 3, none⟩ = false := hfr10 3; have hf10_4 : w11.frozen? ⟨go10, (x4_1 : Int).toNat * 9 + 4, none⟩ = false := hfr10 4; have hf10_5 : w11.frozen? ⟨go10, (x4_1 : Int).toNat * 9 + 5, none⟩ = false := hfr10 5; have hf10_6 : w11.frozen? ⟨go10, (x4_1 : Int).toNat * 9 + 6, none⟩ = false := hfr10 6; have hf10_7 : w11.frozen? ⟨go10, (x4_1 : Int).toNat * 9 + 7, none⟩ = false := hfr10 7; have hf10_8 : w11.frozen? ⟨go10, (x4_1 : Int).toNat * 9 + 8, none⟩ = false := hfr10 8; clear hcl10 hcc10 hfr10 hM10; replace p10 := eq_true p10; replace q10 := eq_true q10; obtain ⟨Ao14, co14, eo14⟩ := Kd.R_slice HO382.out; subst eo14; have n_ := Aside0.mk (Kd.S_mono (ok' := (fun k_ => some k_ ≠ (.slice Ao14 t380.length co14 : Value).ownBlock)) HO_3.out (fun k_ hk => hk.2)); clear HO_3; have HO_3 := n_; clear n_; have HX12 := Aside0.mk (show Kd.S k134 134 w11 w.heap.size (fun k_ => ((fun _ => True)) k_ ∧ ¬ ((fun k_ => some k_ = (.slice Ao14 t380.length co14 : Value).ownBlock)) k_) (.slice (some ⟨go10, 0, none⟩) x3_1.length co10) x3_1 from (by (with_reducible repeat (first | apply Kd.S_alloc | apply Kd.S_drewN | apply Kd.S_drew)); exact Kd.S_mono HO_3.out (fun k_ hk => ⟨trivial, fun e_ => hk e_⟩))); obtain ⟨oki12, ce12, hcl12, hM12, hcc12, hfr12, hoki12, hH12⟩ := Kd.S_elem HX12.out z134 (x4_1 : Int) (od) (by have h_ : (x4_1 : Int) < ((x3_1.length : Int) : Int) := od; first | exact h_ | (have e_ := (Kd.S_reads' HO_3.out).1; omega) | simpa using h_); obtain ⟨ve12_8, rfl, ge12_8⟩ := k134_openM hM12; have HP12 := Kd.S_seg hH12 (od) (by have h_ : (x4_1 : Int) < ((x3_1.length : Int) : Int) := od; first | exact h_ | (have e_ := (Kd.S_reads' HO_3.out).1; omega) | simpa using h_) (seg := [.int .i64 t372, .int .i64 t373, .int .i64 t374, .int .i64 t375, .int .i64 t376, .int .i64 t377, .int .i64 t378, .int .i64 t379, .slice Ao14 t380.length co14]) (j := 0) (show 9 ≤ 9 from by decide) (x' := (⟨t372, (⟨t373, t374, t375⟩ : S132), t376, t377, t378, (⟨t379, t380⟩ : S31)⟩ : S134)) (k134_mkM _ _ _ (⟨t372, (⟨t373, t374, t375⟩ : S132), t376, t377, t378, (⟨t379, t380⟩ : S31)⟩ : S134) (Kd.R_mono (Kd.R_tight rfl (Kd.R_mono (ok' := fun k_ => ((fun _ => True)) k_ ∧ k_ ≠ go10) (Kd.R_apart' (HO382.out) (Kd.S_typed HO_3.out) (by decide)) (fun k_ hk => ⟨trivial, fun e_ => (hk.2) (by rw [e_]; rfl)⟩))) (fun _ h_ => Or.inr (h_)))) (fun _ hk => hk) (fun k_ hk_ => ((Kd.R_mono (ok' := fun k_ => ((fun _ => True)) k_ ∧ k_ ≠ go10) (Kd.R_apart' (HO382.out) (Kd.S_typed HO_3.out) (by decide)) (fun k_ hk => ⟨trivial, fun e_ => (hk.2) (by rw [e_]; rfl)⟩))).1 k_ hk_.symm); have hx12_0 := hcc12 0 _ rfl; (try simp only [show (k134).sz = 9 from rfl, Nat.mul_one, Nat.add_zero] at hx12_0); have hf12_0 := hfr12 0; (try simp only [show (k134).sz = 9 from rfl, Nat.mul_one, Nat.add_zero] at hf12_0); have hx12_1 := hcc12 1 _ rfl; (try simp only [show (k134).sz = 9 from rfl, Nat.mul_one, Nat.add_zero] at hx12_1); have hf12_1 := hfr12 1; (try simp only [show (k134).sz = 9 from rfl, Nat.mul_one, Nat.add_zero] at hf12_1); have hx12_2 := hcc12 2 _ rfl; (try simp only [show (k134).sz = 9 from rfl, Nat.mul_one, Nat.add_zero] at hx12_2); have hf12_2 := hfr12 2; (try simp only [show (k134).sz = 9 from rfl, Nat.mul_one, Nat.add_zero] at hf12_2); have hx12_3 := hcc12 3 _ rfl; (try simp only [show (k134).sz = 9 from rfl, Nat.mul_one, Nat.add_zero] at hx12_3); have hf12_3 := hfr12 3; (try simp only [show (k134).sz = 9 from rfl, Nat.mul_one, Nat.add_zero] at hf12_3); have hx12_4 := hcc12 4 _ rfl; (try simp only [show (k134).sz = 9 from rfl, Nat.mul_one, Nat.add_zero] at hx12_4); have hf12_4 := hfr12 4; (try simp only [show (k134).sz = 9 from rfl, Nat.mul_one, Nat.add_zero] at hf12_4); have hx12_5 := hcc12 5 _ rfl; (try simp only [show (k134).sz = 9 from rfl, Nat.mul_one, Nat.add_zero] at hx12_5); have hf12_5 := hfr12 5; (try simp only [show (k134).sz = 9 from rfl, Nat.mul_one, Nat.add_zero] at hf12_5); have hx12_6 := hcc12 6 _ rfl; (try simp only [show (k134).sz = 9 from rfl, Nat.mul_one, Nat.add_zero] at hx12_6); have hf12_6 := hfr12 6; (try simp only [show (k134).sz = 9 from rfl, Nat.mul_one, Nat.add_zero] at hf12_6); have hx12_7 := hcc12 7 _ rfl; (try simp only [show (k134).sz = 9 from rfl, Nat.mul_one, Nat.add_zero] at hx12_7); have hf12_7 := hfr12 7; (try simp only [show (k134).sz = 9 from rfl, Nat.mul_one, Nat.add_zero] at hf12_7); have hx12_8 := hcc12 8 _ rfl; (try simp only [show (k134).sz = 9 from rfl, Nat.mul_one, Nat.add_zero] at hx12_8); have hf12_8 := hfr12 8; (try simp only [show (k134).sz = 9 from rfl, Nat.mul_one, Nat.add_zero] at hf12_8); clear hcl12 hcc12 hfr12 hM12 hoki12 hH12) | ((with_reducible refine gate_store (t := 134) (p := 21) rfl ?_); refine store_event (t := 134) (p := 21) (v := ?vo_w13) (w1 := (((((((((w11.setCell ⟨go10, (x4_1 : Int).toNat * 9, none⟩ (.int .i64 t372)).setCell ⟨go10, (x4_1 : Int).toNat * 9 + 1, none⟩ (.int .i64 t373)).setCell ⟨go10, (x4_1 : Int).toNat * 9 + 2, none⟩ (.int .i64 t374)).setCell ⟨go10, (x4_1 : Int).toNat * 9 + 3, none⟩ (.int .i64 t375)).setCell ⟨go10, (x4_1 : Int).toNat * 9 + 4, none⟩ (.int .i64 t376)).setCell ⟨go10, (x4_1 : Int).toNat * 9 + 5, none⟩ (.int .i64 t377)).setCell ⟨go10, (x4_1 : Int).toNat * 9 + 6, none⟩ (.int .i64 t378)).setCell ⟨go10, (x4_1 : Int).toNat * 9 + 7, none⟩ (.int .i64 t379)).setCell ⟨go10, (x4_1 : Int).toNat * 9 + 8, none⟩ (.slice Ao14 t380.length co14))) ?hg ?ho ?hn ?hr ?_; (case ho => rfl); (case hg => rfl); (case hn => rfl); (case hr => first | (go_simp; done) | (go_simp; rfl)); intro w13 hw; have hg : w11.grownBy w13 (some go10) := (by rw [hw]; exact HP12.2); have hp_ : Kd.S k134 134 w13 w.heap.size (fun _ => True) (.slice (some ⟨go10, 0, none⟩) x3_1.length co10) y383 := (by rw [hw, Ny383.out]; exact HP12.1); clear HP12; replace HO_3 := Aside0.mk (hp_); replace HB := Aside0.mk ((by rw [hw]; exact below_set (below_set (below_set (below_set (below_set (below_set (below_set (below_set (below_set (HB.out) GB10.out) GB10.out) GB10.out) GB10.out) GB10.out) GB10.out) GB10.out) GB10.out) GB10.out : Below w.heap.size w w13)); clear HO382; clear hg hw hp_))
   go_roundg k1
   case measure => have := HK1.out; omega
   case rel => exact ⟨(y383), (wrap64 (x4_1 + 1)), rsd, H', ⟨by have := HK1.out; omega⟩, ⟨by (with_reducible repeat (first | apply Kd.S_alloc | apply Kd.S_drewN | apply Kd.S_drew)); exact HO_3.out⟩, ⟨tb HB⟩⟩
def laws_toRows.f (k : Nat) (l0_0 : List Int) (a0_1 : Int) : Option (List Int × Int) := (laws_toIntS.f k l0_0).bind fun t387 => (some (t387, a0_1))
set_option maxHeartbeats 8000000 in
set_option maxRecDepth 100000 in
theorem laws_toRows.calls (k : Nat) (A0_0 : Option Addr) (c0_0 : Nat) (l0_0 : List Int) (a0_1 : Int) (r1 : List Int) (r2 : Int) (w : World) (hr0_0 : Kd.C (Kd.int .i64) w A0_0 l0_0.length l0_0) (hc0_0 : l0_0.length ≤ c0_0) (h : laws_toRows.f k l0_0 a0_1 = some (r1, r2)) :
  Calls Tryz.prog 92 #[.agg #[.slice A0_0 l0_0.length c0_0, .int .i64 a0_1]] w fun e w' => ∃ v0_ : Value, e = .returned (.agg #[v0_, .int .i64 r2]) ∧ Kd.R (Kd.int .i64) 3 w' w.heap.size (fun _ => True) v0_ r1 ∧ Below w.heap.size w w' := by
 have hu66 := Tryz.underlying66
 have hu73 := Tryz.underlying73
 have HR0_0 := Aside0.mk hr0_0
 have HC0_0 := Aside0.mk hc0_0
 clear hr0_0 hc0_0
 have HB := Aside0.mk (Below.refl w.heap.size w)
 have H := h
 clear h
 unfold laws_toRows.f at H
 obtain ⟨t387, A2, H⟩ := bn H
 try dsimp only at H
 simp only [Option.some.injEq, Prod.mk.injEq] at H
 obtain ⟨rfl, rfl⟩ := H
 go_enter Tryz.func92, Tryz.ntmps92
 go_wp2_with (first | ((with_reducible refine gq 1 rfl ?_); refine bx0 HB (N := 1) (t := 66) ?_; clear HB; intro gb384 w3 BK384 GE384 HB) | ((with_reducible refine gq 2 rfl ?_); refine bx1 HB BK384 (N := 2) (cs := #[.slice none 0 0, .int .i64 0]) (t := 73) ?_; clear HB BK384; intro gb385 w4 BK385 GE385 HB NB384_385 NB385_384 BK384) | ((with_reducible refine gq 3 rfl ?_); refine bx2 HB BK384 BK385 (N := 3) (cs := #[.slice none 0 0, .int .i64 0]) (t := 73) ?_; clear HB BK384 BK385; intro gb386 w5 BK386 GE386 HB NB384_386 NB386_384 BK384 NB385_386 NB386_385 BK385; have hnb6 := NB384_385.out; have hnc6 := NB385_384.out; have hnb7 := NB384_386.out; have hnc7 := NB386_384.out; have hz8 := cs2_ BK384) | ((with_reducible refine gf 91 rfl ?_); refine gL 6 Tryz.func91 #[.slice A0_0 l0_0.length c0_0] ?_; (with_reducible refine (laws_toIntS.calls k _ _ l0_0 t387 _ (kc HR0_0 HB) HC0_0.out A2.out).mono ?_); rintro e w9 ⟨v388, rfl, ho0, hb⟩; refine ⟨_, rfl, ?_⟩; have HO389 := Aside0.mk (Kd.R_lower ho0 (below_size (tb HB))); replace BK384 := bb BK384 hb; replace BK385 := bb BK385 hb; replace BK386 := bb BK386 hb; replace HB := bs HB hb; (try clear hb); (try clear ho0); obtain ⟨Ao10, co10, eo10⟩ := Kd.R_slice HO389.out; subst eo10; have hnb11 := NB386_385.out; have hnc11 := NB385_386.out; have hz12 := cs2_ BK386; have hz13 := cs2_ BK384; have hz14 := cs2_ BK385))
 refine bodyPost_ret (results_cell_row rfl _ _ gb385 73 #[.slice Ao10 t387.length co10, .int .i64 a0_1] (0, 0) _ rfl (bfp2 BK385) Tryz.underlying73 rfl (by kernel_rfl)) rfl ?_
 exact ⟨_, er, by (with_reducible repeat (first | apply Kd.R_alloc | apply Kd.R_drewN | apply Kd.R_drew)); exact Kd.R_mono (Kd.R_far (p := ⟨gb385, 1, none⟩) (Kd.R_far (p := ⟨gb385, 0, none⟩) (Kd.R_far (p := ⟨gb386, 1, none⟩) (Kd.R_far (p := ⟨gb386, 0, none⟩) (Kd.R_types (Kd.R_types HO389.out BK386.out (by decide)) BK385.out (by decide)) (fun _ hk => hk.1.2) (.slice Ao10 t387.length co10)) (fun _ hk => hk.1.2) (.int .i64 a0_1)) (fun _ hk => hk.2) (.slice Ao10 t387.length co10)) (fun _ hk => hk.2) (.int .i64 a0_1)) (fun _ hk => trivial), tb HB⟩
def laws_toMachine.f (k : Nat) (l0_0 : List (S207)) (l0_1 : List (S201)) (l0_2 : List (S171)) (a0_3 : Int) (l0_4 : List (S176)) (l0_5 : List Int) (l0_6 : List Int) (a0_7 : Int) : Option ((List (S39)) × (List (S52)) × (List (S82)) × Int × (List (S134)) × List Int × List Int × Int) := (laws_toMem.f k l0_0 l0_1).bind fun bt393 => ((laws_toThreadS.f k l0_2).bind fun t399 => ((laws_toCallS.f k l0_4).bind fun t402 => ((laws_toIntS.f k l0_5).bind fun t405 => ((laws_toRows.f k l0_6 a0_7).bind fun bt408 => (some (bt393.1, bt393.2, t399, a0_3, t402, t405, bt408.1, bt408.2))))))
set_option maxHeartbeats 8000000 in
set_option maxRecDepth 100000 in
theorem laws_toMachine.calls (k : Nat) (A0_0 : Option Addr) (c0_0 : Nat) (l0_0 : List (S207)) (A0_1 : Option Addr) (c0_1 : Nat) (l0_1 : List (S201)) (A0_2 : Option Addr) (c0_2 : Nat) (l0_2 : List (S171)) (a0_3 : Int) (A0_4 : Option Addr) (c0_4 : Nat) (l0_4 : List (S176)) (A0_5 : Option Addr) (c0_5 : Nat) (l0_5 : List Int) (A0_6 : Option Addr) (c0_6 : Nat) (l0_6 : List Int) (a0_7 : Int) (r1 : List (S39)) (r2 : List (S52)) (r3 : List (S82)) (r4 : Int) (r5 : List (S134)) (r6 : List Int) (r7 : List Int) (r8 : Int) (w : World) (hr0_0 : Kd.C k207 w A0_0 l0_0.length l0_0) (hc0_0 : l0_0.length ≤ c0_0) (hr0_1 : Kd.C k201 w A0_1 l0_1.length l0_1) (hc0_1 : l0_1.length ≤ c0_1) (hr0_2 : Kd.C k171 w A0_2 l0_2.length l0_2) (hc0_2 : l0_2.length ≤ c0_2) (hr0_4 : Kd.C k176 w A0_4 l0_4.length l0_4) (hc0_4 : l0_4.length ≤ c0_4) (hr0_5 : Kd.C (Kd.int .i64) w A0_5 l0_5.length l0_5) (hc0_5 : l0_5.length ≤ c0_5) (hr0_6 : Kd.C (Kd.int .i64) w A0_6 l0_6.length l0_6) (hc0_6 : l0_6.length ≤ c0_6) (h : laws_toMachine.f k l0_0 l0_1 l0_2 a0_3 l0_4 l0_5 l0_6 a0_7 = some (r1, r2, r3, r4, r5, r6, r7, r8)) :
  Calls Tryz.prog 26 #[.agg #[.slice A0_0 l0_0.length c0_0, .slice A0_1 l0_1.length c0_1, .slice A0_2 l0_2.length c0_2, .int .i64 a0_3, .slice A0_4 l0_4.length c0_4, .slice A0_5 l0_5.length c0_5, .slice A0_6 l0_6.length c0_6, .int .i64 a0_7]] w fun e w' => ∃ v0_ v1_ v2_ v4_ v5_ v6_ : Value, e = .returned (.agg #[v0_, v1_, v2_, .int .i64 r4, v4_, v5_, v6_, .int .i64 r8]) ∧ Kd.R k39 39 w' w.heap.size (fun _ => True) v0_ r1 ∧ Kd.S k52 52 w' w.heap.size (fun k_ => some k_ ≠ (v5_ : Value).ownBlock ∧ some k_ ≠ (v6_ : Value).ownBlock) v1_ r2 ∧ Kd.S k82 82 w' w.heap.size (fun _ => True) v2_ r3 ∧ Kd.S k134 134 w' w.heap.size (fun k_ => some k_ ≠ (v5_ : Value).ownBlock ∧ some k_ ≠ (v6_ : Value).ownBlock) v4_ r5 ∧ Kd.R (Kd.int .i64) 3 w' w.heap.size (fun k_ => some k_ ≠ (v6_ : Value).ownBlock) v5_ r6 ∧ Kd.R (Kd.int .i64) 3 w' w.heap.size (fun k_ => some k_ ≠ (v5_ : Value).ownBlock) v6_ r7 ∧ Below w.heap.size w w' := by
 have hu68 := Tryz.underlying68
 have hu75 := Tryz.underlying75
 have hu62 := Tryz.underlying62
 have hu27 := Tryz.underlying27
 have hu66 := Tryz.underlying66
 have hu73 := Tryz.underlying73
 have HR0_0 := Aside0.mk hr0_0
 have HC0_0 := Aside0.mk hc0_0
 clear hr0_0 hc0_0
 have HR0_1 := Aside0.mk hr0_1
 have HC0_1 := Aside0.mk hc0_1
 clear hr0_1 hc0_1
 have HR0_2 := Aside0.mk hr0_2
 have HC0_2 := Aside0.mk hc0_2
 clear hr0_2 hc0_2
 have HR0_4 := Aside0.mk hr0_4
 have HC0_4 := Aside0.mk hc0_4
 clear hr0_4 hc0_4
 have HR0_5 := Aside0.mk hr0_5
 have HC0_5 := Aside0.mk hc0_5
 clear hr0_5 hc0_5
 have HR0_6 := Aside0.mk hr0_6
 have HC0_6 := Aside0.mk hc0_6
 clear hr0_6 hc0_6
 have HB := Aside0.mk (Below.refl w.heap.size w)
 have H := h
 clear h
 unfold laws_toMachine.f at H
 obtain ⟨⟨t393, t396⟩, A2, H⟩ := bn H
 try dsimp only at H
 obtain ⟨t399, A3, H⟩ := bn H
 try dsimp only at H
 obtain ⟨t402, A4, H⟩ := bn H
 try dsimp only at H
 obtain ⟨t405, A5, H⟩ := bn H
 try dsimp only at H
 obtain ⟨⟨t408, t411⟩, A6, H⟩ := bn H
 try dsimp only at H
 simp only [Option.some.injEq, Prod.mk.injEq] at H
 obtain ⟨rfl, rfl, rfl, rfl, rfl, rfl, rfl, rfl⟩ := H
 go_enter Tryz.func26, Tryz.ntmps26
 go_wp2_with (first | ((with_reducible refine gq 1 rfl ?_); refine bx0 HB (N := 1) (t := 68) ?_; clear HB; intro gb390 w7 BK390 GE390 HB) | ((with_reducible refine gq 2 rfl ?_); refine bx1 HB BK390 (N := 2) (cs := #[.slice none 0 0, .slice none 0 0, .slice none 0 0, .int .i64 0, .slice none 0 0, .slice none 0 0, .slice none 0 0, .int .i64 0]) (t := 75) ?_; clear HB BK390; intro gb391 w8 BK391 GE391 HB NB390_391 NB391_390 BK390) | ((with_reducible refine gq 3 rfl ?_); refine bx2 HB BK390 BK391 (N := 3) (cs := #[.slice none 0 0, .slice none 0 0, .slice none 0 0, .int .i64 0, .slice none 0 0, .slice none 0 0, .slice none 0 0, .int .i64 0]) (t := 75) ?_; clear HB BK390 BK391; intro gb392 w9 BK392 GE392 HB NB390_392 NB392_390 BK390 NB391_392 NB392_391 BK391; have hnb10 := NB390_391.out; have hnc10 := NB391_390.out; have hnb11 := NB390_392.out; have hnc11 := NB392_390.out; have hz12 := cs8_ BK390) | ((with_reducible refine gf 88 rfl ?_); refine gL 6 Tryz.func88 #[.agg #[.slice A0_0 l0_0.length c0_0, .slice A0_1 l0_1.length c0_1]] ?_; (with_reducible refine (laws_toMem.calls k _ _ l0_0 _ _ l0_1 t393 t396 _ (kc HR0_0 HB) HC0_0.out (kc HR0_1 HB) HC0_1.out A2.out).mono ?_); rintro e w13 ⟨v394, v397, rfl, ho0, ho1, hb⟩; refine ⟨_, rfl, ?_⟩; have HO395 := Aside0.mk (Kd.R_lower ho0 (below_size (tb HB))); have HO398 := Aside0.mk (Kd.S_lower ho1 (below_size (tb HB))); replace BK390 := bb BK390 hb; replace BK391 := bb BK391 hb; replace BK392 := bb BK392 hb; replace HB := bs HB hb; (try clear hb); (try clear ho0); (try clear ho1); obtain ⟨Ao14, co14, eo14⟩ := Kd.R_slice HO395.out; subst eo14; have hnb15 := NB392_391.out; have hnc15 := NB391_392.out; have hz16 := cs8_ BK392; obtain ⟨Ao17, co17, eo17⟩ := Kd.S_slice HO398.out; subst eo17; have hz18 := cs8_ BK390) | ((with_reducible refine gf 89 rfl ?_); refine gL 10 Tryz.func89 #[.slice A0_2 l0_2.length c0_2] ?_; (with_reducible refine (laws_toThreadS.calls k _ _ l0_2 t399 _ ?side1 HC0_2.out A3.out).mono ?_); (case side1 => exact Kd.C_below HR0_2.out (tb HB)); rintro e w19 ⟨v400, rfl, ho0, hb⟩; refine ⟨_, rfl, ?_⟩; replace HO395 := Aside0.mk (Kd.R_below (kr ((Kd.R_mono (Kd.R_far (p := ⟨gb392, 1, none⟩) (Kd.R_far (p := ⟨gb392, 0, none⟩) (Kd.R_types HO395.out BK392.out (by decide)) (fun _ hk => hk.2) (.slice Ao14 t393.length co14)) (fun _ hk => hk.2) (.slice Ao17 t396.length co17)) (fun _ h_ => h_.1)))) hb); replace HO398 := Aside0.mk (Kd.S_below (by (with_reducible repeat (first | apply Kd.S_alloc | apply Kd.S_drewN | apply Kd.S_drew)); exact (Kd.S_mono (Kd.S_far (p := ⟨gb392, 1, none⟩) (Kd.S_far (p := ⟨gb392, 0, none⟩) (Kd.S_types HO398.out BK392.out (by decide)) (fun _ hk => hk.2) (.slice Ao14 t393.length co14)) (fun _ hk => hk.2) (.slice Ao17 t396.length co17)) (fun _ h_ => h_.1))) hb); have HO401 := Aside0.mk (Kd.S_lower ho0 (below_size (tb HB))); replace BK390 := bbf BK390 hb; replace BK391 := bbf BK391 hb; replace BK392 := Aside0.mk (blk_below (g := gb392) (o := .cells #[.slice Ao14 t393.length co14, .slice Ao17 t396.length co17, .slice none 0 0, .int .i64 0, .slice none 0 0, .slice none 0 0, .slice none 0 0, .int .i64 0] 75 (0, 0)) (by (with_reducible repeat (first | refine blk_drewN ?_ _ | refine blk_drew ?_ | refine blk_alloc ?_ _)); refine blk_put (cs := #[.slice Ao14 t393.length co14, .slice none 0 0, .slice none 0 0, .int .i64 0, .slice none 0 0, .slice none 0 0, .slice none 0 0, .int .i64 0]) ?_ 1 _ rfl; (with_reducible repeat (first | refine blk_drewN ?_ _ | refine blk_drew ?_ | refine blk_alloc ?_ _)); refine blk_put (cs := #[.slice none 0 0, .slice none 0 0, .slice none 0 0, .int .i64 0, .slice none 0 0, .slice none 0 0, .slice none 0 0, .int .i64 0]) ?_ 0 _ rfl; (with_reducible repeat (first | refine blk_drewN ?_ _ | refine blk_drew ?_ | refine blk_alloc ?_ _)); exact BK392.out) hb); replace HB := bs HB hb; (try clear hb); (try clear hk); (try clear ho0); obtain ⟨Ao20, co20, eo20⟩ := Kd.S_slice HO401.out; subst eo20; have hz21 := cs8_ BK392; have hz22 := cs8_ BK390) | ((with_reducible refine gf 90 rfl ?_); refine gL 17 Tryz.func90 #[.slice A0_4 l0_4.length c0_4] ?_; (with_reducible refine (laws_toCallS.calls k _ _ l0_4 t402 _ ?side1 HC0_4.out A4.out).mono ?_); (case side1 => exact Kd.C_below HR0_4.out (tb HB)); rintro e w23 ⟨v403, rfl, ho0, hb⟩; refine ⟨_, rfl, ?_⟩; replace HO395 := Aside0.mk (Kd.R_below (kr ((Kd.R_mono (Kd.R_far (p := ⟨gb392, 3, none⟩) (Kd.R_far (p := ⟨gb392, 2, none⟩) (Kd.R_types HO395.out BK392.out (by decide)) (fun _ hk => hk.2) (.slice Ao20 t399.length co20)) (fun _ hk => hk.2) (.int .i64 a0_3)) (fun _ h_ => h_.1)))) hb); replace HO398 := Aside0.mk (Kd.S_below (by (with_reducible repeat (first | apply Kd.S_alloc | apply Kd.S_drewN | apply Kd.S_drew)); exact (Kd.S_mono (Kd.S_far (p := ⟨gb392, 3, none⟩) (Kd.S_far (p := ⟨gb392, 2, none⟩) (Kd.S_types HO398.out BK392.out (by decide)) (fun _ hk => hk.2) (.slice Ao20 t399.length co20)) (fun _ hk => hk.2) (.int .i64 a0_3)) (fun _ h_ => h_.1))) hb); replace HO401 := Aside0.mk (Kd.S_below (by (with_reducible repeat (first | apply Kd.S_alloc | apply Kd.S_drewN | apply Kd.S_drew)); exact (Kd.S_mono (Kd.S_far (p := ⟨gb392, 3, none⟩) (Kd.S_far (p := ⟨gb392, 2, none⟩) (Kd.S_types HO401.out BK392.out (by decide)) (fun _ hk => hk.2) (.slice Ao20 t399.length co20)) (fun _ hk => hk.2) (.int .i64 a0_3)) (fun _ h_ => h_.1))) hb); have HO404 := Aside0.mk (Kd.S_lower ho0 (below_size (tb HB))); replace BK390 := bbf BK390 hb; replace BK391 := bbf BK391 hb; replace BK392 := Aside0.mk (blk_below (g := gb392) (o := .cells #[.slice Ao14 t393.length co14, .slice Ao17 t396.length co17, .slice Ao20 t399.length co20, .int .i64 a0_3, .slice none 0 0, .slice none 0 0, .slice none 0 0, .int .i64 0] 75 (0, 0)) (by (with_reducible repeat (first | refine blk_drewN ?_ _ | refine blk_drew ?_ | refine blk_alloc ?_ _)); refine blk_put (cs := #[.slice Ao14 t393.length co14, .slice Ao17 t396.length co17, .slice Ao20 t399.length co20, .int .i64 0, .slice none 0 0, .slice none 0 0, .slice none 0 0, .int .i64 0]) ?_ 3 _ rfl; (with_reducible repeat (first | refine blk_drewN ?_ _ | refine blk_drew ?_ | refine blk_alloc ?_ _)); refine blk_put (cs := #[.slice Ao14 t393.length co14, .slice Ao17 t396.length co17, .slice none 0 0, .int .i64 0, .slice none 0 0, .slice none 0 0, .slice none 0 0, .int .i64 0]) ?_ 2 _ rfl; (with_reducible repeat (first | refine blk_drewN ?_ _ | refine blk_drew ?_ | refine blk_alloc ?_ _)); exact BK392.out) hb); replace HB := bs HB hb; (try clear hb); (try clear hk); (try clear ho0); obtain ⟨Ao24, co24, eo24⟩ := Kd.S_slice HO404.out; subst eo24; have hz25 := cs8_ BK392; have hz26 := cs8_ BK390) | ((with_reducible refine gf 91 rfl ?_); refine gL 21 Tryz.func91 #[.slice A0_5 l0_5.length c0_5] ?_; (with_reducible refine (laws_toIntS.calls k _ _ l0_5 t405 _ ?side1 HC0_5.out A5.out).mono ?_); (case side1 => exact Kd.C_below HR0_5.out (tb HB)); rintro e w27 ⟨v406, rfl, ho0, hb⟩; refine ⟨_, rfl, ?_⟩; replace HO395 := Aside0.mk (Kd.R_below (kr ((Kd.R_mono (Kd.R_far (p := ⟨gb392, 4, none⟩) (Kd.R_types HO395.out BK392.out (by decide)) (fun _ hk => hk.2) (.slice Ao24 t402.length co24)) (fun _ h_ => h_.1)))) hb); replace HO398 := Aside0.mk (Kd.S_elder' (by (with_reducible repeat (first | apply Kd.S_alloc | apply Kd.S_drewN | apply Kd.S_drew)); exact (Kd.S_mono (Kd.S_far (p := ⟨gb392, 4, none⟩) (Kd.S_types HO398.out BK392.out (by decide)) (fun _ hk => hk.2) (.slice Ao24 t402.length co24)) (fun _ h_ => h_.1))) (Kd.R_base ho0) hb); replace HO401 := Aside0.mk (Kd.S_below (by (with_reducible repeat (first | apply Kd.S_alloc | apply Kd.S_drewN | apply Kd.S_drew)); exact (Kd.S_mono (Kd.S_far (p := ⟨gb392, 4, none⟩) (Kd.S_types HO401.out BK392.out (by decide)) (fun _ hk => hk.2) (.slice Ao24 t402.length co24)) (fun _ h_ => h_.1))) hb); replace HO404 := Aside0.mk (Kd.S_elder' (by (with_reducible repeat (first | apply Kd.S_alloc | apply Kd.S_drewN | apply Kd.S_drew)); exact (Kd.S_mono (Kd.S_far (p := ⟨gb392, 4, none⟩) (Kd.S_types HO404.out BK392.out (by decide)) (fun _ hk => hk.2) (.slice Ao24 t402.length co24)) (fun _ h_ => h_.1))) (Kd.R_base ho0) hb); have HO407 := Aside0.mk (Kd.R_lower ho0 (below_size (tb HB))); replace BK390 := bbf BK390 hb; replace BK391 := bbf BK391 hb; replace BK392 := Aside0.mk (blk_below (g := gb392) (o := .cells #[.slice Ao14 t393.length co14, .slice Ao17 t396.length co17, .slice Ao20 t399.length co20, .int .i64 a0_3, .slice Ao24 t402.length co24, .slice none 0 0, .slice none 0 0, .int .i64 0] 75 (0, 0)) (by (with_reducible repeat (first | refine blk_drewN ?_ _ | refine blk_drew ?_ | refine blk_alloc ?_ _)); refine blk_put (cs := #[.slice Ao14 t393.length co14, .slice Ao17 t396.length co17, .slice Ao20 t399.length co20, .int .i64 a0_3, .slice none 0 0, .slice none 0 0, .slice none 0 0, .int .i64 0]) ?_ 4 _ rfl; (with_reducible repeat (first | refine blk_drewN ?_ _ | refine blk_drew ?_ | refine blk_alloc ?_ _)); exact BK392.out) hb); replace HB := bs HB hb; (try clear hb); (try clear hk); (try clear ho0); obtain ⟨Ao28, co28, eo28⟩ := Kd.R_slice HO407.out; subst eo28; have hz29 := cs8_ BK392; have hz30 := cs8_ BK390) | ((with_reducible refine gf 92 rfl ?_); refine gL 25 Tryz.func92 #[.agg #[.slice A0_6 l0_6.length c0_6, .int .i64 a0_7]] ?_; (with_reducible refine (laws_toRows.calls k _ _ l0_6 a0_7 t408 t411 _ ?side1 HC0_6.out A6.out).mono ?_); (case side1 => exact Kd.C_below HR0_6.out (tb HB)); rintro e w31 ⟨v409, rfl, ho0, hb⟩; refine ⟨_, rfl, ?_⟩; replace HO395 := Aside0.mk (Kd.R_below (kr ((Kd.R_mono (Kd.R_far (p := ⟨gb392, 5, none⟩) (Kd.R_types HO395.out BK392.out (by decide)) (fun _ hk => hk.2) (.slice Ao28 t405.length co28)) (fun _ h_ => h_.1)))) hb); replace HO398 := Aside0.mk (Kd.S_elder' (by (with_reducible repeat (first | apply Kd.S_alloc | apply Kd.S_drewN | apply Kd.S_drew)); exact (Kd.S_mono (Kd.S_far (p := ⟨gb392, 5, none⟩) (Kd.S_types HO398.out BK392.out (by decide)) (fun _ hk => hk.2) (.slice Ao28 t405.length co28)) (fun _ h_ => h_.1))) (Kd.R_base ho0) hb); replace HO401 := Aside0.mk (Kd.S_below (by (with_reducible repeat (first | apply Kd.S_alloc | apply Kd.S_drewN | apply Kd.S_drew)); exact (Kd.S_mono (Kd.S_far (p := ⟨gb392, 5, none⟩) (Kd.S_types HO401.out BK392.out (by decide)) (fun _ hk => hk.2) (.slice Ao28 t405.length co28)) (fun _ h_ => h_.1))) hb); replace HO404 := Aside0.mk (Kd.S_elder' (by (with_reducible repeat (first | apply Kd.S_alloc | apply Kd.S_drewN | apply Kd.S_drew)); exact (Kd.S_mono (Kd.S_far (p := ⟨gb392, 5, none⟩) (Kd.S_types HO404.out BK392.out (by decide)) (fun _ hk => hk.2) (.slice Ao28 t405.length co28)) (fun _ h_ => h_.1))) (Kd.R_base ho0) hb); have HO410 := Aside0.mk (Kd.R_lower (Kd.R_new' ho0 (Kd.R_lt (kr ((Kd.R_mono (Kd.R_far (p := ⟨gb392, 5, none⟩) (Kd.R_types HO407.out BK392.out (by decide)) (fun _ hk => hk.2) (.slice Ao28 t405.length co28)) (fun _ h_ => h_.1)))))) (below_size (tb HB))); replace HO407 := Aside0.mk (Kd.R_elder' (kr ((Kd.R_mono (Kd.R_far (p := ⟨gb392, 5, none⟩) (Kd.R_types HO407.out BK392.out (by decide)) (fun _ hk => hk.2) (.slice Ao28 t405.length co28)) (fun _ h_ => h_.1)))) (Kd.R_base ho0) hb); replace BK390 := bbf BK390 hb; replace BK391 := bbf BK391 hb; replace BK392 := Aside0.mk (blk_below (g := gb392) (o := .cells #[.slice Ao14 t393.length co14, .slice Ao17 t396.length co17, .slice Ao20 t399.length co20, .int .i64 a0_3, .slice Ao24 t402.length co24, .slice Ao28 t405.length co28, .slice none 0 0, .int .i64 0] 75 (0, 0)) (by (with_reducible repeat (first | refine blk_drewN ?_ _ | refine blk_drew ?_ | refine blk_alloc ?_ _)); refine blk_put (cs := #[.slice Ao14 t393.length co14, .slice Ao17 t396.length co17, .slice Ao20 t399.length co20, .int .i64 a0_3, .slice Ao24 t402.length co24, .slice none 0 0, .slice none 0 0, .int .i64 0]) ?_ 5 _ rfl; (with_reducible repeat (first | refine blk_drewN ?_ _ | refine blk_drew ?_ | refine blk_alloc ?_ _)); exact BK392.out) hb); replace HB := bs HB hb; (try clear hb); (try clear hk); (try clear ho0); obtain ⟨Ao32, co32, eo32⟩ := Kd.R_slice HO410.out; subst eo32; have hz33 := cs8_ BK392; have hz34 := cs8_ BK391))
 refine bodyPost_ret (results_cell_row rfl _ _ gb391 75 #[.slice Ao14 t393.length co14, .slice Ao17 t396.length co17, .slice Ao20 t399.length co20, .int .i64 a0_3, .slice Ao24 t402.length co24, .slice Ao28 t405.length co28, .slice Ao32 t408.length co32, .int .i64 t411] (0, 0) _ rfl (bfp8 BK391) Tryz.underlying75 rfl (by kernel_rfl)) rfl ?_
 exact ⟨_, _, _, _, _, _, er, by (with_reducible repeat (first | apply Kd.R_alloc | apply Kd.R_drewN | apply Kd.R_drew)); exact Kd.R_mono (Kd.R_far (p := ⟨gb391, 7, none⟩) (Kd.R_far (p := ⟨gb391, 6, none⟩) (Kd.R_far (p := ⟨gb391, 5, none⟩) (Kd.R_far (p := ⟨gb391, 4, none⟩) (Kd.R_far (p := ⟨gb391, 3, none⟩) (Kd.R_far (p := ⟨gb391, 2, none⟩) (Kd.R_far (p := ⟨gb391, 1, none⟩) (Kd.R_far (p := ⟨gb391, 0, none⟩) (Kd.R_far (p := ⟨gb392, 7, none⟩) (Kd.R_far (p := ⟨gb392, 6, none⟩) (Kd.R_types (Kd.R_types HO395.out BK392.out (by decide)) BK391.out (by decide)) (fun _ hk => hk.1.2) (.slice Ao32 t408.length co32)) (fun _ hk => hk.1.2) (.int .i64 t411)) (fun _ hk => hk.2) (.slice Ao14 t393.length co14)) (fun _ hk => hk.2) (.slice Ao17 t396.length co17)) (fun _ hk => hk.2) (.slice Ao20 t399.length co20)) (fun _ hk => hk.2) (.int .i64 a0_3)) (fun _ hk => hk.2) (.slice Ao24 t402.length co24)) (fun _ hk => hk.2) (.slice Ao28 t405.length co28)) (fun _ hk => hk.2) (.slice Ao32 t408.length co32)) (fun _ hk => hk.2) (.int .i64 t411)) (fun _ hk => trivial), by (with_reducible repeat (first | apply Kd.S_alloc | apply Kd.S_drewN | apply Kd.S_drew)); exact Kd.S_mono (Kd.S_far (p := ⟨gb391, 7, none⟩) (Kd.S_far (p := ⟨gb391, 6, none⟩) (Kd.S_far (p := ⟨gb391, 5, none⟩) (Kd.S_far (p := ⟨gb391, 4, none⟩) (Kd.S_far (p := ⟨gb391, 3, none⟩) (Kd.S_far (p := ⟨gb391, 2, none⟩) (Kd.S_far (p := ⟨gb391, 1, none⟩) (Kd.S_far (p := ⟨gb391, 0, none⟩) (Kd.S_far (p := ⟨gb392, 7, none⟩) (Kd.S_far (p := ⟨gb392, 6, none⟩) (Kd.S_types (Kd.S_types HO398.out BK392.out (by decide)) BK391.out (by decide)) (fun _ hk => hk.1.2) (.slice Ao32 t408.length co32)) (fun _ hk => hk.1.2) (.int .i64 t411)) (fun _ hk => hk.2) (.slice Ao14 t393.length co14)) (fun _ hk => hk.2) (.slice Ao17 t396.length co17)) (fun _ hk => hk.2) (.slice Ao20 t399.length co20)) (fun _ hk => hk.2) (.int .i64 a0_3)) (fun _ hk => hk.2) (.slice Ao24 t402.length co24)) (fun _ hk => hk.2) (.slice Ao28 t405.length co28)) (fun _ hk => hk.2) (.slice Ao32 t408.length co32)) (fun _ hk => hk.2) (.int .i64 t411)) (fun _ hk => ⟨hk.1.1.1.2, hk.1.1.2⟩), by (with_reducible repeat (first | apply Kd.S_alloc | apply Kd.S_drewN | apply Kd.S_drew)); exact Kd.S_mono (Kd.S_far (p := ⟨gb391, 7, none⟩) (Kd.S_far (p := ⟨gb391, 6, none⟩) (Kd.S_far (p := ⟨gb391, 5, none⟩) (Kd.S_far (p := ⟨gb391, 4, none⟩) (Kd.S_far (p := ⟨gb391, 3, none⟩) (Kd.S_far (p := ⟨gb391, 2, none⟩) (Kd.S_far (p := ⟨gb391, 1, none⟩) (Kd.S_far (p := ⟨gb391, 0, none⟩) (Kd.S_far (p := ⟨gb392, 7, none⟩) (Kd.S_far (p := ⟨gb392, 6, none⟩) (Kd.S_types (Kd.S_types HO401.out BK392.out (by decide)) BK391.out (by decide)) (fun _ hk => hk.1.2) (.slice Ao32 t408.length co32)) (fun _ hk => hk.1.2) (.int .i64 t411)) (fun _ hk => hk.2) (.slice Ao14 t393.length co14)) (fun _ hk => hk.2) (.slice Ao17 t396.length co17)) (fun _ hk => hk.2) (.slice Ao20 t399.length co20)) (fun _ hk => hk.2) (.int .i64 a0_3)) (fun _ hk => hk.2) (.slice Ao24 t402.length co24)) (fun _ hk => hk.2) (.slice Ao28 t405.length co28)) (fun _ hk => hk.2) (.slice Ao32 t408.length co32)) (fun _ hk => hk.2) (.int .i64 t411)) (fun _ hk => trivial), by (with_reducible repeat (first | apply Kd.S_alloc | apply Kd.S_drewN | apply Kd.S_drew)); exact Kd.S_mono (Kd.S_far (p := ⟨gb391, 7, none⟩) (Kd.S_far (p := ⟨gb391, 6, none⟩) (Kd.S_far (p := ⟨gb391, 5, none⟩) (Kd.S_far (p := ⟨gb391, 4, none⟩) (Kd.S_far (p := ⟨gb391, 3, none⟩) (Kd.S_far (p := ⟨gb391, 2, none⟩) (Kd.S_far (p := ⟨gb391, 1, none⟩) (Kd.S_far (p := ⟨gb391, 0, none⟩) (Kd.S_far (p := ⟨gb392, 7, none⟩) (Kd.S_far (p := ⟨gb392, 6, none⟩) (Kd.S_types (Kd.S_types HO404.out BK392.out (by decide)) BK391.out (by decide)) (fun _ hk => hk.1.2) (.slice Ao32 t408.length co32)) (fun _ hk => hk.1.2) (.int .i64 t411)) (fun _ hk => hk.2) (.slice Ao14 t393.length co14)) (fun _ hk => hk.2) (.slice Ao17 t396.length co17)) (fun _ hk => hk.2) (.slice Ao20 t399.length co20)) (fun _ hk => hk.2) (.int .i64 a0_3)) (fun _ hk => hk.2) (.slice Ao24 t402.length co24)) (fun _ hk => hk.2) (.slice Ao28 t405.length co28)) (fun _ hk => hk.2) (.slice Ao32 t408.length co32)) (fun _ hk => hk.2) (.int .i64 t411)) (fun _ hk => ⟨hk.1.1.1.2, hk.1.1.2⟩), by (with_reducible repeat (first | apply Kd.R_alloc | apply Kd.R_drewN | apply Kd.R_drew)); exact Kd.R_mono (Kd.R_far (p := ⟨gb391, 7, none⟩) (Kd.R_far (p := ⟨gb391, 6, none⟩) (Kd.R_far (p := ⟨gb391, 5, none⟩) (Kd.R_far (p := ⟨gb391, 4, none⟩) (Kd.R_far (p := ⟨gb391, 3, none⟩) (Kd.R_far (p := ⟨gb391, 2, none⟩) (Kd.R_far (p := ⟨gb391, 1, none⟩) (Kd.R_far (p := ⟨gb391, 0, none⟩) (Kd.R_far (p := ⟨gb392, 7, none⟩) (Kd.R_far (p := ⟨gb392, 6, none⟩) (Kd.R_types (Kd.R_types HO407.out BK392.out (by decide)) BK391.out (by decide)) (fun _ hk => hk.1.2) (.slice Ao32 t408.length co32)) (fun _ hk => hk.1.2) (.int .i64 t411)) (fun _ hk => hk.2) (.slice Ao14 t393.length co14)) (fun _ hk => hk.2) (.slice Ao17 t396.length co17)) (fun _ hk => hk.2) (.slice Ao20 t399.length co20)) (fun _ hk => hk.2) (.int .i64 a0_3)) (fun _ hk => hk.2) (.slice Ao24 t402.length co24)) (fun _ hk => hk.2) (.slice Ao28 t405.length co28)) (fun _ hk => hk.2) (.slice Ao32 t408.length co32)) (fun _ hk => hk.2) (.int .i64 t411)) (fun _ hk => hk.1.1.2), by (with_reducible repeat (first | apply Kd.R_alloc | apply Kd.R_drewN | apply Kd.R_drew)); exact Kd.R_mono (Kd.R_far (p := ⟨gb391, 7, none⟩) (Kd.R_far (p := ⟨gb391, 6, none⟩) (Kd.R_far (p := ⟨gb391, 5, none⟩) (Kd.R_far (p := ⟨gb391, 4, none⟩) (Kd.R_far (p := ⟨gb391, 3, none⟩) (Kd.R_far (p := ⟨gb391, 2, none⟩) (Kd.R_far (p := ⟨gb391, 1, none⟩) (Kd.R_far (p := ⟨gb391, 0, none⟩) (Kd.R_far (p := ⟨gb392, 7, none⟩) (Kd.R_far (p := ⟨gb392, 6, none⟩) (Kd.R_types (Kd.R_types HO410.out BK392.out (by decide)) BK391.out (by decide)) (fun _ hk => hk.1.2) (.slice Ao32 t408.length co32)) (fun _ hk => hk.1.2) (.int .i64 t411)) (fun _ hk => hk.2) (.slice Ao14 t393.length co14)) (fun _ hk => hk.2) (.slice Ao17 t396.length co17)) (fun _ hk => hk.2) (.slice Ao20 t399.length co20)) (fun _ hk => hk.2) (.int .i64 a0_3)) (fun _ hk => hk.2) (.slice Ao24 t402.length co24)) (fun _ hk => hk.2) (.slice Ao28 t405.length co28)) (fun _ hk => hk.2) (.slice Ao32 t408.length co32)) (fun _ hk => hk.2) (.int .i64 t411)) (fun _ hk => hk.1.1.2), tb HB⟩
def impl_from.f (a0 : Int) (a1 : Int) (a2 : Int) : Option (Bool) := if a0 ≥ a1 then (some (decide (a0 ≤ a2))) else (some false)
set_option maxHeartbeats 8000000 in
set_option maxRecDepth 100000 in
theorem impl_from.calls (a0 : Int) (a1 : Int) (a2 : Int) (r : Bool) (w : World) (h : impl_from.f a0 a1 a2 = some r) :
  Calls Tryz.prog 62 #[.int .i64 a0, .int .i64 a1, .int .i64 a2] w fun e w' => e = .returned (.bool r) ∧ Drawn0 w w' := by
 have H := h
 clear h
 unfold impl_from.f at H
 revert H; refine icd (fun c4b0 H => ?pos) fun c4b0 H => ?_
 case pos =>
  obtain rfl := oin H
  go_enter Tryz.func62, Tryz.ntmps62
  go_wp2
  go_ret
  exact ⟨rsd, by repeat (first | exact Drawn0.refl _ | apply Drawn0.step)⟩
 obtain rfl := oin H
 go_enter Tryz.func62, Tryz.ntmps62
 go_wp2
 go_ret
 exact ⟨rsd, by repeat (first | exact Drawn0.refl _ | apply Drawn0.step)⟩
def impl_Entries.l0 : Nat → Int → List (S37) → Int → Int → Option (Int × Int × Int × Bool)
 | 0, _, _, _, _ => none
 | k + 1, x1, x9, x10, x11 => if x11 < x10 then (if 0 ≤ x11 then (if x11 < (x9.length : Int) then (if ((rd_T37 x9 x11).f0) = x1 then (some ((rd_T37 x9 x11).f0, (rd_T37 x9 x11).f1, (rd_T37 x9 x11).f2, true)) else (impl_Entries.l0 k x1 x9 x10 (wrap64 (x11 + 1)))) else (none)) else (none)) else (some (0, 0, 0, false))
def impl_Entries.f (k : Nat) (a0_0 : Int) (a0_1 : Int) (l0_2 : List (S37)) (a0_3 : Int) (l0_4 : List Int) (a1 : Int) : Option (Int × Int × Int × Bool) := impl_Entries.l0 k a1 l0_2 (l0_2.length : Int) 0
set_option maxHeartbeats 8000000 in
set_option maxRecDepth 100000 in
theorem impl_Entries.calls (k : Nat) (a0_0 : Int) (a0_1 : Int) (A0_2 : Option Addr) (c0_2 : Nat) (l0_2 : List (S37)) (a0_3 : Int) (A0_4 : Option Addr) (c0_4 : Nat) (l0_4 : List Int) (a1 : Int) (r1 : Int) (r2 : Int) (r3 : Int) (r4 : Bool) (w : World) (hr0_2 : Kd.C k37 w A0_2 l0_2.length l0_2) (hc0_2 : l0_2.length ≤ c0_2) (hr0_4 : Kd.C (Kd.int .i64) w A0_4 l0_4.length l0_4) (hc0_4 : l0_4.length ≤ c0_4) (h : impl_Entries.f k a0_0 a0_1 l0_2 a0_3 l0_4 a1 = some (r1, r2, r3, r4)) :
  Calls Tryz.prog 23 #[.agg #[.int .i64 a0_0, .int .i64 a0_1, .slice A0_2 l0_2.length c0_2, .int .i64 a0_3, .slice A0_4 l0_4.length c0_4], .int .i64 a1] w fun e w' => e = .returned (.tuple #[.agg #[.int .i64 r1, .int .i64 r2, .int .i64 r3], .bool r4]) ∧ Below w.heap.size w w' := by
 have hu52 := Tryz.underlying52
 have hu37 := Tryz.underlying37
 have HR0_2 := Aside0.mk hr0_2
 have HC0_2 := Aside0.mk hc0_2
 clear hr0_2 hc0_2
 have HR0_4 := Aside0.mk hr0_4
 have HC0_4 := Aside0.mk hc0_4
 clear hr0_4 hc0_4
 have HB := Aside0.mk (Below.refl w.heap.size w)
 have H := h
 clear h
 unfold impl_Entries.f at H
 have H' := Aside0.mk H
 clear H
 go_enter Tryz.func23, Tryz.ntmps23
 go_wp2_with (first | ((with_reducible refine gq 2 rfl ?_); refine bx0 HB (N := 2) (t := 52) ?_; clear HB; intro gb412 w3 BK412 GE412 HB) | ((with_reducible refine gq 4 rfl ?_); refine bx1 HB BK412 (N := 4) (cs := #[.int .i64 0, .int .i64 0, .int .i64 0]) (t := 37) ?_; clear HB BK412; intro gb413 w4 BK413 GE413 HB NB412_413 NB413_412 BK412; have hnb5 := NB412_413.out; have hnc5 := NB413_412.out; have hz6 := cs5_ BK412))
 go_loopg [11] k (fun kq v11 w' => ∃ (x11_1 : Int) (x414000_1 : Int) (x414001_1 : Int) (x414002_1 : Int), v11 = .int .i64 x11_1 ∧ Aside0 (impl_Entries.l0 kq a1 l0_2 (l0_2.length : Int) x11_1 = some (r1, r2, r3, r4)) ∧ Aside0 (kq ≤ k) ∧ Aside0 (w'.heap[gb412]? = some (.cells #[.int .i64 a0_0, .int .i64 a0_1, (.slice A0_2 l0_2.length c0_2), .int .i64 a0_3, (.slice A0_4 l0_4.length c0_4)] 52 (0, 0))) ∧ Aside0 (w'.heap[gb413]? = some (.cells #[.int .i64 x414000_1, .int .i64 x414001_1, .int .i64 x414002_1] 37 (0, 0))) ∧ Aside0 (Below w.heap.size w w'))
 case atStart => exact ⟨(0), (0), (0), (0), rsd, H', ⟨Nat.le_refl _⟩, ⟨by (with_reducible repeat (first | refine blk_drewN ?_ _ | refine blk_drew ?_ | refine blk_alloc ?_ _)); exact BK412.out⟩, ⟨by (with_reducible repeat (first | refine blk_drewN ?_ _ | refine blk_drew ?_ | refine blk_alloc ?_ _)); exact BK413.out⟩, ⟨tb HB⟩⟩
 case round =>
  clear H'
  try clear c2
  try clear p2
  try clear c5
  try clear hz6
  obtain ⟨x11_1, x414000_1, x414001_1, x414002_1, rfl, HA, HK1, BK412, BK413, HB⟩ := hrel
  cases gk with
  | zero => exact absurd HA.out (by simp [impl_Entries.l0])
  | succ k1 =>
   have H := HA.out
   clear HA
   simp only [impl_Entries.l0] at H
   revert H; refine icd (fun c7b0 H => ?_) fun c7b0 H => ?neg
   case neg =>
    simp only [Option.some.injEq, Prod.mk.injEq] at H
    obtain ⟨rfl, rfl, rfl, rfl⟩ := H
    have hnb21 := NB413_412.out
    have hnc21 := NB412_413.out
    have hz22 := cs3_ BK413
    go_wp2
    refine bodyPost_ret (results_ct rfl _ _ gb413 37 #[.int .i64 0, .int .i64 0, .int .i64 0] (0, 0) _ rfl (bfp3 BK413) Tryz.underlying37 rfl (by kernel_rfl)) rfl ?_
    exact ⟨er, tb HB⟩
   obtain ⟨c8b0, H⟩ := itd H
   obtain ⟨c9b0, H⟩ := itd H
   by_cases c10 : ((rd_T37 l0_2 x11_1).f0) = a1
   case neg =>
    rw [if_neg c10] at H
    have c10b0 : (((rd_T37 l0_2 x11_1).f0) == a1) = false := beq_eq_false_iff_ne.mpr c10
    have c10b1 : (((rd_T37 l0_2 x11_1).f0) != a1) = true := bne_iff_ne.mpr c10
    have H' := Aside0.mk H
    clear H
    have p414 : 0 ≤ (x11_1 : Int) := od
    have q414 : x11_1 < (l0_2.length : Int) := od
    obtain ⟨ad414, e414, hx414⟩ := att37 HR0_2.out x11_1 p414 q414
    cases e414
    replace hx414 := ox3 HB hx414
    replace p414 := eq_true p414
    replace q414 := eq_true q414
    go_wp2_with (first | ((with_reducible refine gq 7 rfl ?_); refine bx2 HB BK412 BK413 (N := 7) (cs := #[.int .i64 0, .int .i64 0, .int .i64 0]) (t := 37) ?_; clear HB BK412 BK413; intro gb415 w17 BK415 GE415 HB NB412_415 NB415_412 BK412 NB413_415 NB415_413 BK413; have hnb18 := NB415_412.out; have hnc18 := NB412_415.out; have hnb19 := NB415_413.out; have hnc19 := NB413_415.out; have hz20 := cs3_ BK415))
    go_roundg k1
    case measure => have := HK1.out; omega
    case rel => exact ⟨(wrap64 (x11_1 + 1)), (x414000_1), (x414001_1), (x414002_1), rsd, H', ⟨by have := HK1.out; omega⟩, ⟨bf BK412⟩, ⟨bf BK413⟩, ⟨tb HB⟩⟩
   rw [if_pos c10] at H
   have c10b0 : (((rd_T37 l0_2 x11_1).f0) == a1) = true := beq_iff_eq.mpr c10
   have c10b1 : (((rd_T37 l0_2 x11_1).f0) != a1) = false := bne_eq_false_iff_eq.mpr c10
   clear c10
   simp only [Option.some.injEq, Prod.mk.injEq] at H
   obtain ⟨rfl, rfl, rfl, rfl⟩ := H
   have p414 : 0 ≤ (x11_1 : Int) := od
   have q414 : x11_1 < (l0_2.length : Int) := od
   obtain ⟨ad414, e414, hx414_0, hx414_1, hx414_2⟩ := at_T37 HR0_2.out x11_1 p414 q414
   cases e414
   replace hx414_0 := ox HB hx414_0
   replace hx414_1 := ox HB hx414_1
   replace hx414_2 := ox HB hx414_2
   replace p414 := eq_true p414
   replace q414 := eq_true q414
   go_wp2_with (first | ((with_reducible refine gq 7 rfl ?_); refine bx2 HB BK412 BK413 (N := 7) (cs := #[.int .i64 0, .int .i64 0, .int .i64 0]) (t := 37) ?_; clear HB BK412 BK413; intro gb415 w11 BK415 GE415 HB NB412_415 NB415_412 BK412 NB413_415 NB415_413 BK413; have hnb12 := NB415_412.out; have hnc12 := NB412_415.out; have hnb13 := NB415_413.out; have hnc13 := NB413_415.out; have hz14 := cs3_ BK415; have hnb15 := NB413_412.out; have hnc15 := NB412_413.out; have hz16 := cs3_ BK413))
   refine bodyPost_ret (results_ct rfl _ _ gb413 37 #[.int .i64 ((rd_T37 l0_2 x11_1).f0), .int .i64 ((rd_T37 l0_2 x11_1).f1), .int .i64 ((rd_T37 l0_2 x11_1).f2)] (0, 0) _ rfl (bfp3 BK413) Tryz.underlying37 rfl (by kernel_rfl)) rfl ?_
   exact ⟨er, tb HB⟩
def impl_isWordNum.f (a0 : Int) : Option (Bool) := (impl_from.f a0 0 1000).bind fun t417 => (some t417)
set_option maxHeartbeats 8000000 in
set_option maxRecDepth 100000 in
theorem impl_isWordNum.calls (a0 : Int) (r : Bool) (w : World) (h : impl_isWordNum.f a0 = some r) :
  Calls Tryz.prog 115 #[.int .i64 a0] w fun e w' => e = .returned (.bool r) ∧ Drawn0 w w' := by
 have H := h
 clear h
 unfold impl_isWordNum.f at H
 obtain ⟨t417, A2, H⟩ := bn H
 try dsimp only at H
 obtain rfl := oin H
 go_enter Tryz.func115, Tryz.ntmps115
 go_wp2_with (first | ((with_reducible refine gf 62 rfl ?_); refine gL 4 Tryz.func62 #[.int .i64 a0, .int .i64 0, .int .i64 1000] ?_; (with_reducible refine (impl_from.calls a0 0 1000 t417 _ A2.out).mono ?_); rintro e w' ⟨rfl, ⟨nd, rfl⟩⟩; refine ⟨_, rfl, ?_⟩))
 go_ret
 exact ⟨rsd, by repeat (first | exact Drawn0.refl _ | apply Drawn0.step)⟩
def impl_WordOk.f (a0_0 : Int) (a0_1 : Int) (a0_2 : Int) (a1 : Int) : Option (Bool) := if a0_1 = 0 then ((impl_isWordNum.f a0_0).bind fun t430 => (if t430 = true then (some (a0_2 == 0)) else (some false))) else (if a0_0 = 0 then ((impl_from.f a0_1 1 a1).bind fun t431 => (if t431 = true then ((impl_from.f a0_2 1 1000000).bind fun t432 => (some t432)) else (some false))) else (some false))
set_option maxHeartbeats 8000000 in
set_option maxRecDepth 100000 in
theorem impl_WordOk.calls (a0_0 : Int) (a0_1 : Int) (a0_2 : Int) (a1 : Int) (r : Bool) (w : World) (h : impl_WordOk.f a0_0 a0_1 a0_2 a1 = some r) :
  Calls Tryz.prog 79 #[.agg #[.int .i64 a0_0, .int .i64 a0_1, .int .i64 a0_2], .int .i64 a1] w fun e w' => e = .returned (.bool r) ∧ Below w.heap.size w w' := by
 have hu39 := Tryz.underlying39
 have HB := Aside0.mk (Below.refl w.heap.size w)
 have H := h
 clear h
 unfold impl_WordOk.f at H
 by_cases c3 : a0_1 = 0
 case pos =>
  rw [if_pos c3] at H
  have c3b0 : (a0_1 == 0) = true := beq_iff_eq.mpr c3
  have c3b1 : (a0_1 != 0) = false := bne_eq_false_iff_eq.mpr c3
  clear c3
  obtain ⟨t430, A4, H⟩ := bn H
  try dsimp only at H
  cases t430
  case true =>
   replace H := ipt H
   obtain rfl := oin H
   go_enter Tryz.func79, Tryz.ntmps79
   go_wp2_with (first | ((with_reducible refine gq 2 rfl ?_); refine bx0 HB (N := 2) (t := 39) ?_; clear HB; intro gb429 w6 BK429 GE429 HB; have hz7 := cs3_ BK429) | ((with_reducible refine gf 115 rfl ?_); refine gL 10 Tryz.func115 #[.int .i64 a0_0] ?_; (with_reducible refine (impl_isWordNum.calls a0_0 true _ A4.out).mono ?_); rintro e w' ⟨rfl, ⟨nd, rfl⟩⟩; refine ⟨_, rfl, ?_⟩))
   go_ret
   exact ⟨er, tb HB⟩
  replace H := ipf H
  obtain rfl := oin H
  go_enter Tryz.func79, Tryz.ntmps79
  go_wp2_with (first | ((with_reducible refine gq 2 rfl ?_); refine bx0 HB (N := 2) (t := 39) ?_; clear HB; intro gb429 w8 BK429 GE429 HB; have hz9 := cs3_ BK429) | ((with_reducible refine gf 115 rfl ?_); refine gL 10 Tryz.func115 #[.int .i64 a0_0] ?_; (with_reducible refine (impl_isWordNum.calls a0_0 false _ A4.out).mono ?_); rintro e w' ⟨rfl, ⟨nd, rfl⟩⟩; refine ⟨_, rfl, ?_⟩))
  go_ret
  exact ⟨er, tb HB⟩
 rw [if_neg c3] at H
 have c3b0 : (a0_1 == 0) = false := beq_eq_false_iff_ne.mpr c3
 have c3b1 : (a0_1 != 0) = true := bne_iff_ne.mpr c3
 by_cases c10 : a0_0 = 0
 case neg =>
  rw [if_neg c10] at H
  have c10b0 : (a0_0 == 0) = false := beq_eq_false_iff_ne.mpr c10
  have c10b1 : (a0_0 != 0) = true := bne_iff_ne.mpr c10
  obtain rfl := oin H
  go_enter Tryz.func79, Tryz.ntmps79
  go_wp2_with (first | ((with_reducible refine gq 2 rfl ?_); refine bx0 HB (N := 2) (t := 39) ?_; clear HB; intro gb429 w18 BK429 GE429 HB; have hz19 := cs3_ BK429))
  go_ret
  exact ⟨er, tb HB⟩
 
 
 rw [if_pos c10] at H
 have c10b0 : (a0_0 == 0) = true := beq_iff_eq.mpr c10
 have c10b1 : (a0_0 != 0) = false := bne_eq_false_iff_eq.mpr c10
 clear c10
 obtain ⟨t431, A11, H⟩ := bn H
 try dsimp only at H
 cases t431
 case false =>
  replace H := ipf H
  obtain rfl := oin H
  go_enter Tryz.func79, Tryz.ntmps79
  go_wp2_with (first | ((with_reducible refine gq 2 rfl ?_); refine bx0 HB (N := 2) (t := 39) ?_; clear HB; intro gb429 w16 BK429 GE429 HB; have hz17 := cs3_ BK429) | (go_at_call 62; (with_reducible refine (impl_from.calls a0_1 1 a1 false _ A11.out).mono ?_); rintro e w' ⟨rfl, ⟨nd, rfl⟩⟩))
  go_ret
  exact ⟨er, tb HB⟩
 replace H := ipt H
 obtain ⟨t432, A13, H⟩ := bn H
 try dsimp only at H
 obtain rfl := oin H
 go_enter Tryz.func79, Tryz.ntmps79
 go_wp2_with (first | ((with_reducible refine gq 2 rfl ?_); refine bx0 HB (N := 2) (t := 39) ?_; clear HB; intro gb429 w14 BK429 GE429 HB; have hz15 := cs3_ BK429) | (go_at_call 62; (with_reducible refine (impl_from.calls a0_1 1 a1 true _ A11.out).mono ?_); rintro e w' ⟨rfl, ⟨nd, rfl⟩⟩) | (go_at_call 62; (with_reducible refine (impl_from.calls a0_2 1 1000000 t432 _ A13.out).mono ?_); rintro e w' ⟨rfl, ⟨nd, rfl⟩⟩))
 go_ret
 exact ⟨er, tb HB⟩
end Go.Proofs.YtopikhjcbcpiaaaGreat.Q
section
namespace Go.Proofs.YtopikhjcbcpiaaaGreat.Q
open Go.RowKit Go.Proofs.YtopikhjcbcpiaaaGreatW.PrintWords Go.Proofs.YtopikhjcbcpiaaaGreatW.PrintLast Go.Proofs.YtopikhjcbcpiaaaGreatW.PrintMore
def impl_ThreadOk_3.f (x0 x1 x2 x3 a1 : Int) : Option Bool := (impl_from.f x0 0 (wrap64 (a1 - 1))).bind fun t1 => if t1 = true then (impl_from.f x1 1 1000000).bind fun t2 => if t2 = true then (impl_from.f x2 0 20).bind fun t3 => if t3 = true then (impl_from.f x3 0 20).bind fun t4 => some (!t4) else some true else some true else some true
set_option maxHeartbeats 4000000 in
set_option maxRecDepth 100000 in
theorem impl_ThreadOk_3_test (g1 : Nat) (x0 x1 x2 x3 a1 : Int) (b : Bool) (w : World) (hg1 : w.heap[g1]? = some (.cells #[.int .i64 a1] 3 (0, 0))) (h : impl_ThreadOk_3.f x0 x1 x2 x3 a1 = some b) :
    Calls Tryz.prog 117 #[.agg #[.int .i64 x0, .int .i64 x1, .int .i64 x2, .int .i64 x3], .pointer (some ⟨g1, 0, none⟩)] w fun e w' => e = .returned (.bool b) ∧ Below w.heap.size w w' := by
  have huE := Tryz.underlying42
  have HG := Aside0.mk hg1
  clear hg1
  unfold impl_ThreadOk_3.f at h
  obtain ⟨t1, e1, h⟩ := Option.bind_eq_some_iff.mp h
  have E1 := Aside0.mk e1
  clear e1
  cases t1 with
  | false =>
    simp only [Bool.false_eq_true, if_false, Option.some.injEq] at h
    subst h
    go_enter Tryz.func117, Tryz.ntmps117
    go_wp2_with (first | ((with_reducible refine gate_dst (N := 2) rfl ?_); refine box_event ?hg (N := 2) ?hd (cs := #[.int .i64 x0, .int .i64 x1, .int .i64 x2, .int .i64 x3]) (t := 42) ?hr ?_; (case hd => rfl); (case hg => rfl); (case hr => first | (go_simp; done) | (go_simp; rfl)); intro gb hg_ w2 hbox hb; have HB := Aside0.mk hb; have hc_ : w2.cell? ⟨g1, 0, none⟩ = some (.int .i64 a1) := (blk_cell (blk_below HG.out hb) 0).trans rfl; have hz0 : w2.cell? ⟨gb, 0, none⟩ = some (.int .i64 x0) := (blk_cell hbox 0).trans rfl; have hz1 : w2.cell? ⟨gb, 1, none⟩ = some (.int .i64 x1) := (blk_cell hbox 1).trans rfl; have hz2 : w2.cell? ⟨gb, 2, none⟩ = some (.int .i64 x2) := (blk_cell hbox 2).trans rfl; have hz3 : w2.cell? ⟨gb, 3, none⟩ = some (.int .i64 x3) := (blk_cell hbox 3).trans rfl; clear hb hg_ hbox) | (go_at_call 62; (with_reducible refine (impl_from.calls x0 0 (wrap64 (a1 - 1)) false _ E1.out).mono ?_); rintro e w' ⟨rfl, ⟨nd, rfl⟩⟩))
    go_ret
    exact ⟨by first | rfl | (simp; done) | (simp [*]; done), by repeat (first | (with_reducible first | exact HB.out | apply below_alloc | apply pw_below_drewN | apply below_drew1) | exact HB.out)⟩
  | true =>
    simp only [if_true] at h
    obtain ⟨t2, e2, h⟩ := Option.bind_eq_some_iff.mp h
    have E2 := Aside0.mk e2
    clear e2
    cases t2 with
    | false =>
      simp only [Bool.false_eq_true, if_false, Option.some.injEq] at h
      subst h
      go_enter Tryz.func117, Tryz.ntmps117
      go_wp2_with (first | ((with_reducible refine gate_dst (N := 2) rfl ?_); refine box_event ?hg (N := 2) ?hd (cs := #[.int .i64 x0, .int .i64 x1, .int .i64 x2, .int .i64 x3]) (t := 42) ?hr ?_; (case hd => rfl); (case hg => rfl); (case hr => first | (go_simp; done) | (go_simp; rfl)); intro gb hg_ w2 hbox hb; have HB := Aside0.mk hb; have hc_ : w2.cell? ⟨g1, 0, none⟩ = some (.int .i64 a1) := (blk_cell (blk_below HG.out hb) 0).trans rfl; have hz0 : w2.cell? ⟨gb, 0, none⟩ = some (.int .i64 x0) := (blk_cell hbox 0).trans rfl; have hz1 : w2.cell? ⟨gb, 1, none⟩ = some (.int .i64 x1) := (blk_cell hbox 1).trans rfl; have hz2 : w2.cell? ⟨gb, 2, none⟩ = some (.int .i64 x2) := (blk_cell hbox 2).trans rfl; have hz3 : w2.cell? ⟨gb, 3, none⟩ = some (.int .i64 x3) := (blk_cell hbox 3).trans rfl; clear hb hg_ hbox) | (go_at_call 62; (with_reducible refine (impl_from.calls x0 0 (wrap64 (a1 - 1)) true _ E1.out).mono ?_); rintro e w' ⟨rfl, ⟨nd, rfl⟩⟩) | (go_at_call 62; (with_reducible refine (impl_from.calls x1 1 1000000 false _ E2.out).mono ?_); rintro e w' ⟨rfl, ⟨nd, rfl⟩⟩))
      go_ret
      exact ⟨by first | rfl | (simp; done) | (simp [*]; done), by repeat (first | (with_reducible first | exact HB.out | apply below_alloc | apply pw_below_drewN | apply below_drew1) | exact HB.out)⟩
    | true =>
      simp only [if_true] at h
      obtain ⟨t3, e3, h⟩ := Option.bind_eq_some_iff.mp h
      have E3 := Aside0.mk e3
      clear e3
      cases t3 with
      | false =>
        simp only [Bool.false_eq_true, if_false, Option.some.injEq] at h
        subst h
        go_enter Tryz.func117, Tryz.ntmps117
        go_wp2_with (first | ((with_reducible refine gate_dst (N := 2) rfl ?_); refine box_event ?hg (N := 2) ?hd (cs := #[.int .i64 x0, .int .i64 x1, .int .i64 x2, .int .i64 x3]) (t := 42) ?hr ?_; (case hd => rfl); (case hg => rfl); (case hr => first | (go_simp; done) | (go_simp; rfl)); intro gb hg_ w2 hbox hb; have HB := Aside0.mk hb; have hc_ : w2.cell? ⟨g1, 0, none⟩ = some (.int .i64 a1) := (blk_cell (blk_below HG.out hb) 0).trans rfl; have hz0 : w2.cell? ⟨gb, 0, none⟩ = some (.int .i64 x0) := (blk_cell hbox 0).trans rfl; have hz1 : w2.cell? ⟨gb, 1, none⟩ = some (.int .i64 x1) := (blk_cell hbox 1).trans rfl; have hz2 : w2.cell? ⟨gb, 2, none⟩ = some (.int .i64 x2) := (blk_cell hbox 2).trans rfl; have hz3 : w2.cell? ⟨gb, 3, none⟩ = some (.int .i64 x3) := (blk_cell hbox 3).trans rfl; clear hb hg_ hbox) | (go_at_call 62; (with_reducible refine (impl_from.calls x0 0 (wrap64 (a1 - 1)) true _ E1.out).mono ?_); rintro e w' ⟨rfl, ⟨nd, rfl⟩⟩) | (go_at_call 62; (with_reducible refine (impl_from.calls x1 1 1000000 true _ E2.out).mono ?_); rintro e w' ⟨rfl, ⟨nd, rfl⟩⟩) | (go_at_call 62; (with_reducible refine (impl_from.calls x2 0 20 false _ E3.out).mono ?_); rintro e w' ⟨rfl, ⟨nd, rfl⟩⟩))
        go_ret
        exact ⟨by first | rfl | (simp; done) | (simp [*]; done), by repeat (first | (with_reducible first | exact HB.out | apply below_alloc | apply pw_below_drewN | apply below_drew1) | exact HB.out)⟩
      | true =>
        simp only [if_true] at h
        obtain ⟨t4, e4, h⟩ := Option.bind_eq_some_iff.mp h
        have E4 := Aside0.mk e4
        clear e4
        cases t4 with
        | true =>
          obtain rfl := Option.some.inj h
          clear h
          go_enter Tryz.func117, Tryz.ntmps117
          go_wp2_with (first | ((with_reducible refine gate_dst (N := 2) rfl ?_); refine box_event ?hg (N := 2) ?hd (cs := #[.int .i64 x0, .int .i64 x1, .int .i64 x2, .int .i64 x3]) (t := 42) ?hr ?_; (case hd => rfl); (case hg => rfl); (case hr => first | (go_simp; done) | (go_simp; rfl)); intro gb hg_ w2 hbox hb; have HB := Aside0.mk hb; have hc_ : w2.cell? ⟨g1, 0, none⟩ = some (.int .i64 a1) := (blk_cell (blk_below HG.out hb) 0).trans rfl; have hz0 : w2.cell? ⟨gb, 0, none⟩ = some (.int .i64 x0) := (blk_cell hbox 0).trans rfl; have hz1 : w2.cell? ⟨gb, 1, none⟩ = some (.int .i64 x1) := (blk_cell hbox 1).trans rfl; have hz2 : w2.cell? ⟨gb, 2, none⟩ = some (.int .i64 x2) := (blk_cell hbox 2).trans rfl; have hz3 : w2.cell? ⟨gb, 3, none⟩ = some (.int .i64 x3) := (blk_cell hbox 3).trans rfl; clear hb hg_ hbox) | (go_at_call 62; (with_reducible refine (impl_from.calls x0 0 (wrap64 (a1 - 1)) true _ E1.out).mono ?_); rintro e w' ⟨rfl, ⟨nd, rfl⟩⟩) | (go_at_call 62; (with_reducible refine (impl_from.calls x1 1 1000000 true _ E2.out).mono ?_); rintro e w' ⟨rfl, ⟨nd, rfl⟩⟩) | (go_at_call 62; (with_reducible refine (impl_from.calls x2 0 20 true _ E3.out).mono ?_); rintro e w' ⟨rfl, ⟨nd, rfl⟩⟩) | (go_at_call 62; (with_reducible refine (impl_from.calls x3 0 20 true _ E4.out).mono ?_); rintro e w' ⟨rfl, ⟨nd, rfl⟩⟩))
          go_ret
          exact ⟨by first | rfl | (simp; done) | (simp [*]; done), by repeat (first | (with_reducible first | exact HB.out | apply below_alloc | apply pw_below_drewN | apply below_drew1) | exact HB.out)⟩
        | false =>
          obtain rfl := Option.some.inj h
          clear h
          go_enter Tryz.func117, Tryz.ntmps117
          go_wp2_with (first | ((with_reducible refine gate_dst (N := 2) rfl ?_); refine box_event ?hg (N := 2) ?hd (cs := #[.int .i64 x0, .int .i64 x1, .int .i64 x2, .int .i64 x3]) (t := 42) ?hr ?_; (case hd => rfl); (case hg => rfl); (case hr => first | (go_simp; done) | (go_simp; rfl)); intro gb hg_ w2 hbox hb; have HB := Aside0.mk hb; have hc_ : w2.cell? ⟨g1, 0, none⟩ = some (.int .i64 a1) := (blk_cell (blk_below HG.out hb) 0).trans rfl; have hz0 : w2.cell? ⟨gb, 0, none⟩ = some (.int .i64 x0) := (blk_cell hbox 0).trans rfl; have hz1 : w2.cell? ⟨gb, 1, none⟩ = some (.int .i64 x1) := (blk_cell hbox 1).trans rfl; have hz2 : w2.cell? ⟨gb, 2, none⟩ = some (.int .i64 x2) := (blk_cell hbox 2).trans rfl; have hz3 : w2.cell? ⟨gb, 3, none⟩ = some (.int .i64 x3) := (blk_cell hbox 3).trans rfl; clear hb hg_ hbox) | (go_at_call 62; (with_reducible refine (impl_from.calls x0 0 (wrap64 (a1 - 1)) true _ E1.out).mono ?_); rintro e w' ⟨rfl, ⟨nd, rfl⟩⟩) | (go_at_call 62; (with_reducible refine (impl_from.calls x1 1 1000000 true _ E2.out).mono ?_); rintro e w' ⟨rfl, ⟨nd, rfl⟩⟩) | (go_at_call 62; (with_reducible refine (impl_from.calls x2 0 20 true _ E3.out).mono ?_); rintro e w' ⟨rfl, ⟨nd, rfl⟩⟩) | (go_at_call 62; (with_reducible refine (impl_from.calls x3 0 20 false _ E4.out).mono ?_); rintro e w' ⟨rfl, ⟨nd, rfl⟩⟩))
          go_ret
          exact ⟨by first | rfl | (simp; done) | (simp [*]; done), by repeat (first | (with_reducible first | exact HB.out | apply below_alloc | apply pw_below_drewN | apply below_drew1) | exact HB.out)⟩
end Go.Proofs.YtopikhjcbcpiaaaGreat.Q
end
namespace Go.Proofs.YtopikhjcbcpiaaaGreat.Q
open Go.RowKit Go.Proofs.YtopikhjcbcpiaaaGreatW.PrintWords Go.Proofs.YtopikhjcbcpiaaaGreatW.PrintLast Go.Proofs.YtopikhjcbcpiaaaGreatW.PrintMore
attribute [local go_sem] max2_int min2_int max_two min_two max_three min_three max_four min_four   -- for this text's walks alone
set_option linter.unusedVariables false
set_option linter.unusedSimpArgs false
def impl_ValOk.f (a0 : Int) : Option (Bool) := (impl_from.f a0 1 6).bind fun t446 => (some t446)
set_option maxHeartbeats 8000000 in
set_option maxRecDepth 100000 in
theorem impl_ValOk.calls (a0 : Int) (r : Bool) (w : World) (h : impl_ValOk.f a0 = some r) :
  Calls Tryz.prog 148 #[.int .i64 a0] w fun e w' => e = .returned (.bool r) ∧ Drawn0 w w' := by
 have H := h
 clear h
 unfold impl_ValOk.f at H
 obtain ⟨t446, A2, H⟩ := bn H
 try dsimp only at H
 obtain rfl := oin H
 go_enter Tryz.func148, Tryz.ntmps148
 go_wp2_with (first | ((with_reducible refine gf 62 rfl ?_); refine gL 4 Tryz.func62 #[.int .i64 a0, .int .i64 1, .int .i64 6] ?_; (with_reducible refine (impl_from.calls a0 1 6 t446 _ A2.out).mono ?_); rintro e w' ⟨rfl, ⟨nd, rfl⟩⟩; refine ⟨_, rfl, ?_⟩))
 go_ret
 exact ⟨rsd, by repeat (first | exact Drawn0.refl _ | apply Drawn0.step)⟩
def impl_KeyOk.f (a0 : Int) : Option (Bool) := (impl_from.f a0 0 3).bind fun t447 => (some t447)
set_option maxHeartbeats 8000000 in
set_option maxRecDepth 100000 in
theorem impl_KeyOk.calls (a0 : Int) (r : Bool) (w : World) (h : impl_KeyOk.f a0 = some r) :
  Calls Tryz.prog 150 #[.int .i64 a0] w fun e w' => e = .returned (.bool r) ∧ Drawn0 w w' := by
 have H := h
 clear h
 unfold impl_KeyOk.f at H
 obtain ⟨t447, A2, H⟩ := bn H
 try dsimp only at H
 obtain rfl := oin H
 go_enter Tryz.func150, Tryz.ntmps150
 go_wp2_with (first | ((with_reducible refine gf 62 rfl ?_); refine gL 4 Tryz.func62 #[.int .i64 a0, .int .i64 0, .int .i64 3] ?_; (with_reducible refine (impl_from.calls a0 0 3 t447 _ A2.out).mono ?_); rintro e w' ⟨rfl, ⟨nd, rfl⟩⟩; refine ⟨_, rfl, ?_⟩))
 go_ret
 exact ⟨rsd, by repeat (first | exact Drawn0.refl _ | apply Drawn0.step)⟩
def impl_isClass.f (a0 : Int) : Option (Bool) := (impl_from.f a0 0 2).bind fun t448 => (some t448)
set_option maxHeartbeats 8000000 in
set_option maxRecDepth 100000 in
theorem impl_isClass.calls (a0 : Int) (r : Bool) (w : World) (h : impl_isClass.f a0 = some r) :
  Calls Tryz.prog 151 #[.int .i64 a0] w fun e w' => e = .returned (.bool r) ∧ Drawn0 w w' := by
 have H := h
 clear h
 unfold impl_isClass.f at H
 obtain ⟨t448, A2, H⟩ := bn H
 try dsimp only at H
 obtain rfl := oin H
 go_enter Tryz.func151, Tryz.ntmps151
 go_wp2_with (first | ((with_reducible refine gf 62 rfl ?_); refine gL 4 Tryz.func62 #[.int .i64 a0, .int .i64 0, .int .i64 2] ?_; (with_reducible refine (impl_from.calls a0 0 2 t448 _ A2.out).mono ?_); rintro e w' ⟨rfl, ⟨nd, rfl⟩⟩; refine ⟨_, rfl, ?_⟩))
 go_ret
 exact ⟨rsd, by repeat (first | exact Drawn0.refl _ | apply Drawn0.step)⟩
mutual
def impl_OpOk.j0 : Nat → Int → Bool → Int → Int → Int → Option (Bool)
 | 0, _, _, _, _, _ => none
 | k + 1, x4, x5, x450000, x450001, x450002 => if x5 = true then ((impl_KeyOk.f x450001).bind fun t450 => (if t450 = true then ((impl_ValOk.f x450002).bind fun t451 => (some t451)) else (some false))) else (if x4 = 3 then (impl_OpOk.j1 k x4 (x4 == 3) x450000 x450001 x450002) else (impl_OpOk.j1 k x4 (x4 == 4) x450000 x450001 x450002))
def impl_OpOk.j1 : Nat → Int → Bool → Int → Int → Int → Option (Bool)
 | 0, _, _, _, _, _ => none
 | k + 1, x4, x16, x450000, x450001, x450002 => if x16 = true then ((impl_KeyOk.f x450001).bind fun t452 => (if t452 = true then (some (x450002 == 0)) else (some false))) else (if x4 = 5 then (impl_OpOk.j2 k x4 (x4 == 5) x450000 x450001 x450002) else (impl_OpOk.j2 k x4 (x4 == 10) x450000 x450001 x450002))
def impl_OpOk.j2 : Nat → Int → Bool → Int → Int → Int → Option (Bool)
 | 0, _, _, _, _, _ => none
 | k + 1, x4, x27, x450000, x450001, x450002 => if x27 = true then (if x450001 = 0 then ((impl_ValOk.f x450002).bind fun t453 => (some t453)) else (some false)) else (if x4 = 6 then ((impl_isClass.f x450001).bind fun t454 => (if t454 = true then (some (x450002 == 0)) else (some false))) else (if x4 = 7 then (if x450001 = 0 then (some (x450002 == 0)) else (some false)) else (if x4 = 8 then (if x450001 = 0 then (some (x450002 == 0)) else (some false)) else (if x4 = 9 then (if x450001 = 0 then (some (x450002 == 0)) else (some false)) else (some false)))))
end
def impl_OpOk.f (k : Nat) (a0_0 : Int) (a0_1 : Int) (a0_2 : Int) : Option (Bool) := if a0_0 = 1 then (impl_OpOk.j0 k a0_0 (a0_0 == 1) a0_0 a0_1 a0_2) else (impl_OpOk.j0 k a0_0 (a0_0 == 2) a0_0 a0_1 a0_2)
theorem impl_OpOk.mono_l : ∀ k, (∀ y0 y1 y2 y3 y4, LeO (impl_OpOk.j0 k y0 y1 y2 y3 y4) (impl_OpOk.j0 (k + 1) y0 y1 y2 y3 y4)) ∧ (∀ y0 y1 y2 y3 y4, LeO (impl_OpOk.j1 k y0 y1 y2 y3 y4) (impl_OpOk.j1 (k + 1) y0 y1 y2 y3 y4)) ∧ (∀ y0 y1 y2 y3 y4, LeO (impl_OpOk.j2 k y0 y1 y2 y3 y4) (impl_OpOk.j2 (k + 1) y0 y1 y2 y3 y4))
 | 0 => ⟨fun _ _ _ _ _ r h => by simp [impl_OpOk.j0] at h, fun _ _ _ _ _ r h => by simp [impl_OpOk.j1] at h, fun _ _ _ _ _ r h => by simp [impl_OpOk.j2] at h⟩
 | k + 1 => by
  obtain ⟨ih0, ih1, ih2⟩ := impl_OpOk.mono_l k
  refine ⟨?_, ?_, ?_⟩
  ·intro y0 y1 y2 y3 y4
   unfold impl_OpOk.j0
   repeat' first
   | (with_reducible exact ih0 _ _ _ _ _)
   | (with_reducible exact ih1 _ _ _ _ _)
   | (with_reducible exact ih2 _ _ _ _ _)
   | (with_reducible exact LeO.refl _)
   | (with_reducible exact LeO.none _)
   | (with_reducible refine LeO.ite ?_ ?_)
   | (with_reducible refine LeO.bind ?_ (fun _ => ?_))
   | exact ih0 _ _ _ _ _
   | exact ih1 _ _ _ _ _
   | exact ih2 _ _ _ _ _
   | exact LeO.none _
   | refine LeO.ite ?_ ?_
   | refine LeO.bind ?_ (fun _ => ?_)
  ·intro y0 y1 y2 y3 y4
   unfold impl_OpOk.j1
   repeat' first
   | (with_reducible exact ih0 _ _ _ _ _)
   | (with_reducible exact ih1 _ _ _ _ _)
   | (with_reducible exact ih2 _ _ _ _ _)
   | (with_reducible exact LeO.refl _)
   | (with_reducible exact LeO.none _)
   | (with_reducible refine LeO.ite ?_ ?_)
   | (with_reducible refine LeO.bind ?_ (fun _ => ?_))
   | exact ih0 _ _ _ _ _
   | exact ih1 _ _ _ _ _
   | exact ih2 _ _ _ _ _
   | exact LeO.none _
   | refine LeO.ite ?_ ?_
   | refine LeO.bind ?_ (fun _ => ?_)
  ·intro y0 y1 y2 y3 y4
   unfold impl_OpOk.j2
   repeat' first
   | (with_reducible exact ih0 _ _ _ _ _)
   | (with_reducible exact ih1 _ _ _ _ _)
   | (with_reducible exact ih2 _ _ _ _ _)
   | (with_reducible exact LeO.refl _)
   | (with_reducible exact LeO.none _)
   | (with_reducible refine LeO.ite ?_ ?_)
   | (with_reducible refine LeO.bind ?_ (fun _ => ?_))
   | exact ih0 _ _ _ _ _
   | exact ih1 _ _ _ _ _
   | exact ih2 _ _ _ _ _
   | exact LeO.none _
   | refine LeO.ite ?_ ?_
   | refine LeO.bind ?_ (fun _ => ?_)
theorem impl_OpOk.mono : ∀ a0 a1 a2 k, LeO (impl_OpOk.f k a0 a1 a2) (impl_OpOk.f (k + 1) a0 a1 a2) := by
 intro a0 a1 a2 k
 obtain ⟨ih0, ih1, ih2⟩ := impl_OpOk.mono_l k
 unfold impl_OpOk.f
 repeat' first
   | (with_reducible exact ih0 _ _ _ _ _)
   | (with_reducible exact ih1 _ _ _ _ _)
   | (with_reducible exact ih2 _ _ _ _ _)
   | (with_reducible exact LeO.refl _)
   | (with_reducible exact LeO.none _)
   | (with_reducible refine LeO.ite ?_ ?_)
   | (with_reducible refine LeO.bind ?_ (fun _ => ?_))
   | exact ih0 _ _ _ _ _
   | exact ih1 _ _ _ _ _
   | exact ih2 _ _ _ _ _
   | exact LeO.none _
   | refine LeO.ite ?_ ?_
   | refine LeO.bind ?_ (fun _ => ?_)
set_option maxHeartbeats 8000000 in
set_option maxRecDepth 100000 in
theorem impl_OpOk.calls (k : Nat) (a0_0 : Int) (a0_1 : Int) (a0_2 : Int) (r : Bool) (w : World) (h : impl_OpOk.f k a0_0 a0_1 a0_2 = some r) :
  Calls Tryz.prog 95 #[.agg #[.int .i64 a0_0, .int .i64 a0_1, .int .i64 a0_2]] w fun e w' => e = .returned (.bool r) ∧ Below w.heap.size w w' := by
 have hu132 := Tryz.underlying132
 have HB := Aside0.mk (Below.refl w.heap.size w)
 have H := h
 clear h
 unfold impl_OpOk.f at H
 have HC2 := Aside0.mk H
 clear H
 go_enter Tryz.func95, Tryz.ntmps95
 go_upto_if 5 with (first | ((with_reducible refine gq 1 rfl ?_); refine bx0 HB (N := 1) (t := 132) ?_; clear HB; intro gb449 w3 BK449 GE449 HB; have hz4 := cs3_ BK449))
 (try simp only [Act.put, sA, sB, sC])
 go_cut [5] (fun v5 wc => ∃ (kq : Nat) (x5_1 : Bool), v5 = .bool x5_1 ∧ Aside0 (impl_OpOk.j0 kq a0_0 x5_1 a0_0 a0_1 a0_2 = some r) ∧ Aside0 (kq ≤ k) ∧ Aside0 (wc.heap[gb449]? = some (.cells #[.int .i64 a0_0, .int .i64 a0_1, .int .i64 a0_2] 132 (0, 0))) ∧ Aside0 (Below w.heap.size w wc))
 case first =>
  have H := HC2.out
  clear HC2
  by_cases c5 : a0_0 = 1
  case neg =>
   rw [if_neg c5] at H
   have c5b0 : (a0_0 == 1) = false := beq_eq_false_iff_ne.mpr c5
   have c5b1 : (a0_0 != 1) = true := bne_iff_ne.mpr c5
   (first | rw [c5b0] | (simp only [i64_w, i32_w]; rw [c5b0]) | skip)
   have H' := Aside0.mk H
   clear H
   go_wp2
   go_meet
   case rel => exact ⟨_, ((a0_0 == 2)), rsd, H', ⟨by first | omega | exact Nat.le_refl _⟩, ⟨by (with_reducible repeat (first | refine blk_drewN ?_ _ | refine blk_drew ?_ | refine blk_alloc ?_ _)); exact BK449.out⟩, ⟨tb HB⟩⟩
  rw [if_pos c5] at H
  have c5b0 : (a0_0 == 1) = true := beq_iff_eq.mpr c5
  have c5b1 : (a0_0 != 1) = false := bne_eq_false_iff_eq.mpr c5
  clear c5
  (first | rw [c5b0] | (simp only [i64_w, i32_w]; rw [c5b0]) | skip)
  have H' := Aside0.mk H
  clear H
  go_wp2
  go_meet
  case rel => exact ⟨_, ((a0_0 == 1)), rsd, H', ⟨by first | omega | exact Nat.le_refl _⟩, ⟨by (with_reducible repeat (first | refine blk_drewN ?_ _ | refine blk_drew ?_ | refine blk_alloc ?_ _)); exact BK449.out⟩, ⟨tb HB⟩⟩
 case rest =>
  clear HC2
  try clear p2
  try clear c5
  try clear c5b0
  try clear c5b1
  try clear hz4
  obtain ⟨kq, x5_1, rfl, HA, HJ1, BK449, HB⟩ := hcut
  cases kq with
  | zero => exact absurd HA.out (by simp [impl_OpOk.j0])
  | succ kj1 =>
   have H := HA.out
   clear HA
   simp only [impl_OpOk.j0] at H
   cases x5_1
   case true =>
    replace H := ipt H
    obtain ⟨t450, A7, H⟩ := bn H
    try dsimp only at H
    cases t450
    case false =>
     replace H := ipf H
     obtain rfl := oin H
     have hz11 := cs3_ BK449
     go_wp2_with (first | ((with_reducible refine gf 150 rfl ?_); refine gL 10 Tryz.func150 #[.int .i64 a0_1] ?_; (with_reducible refine (impl_KeyOk.calls a0_1 false _ A7.out).mono ?_); rintro e w' ⟨rfl, ⟨nd, rfl⟩⟩; refine ⟨_, rfl, ?_⟩))
     go_ret
     exact ⟨er, tb HB⟩
    replace H := ipt H
    obtain ⟨t451, A9, H⟩ := bn H
    try dsimp only at H
    obtain rfl := oin H
    have hz10 := cs3_ BK449
    go_wp2_with (first | ((with_reducible refine gf 150 rfl ?_); refine gL 10 Tryz.func150 #[.int .i64 a0_1] ?_; (with_reducible refine (impl_KeyOk.calls a0_1 true _ A7.out).mono ?_); rintro e w' ⟨rfl, ⟨nd, rfl⟩⟩; refine ⟨_, rfl, ?_⟩) | (go_at_call 148; (with_reducible refine (impl_ValOk.calls a0_2 t451 _ A9.out).mono ?_); rintro e w' ⟨rfl, ⟨nd, rfl⟩⟩))
    go_ret
    exact ⟨er, tb HB⟩
   replace H := ipf H
   have HC12 := Aside0.mk H
   clear H
   go_upto_if 16 with (fail)
   go_cut [16] (fun v16 wc => ∃ (kq : Nat) (x16_11 : Bool), v16 = .bool x16_11 ∧ Aside0 (impl_OpOk.j1 kq a0_0 x16_11 a0_0 a0_1 a0_2 = some r) ∧ Aside0 (kq ≤ kj1) ∧ Aside0 (wc.heap[gb449]? = some (.cells #[.int .i64 a0_0, .int .i64 a0_1, .int .i64 a0_2] 132 (0, 0))) ∧ Aside0 (Below w.heap.size w wc))
   case first =>
    have H := HC12.out
    clear HC12
    by_cases c13 : a0_0 = 3
    case neg =>
     rw [if_neg c13] at H
     have c13b0 : (a0_0 == 3) = false := beq_eq_false_iff_ne.mpr c13
     have c13b1 : (a0_0 != 3) = true := bne_iff_ne.mpr c13
     (first | rw [c13b0] | (simp only [i64_w, i32_w]; rw [c13b0]) | skip)
     have H' := Aside0.mk H
     clear H
     go_wp2
     go_meet
     case rel => exact ⟨_, ((a0_0 == 4)), rsd, H', ⟨by have := HJ1.out; first | omega | exact Nat.le_refl _⟩, ⟨by (with_reducible repeat (first | refine blk_drewN ?_ _ | refine blk_drew ?_ | refine blk_alloc ?_ _)); exact BK449.out⟩, ⟨tb HB⟩⟩
    rw [if_pos c13] at H
    have c13b0 : (a0_0 == 3) = true := beq_iff_eq.mpr c13
    have c13b1 : (a0_0 != 3) = false := bne_eq_false_iff_eq.mpr c13
    clear c13
    (first | rw [c13b0] | (simp only [i64_w, i32_w]; rw [c13b0]) | skip)
    have H' := Aside0.mk H
    clear H
    go_wp2
    go_meet
    case rel => exact ⟨_, ((a0_0 == 3)), rsd, H', ⟨by have := HJ1.out; first | omega | exact Nat.le_refl _⟩, ⟨by (with_reducible repeat (first | refine blk_drewN ?_ _ | refine blk_drew ?_ | refine blk_alloc ?_ _)); exact BK449.out⟩, ⟨tb HB⟩⟩
   case rest =>
    clear HC12
    try clear c1
    try clear p2
    try clear c5
    try clear c5b0
    try clear c5b1
    try clear c6
    try clear c8
    try clear c9
    try clear c13
    try clear c13b0
    try clear c13b1
    try clear hz10
    try clear hz11
    try clear hz4
    try clear hz10
    try clear hz11
    try clear hz4
    try clear p2
    obtain ⟨kq, x16_11, rfl, HA, HJ11, BK449, HB⟩ := hcut
    cases kq with
    | zero => exact absurd HA.out (by simp [impl_OpOk.j1])
    | succ kj11 =>
     have H := HA.out
     clear HA
     simp only [impl_OpOk.j1] at H
     cases x16_11
     case true =>
      replace H := ipt H
      obtain ⟨t452, A15, H⟩ := bn H
      try dsimp only at H
      cases t452
      case true =>
       replace H := ipt H
       obtain rfl := oin H
       have hz17 := cs3_ BK449
       go_wp2_with (first | ((with_reducible refine gf 150 rfl ?_); refine gL 21 Tryz.func150 #[.int .i64 a0_1] ?_; (with_reducible refine (impl_KeyOk.calls a0_1 true _ A15.out).mono ?_); rintro e w' ⟨rfl, ⟨nd, rfl⟩⟩; refine ⟨_, rfl, ?_⟩))
       go_ret
       exact ⟨er, tb HB⟩
      replace H := ipf H
      obtain rfl := oin H
      have hz18 := cs3_ BK449
      go_wp2_with (first | ((with_reducible refine gf 150 rfl ?_); refine gL 21 Tryz.func150 #[.int .i64 a0_1] ?_; (with_reducible refine (impl_KeyOk.calls a0_1 false _ A15.out).mono ?_); rintro e w' ⟨rfl, ⟨nd, rfl⟩⟩; refine ⟨_, rfl, ?_⟩))
      go_ret
      exact ⟨er, tb HB⟩
     replace H := ipf H
     have HC19 := Aside0.mk H
     clear H
     go_upto_if 27 with (fail)
     go_cut [27] (fun v27 wc => ∃ (kq : Nat) (x27_18 : Bool), v27 = .bool x27_18 ∧ Aside0 (impl_OpOk.j2 kq a0_0 x27_18 a0_0 a0_1 a0_2 = some r) ∧ Aside0 (kq ≤ kj11) ∧ Aside0 (wc.heap[gb449]? = some (.cells #[.int .i64 a0_0, .int .i64 a0_1, .int .i64 a0_2] 132 (0, 0))) ∧ Aside0 (Below w.heap.size w wc))
     case first =>
      have H := HC19.out
      clear HC19
      by_cases c20 : a0_0 = 5
      case neg =>
       rw [if_neg c20] at H
       have c20b0 : (a0_0 == 5) = false := beq_eq_false_iff_ne.mpr c20
       have c20b1 : (a0_0 != 5) = true := bne_iff_ne.mpr c20
       (first | rw [c20b0] | (simp only [i64_w, i32_w]; rw [c20b0]) | skip)
       have H' := Aside0.mk H
       clear H
       go_wp2
       go_meet
       case rel => exact ⟨_, ((a0_0 == 10)), rsd, H', ⟨by have := HJ1.out; have := HJ11.out; first | omega | exact Nat.le_refl _⟩, ⟨by (with_reducible repeat (first | refine blk_drewN ?_ _ | refine blk_drew ?_ | refine blk_alloc ?_ _)); exact BK449.out⟩, ⟨tb HB⟩⟩
      rw [if_pos c20] at H
      have c20b0 : (a0_0 == 5) = true := beq_iff_eq.mpr c20
      have c20b1 : (a0_0 != 5) = false := bne_eq_false_iff_eq.mpr c20
      clear c20
      (first | rw [c20b0] | (simp only [i64_w, i32_w]; rw [c20b0]) | skip)
      have H' := Aside0.mk H
      clear H
      go_wp2
      go_meet
      case rel => exact ⟨_, ((a0_0 == 5)), rsd, H', ⟨by have := HJ1.out; have := HJ11.out; first | omega | exact Nat.le_refl _⟩, ⟨by (with_reducible repeat (first | refine blk_drewN ?_ _ | refine blk_drew ?_ | refine blk_alloc ?_ _)); exact BK449.out⟩, ⟨tb HB⟩⟩
     case rest =>
      clear HC19
      try clear c1
      try clear c2
      try clear p2
      try clear c5
      try clear c5b0
      try clear c5b1
      try clear c6
      try clear c8
      try clear c9
      try clear c13
      try clear c13b0
      try clear c13b1
      try clear c14
      try clear c15
      try clear c16
      try clear c20
      try clear c20b0
      try clear c20b1
      try clear hz10
      try clear hz11
      try clear hz17
      try clear hz18
      try clear hz4
      try clear hz10
      try clear hz11
      try clear hz17
      try clear hz18
      try clear hz4
      try clear p2
      obtain ⟨kq, x27_18, rfl, HA, HJ18, BK449, HB⟩ := hcut
      cases kq with
      | zero => exact absurd HA.out (by simp [impl_OpOk.j2])
      | succ kj18 =>
       have H := HA.out
       clear HA
       simp only [impl_OpOk.j2] at H
       cases x27_18
       case true =>
        replace H := ipt H
        by_cases c22 : a0_1 = 0
        case neg =>
         rw [if_neg c22] at H
         have c22b0 : (a0_1 == 0) = false := beq_eq_false_iff_ne.mpr c22
         have c22b1 : (a0_1 != 0) = true := bne_iff_ne.mpr c22
         obtain rfl := oin H
         have hz25 := cs3_ BK449
         go_wp2
         go_ret
         exact ⟨er, tb HB⟩
        rw [if_pos c22] at H
        have c22b0 : (a0_1 == 0) = true := beq_iff_eq.mpr c22
        have c22b1 : (a0_1 != 0) = false := bne_eq_false_iff_eq.mpr c22
        clear c22
        obtain ⟨t453, A23, H⟩ := bn H
        try dsimp only at H
        obtain rfl := oin H
        have hz24 := cs3_ BK449
        go_wp2_with (first | (go_at_call 148; (with_reducible refine (impl_ValOk.calls a0_2 t453 _ A23.out).mono ?_); rintro e w' ⟨rfl, ⟨nd, rfl⟩⟩))
        go_ret
        exact ⟨er, tb HB⟩
       replace H := ipf H
       by_cases c26 : a0_0 = 6
       case pos =>
        rw [if_pos c26] at H
        have c26b0 : (a0_0 == 6) = true := beq_iff_eq.mpr c26
        have c26b1 : (a0_0 != 6) = false := bne_eq_false_iff_eq.mpr c26
        clear c26
        obtain ⟨t454, A27, H⟩ := bn H
        try dsimp only at H
        cases t454
        case true =>
         replace H := ipt H
         obtain rfl := oin H
         have hz29 := cs3_ BK449
         go_wp2_with (first | ((with_reducible refine gf 151 rfl ?_); refine gL 42 Tryz.func151 #[.int .i64 a0_1] ?_; (with_reducible refine (impl_isClass.calls a0_1 true _ A27.out).mono ?_); rintro e w' ⟨rfl, ⟨nd, rfl⟩⟩; refine ⟨_, rfl, ?_⟩))
         go_ret
         exact ⟨er, tb HB⟩
        replace H := ipf H
        obtain rfl := oin H
        have hz30 := cs3_ BK449
        go_wp2_with (first | ((with_reducible refine gf 151 rfl ?_); refine gL 42 Tryz.func151 #[.int .i64 a0_1] ?_; (with_reducible refine (impl_isClass.calls a0_1 false _ A27.out).mono ?_); rintro e w' ⟨rfl, ⟨nd, rfl⟩⟩; refine ⟨_, rfl, ?_⟩))
        go_ret
        exact ⟨er, tb HB⟩
       rw [if_neg c26] at H
       have c26b0 : (a0_0 == 6) = false := beq_eq_false_iff_ne.mpr c26
       have c26b1 : (a0_0 != 6) = true := bne_iff_ne.mpr c26
       by_cases c31 : a0_0 = 7
       case pos =>
        rw [if_pos c31] at H
        have c31b0 : (a0_0 == 7) = true := beq_iff_eq.mpr c31
        have c31b1 : (a0_0 != 7) = false := bne_eq_false_iff_eq.mpr c31
        clear c31
        by_cases c32 : a0_1 = 0
        case neg =>
         rw [if_neg c32] at H
         have c32b0 : (a0_1 == 0) = false := beq_eq_false_iff_ne.mpr c32
         have c32b1 : (a0_1 != 0) = true := bne_iff_ne.mpr c32
         obtain rfl := oin H
         have hz34 := cs3_ BK449
         go_wp2
         go_ret
         exact ⟨er, tb HB⟩
        rw [if_pos c32] at H
        have c32b0 : (a0_1 == 0) = true := beq_iff_eq.mpr c32
        have c32b1 : (a0_1 != 0) = false := bne_eq_false_iff_eq.mpr c32
        clear c32
        obtain rfl := oin H
        have hz33 := cs3_ BK449
        go_wp2
        go_ret
        exact ⟨er, tb HB⟩
       rw [if_neg c31] at H
       have c31b0 : (a0_0 == 7) = false := beq_eq_false_iff_ne.mpr c31
       have c31b1 : (a0_0 != 7) = true := bne_iff_ne.mpr c31
       by_cases c35 : a0_0 = 8
       case pos =>
        rw [if_pos c35] at H
        have c35b0 : (a0_0 == 8) = true := beq_iff_eq.mpr c35
        have c35b1 : (a0_0 != 8) = false := bne_eq_false_iff_eq.mpr c35
        clear c35
        by_cases c36 : a0_1 = 0
        case neg =>
         rw [if_neg c36] at H
         have c36b0 : (a0_1 == 0) = false := beq_eq_false_iff_ne.mpr c36
         have c36b1 : (a0_1 != 0) = true := bne_iff_ne.mpr c36
         obtain rfl := oin H
         have hz38 := cs3_ BK449
         go_wp2
         go_ret
         exact ⟨er, tb HB⟩
        rw [if_pos c36] at H
        have c36b0 : (a0_1 == 0) = true := beq_iff_eq.mpr c36
        have c36b1 : (a0_1 != 0) = false := bne_eq_false_iff_eq.mpr c36
        clear c36
        obtain rfl := oin H
        have hz37 := cs3_ BK449
        go_wp2
        go_ret
        exact ⟨er, tb HB⟩
       rw [if_neg c35] at H
       have c35b0 : (a0_0 == 8) = false := beq_eq_false_iff_ne.mpr c35
       have c35b1 : (a0_0 != 8) = true := bne_iff_ne.mpr c35
       by_cases c39 : a0_0 = 9
       case neg =>
        rw [if_neg c39] at H
        have c39b0 : (a0_0 == 9) = false := beq_eq_false_iff_ne.mpr c39
        have c39b1 : (a0_0 != 9) = true := bne_iff_ne.mpr c39
        obtain rfl := oin H
        go_wp2
        go_ret
        exact ⟨er, tb HB⟩
 
 
       rw [if_pos c39] at H
       have c39b0 : (a0_0 == 9) = true := beq_iff_eq.mpr c39
       have c39b1 : (a0_0 != 9) = false := bne_eq_false_iff_eq.mpr c39
       clear c39
       by_cases c40 : a0_1 = 0
       case neg =>
        rw [if_neg c40] at H
        have c40b0 : (a0_1 == 0) = false := beq_eq_false_iff_ne.mpr c40
        have c40b1 : (a0_1 != 0) = true := bne_iff_ne.mpr c40
        obtain rfl := oin H
        have hz42 := cs3_ BK449
        go_wp2
        go_ret
        exact ⟨er, tb HB⟩
       rw [if_pos c40] at H
       have c40b0 : (a0_1 == 0) = true := beq_iff_eq.mpr c40
       have c40b1 : (a0_1 != 0) = false := bne_eq_false_iff_eq.mpr c40
       clear c40
       obtain rfl := oin H
       have hz41 := cs3_ BK449
       go_wp2
       go_ret
       exact ⟨er, tb HB⟩
def impl_ThreadOk_1.f (k : Nat) (a0_0 : Int) (a0_1 : Int) (a0_2 : Int) : Option (Bool) := (impl_OpOk.f k a0_0 a0_1 a0_2).bind fun t456 => (some (!t456))
theorem impl_ThreadOk_1.mono : ∀ a0 a1 a2 k, LeO (impl_ThreadOk_1.f k a0 a1 a2) (impl_ThreadOk_1.f (k + 1) a0 a1 a2) := by
 intro a0 a1 a2 k
 unfold impl_ThreadOk_1.f
 repeat' first
   | (with_reducible exact impl_OpOk.mono _ _ _ _)
   | (with_reducible exact LeO.refl _)
   | (with_reducible exact LeO.none _)
   | (with_reducible refine LeO.ite ?_ ?_)
   | (with_reducible refine LeO.bind ?_ (fun _ => ?_))
   | exact impl_OpOk.mono _ _ _ _
   | exact LeO.none _
   | refine LeO.ite ?_ ?_
   | refine LeO.bind ?_ (fun _ => ?_)
set_option maxHeartbeats 8000000 in
set_option maxRecDepth 100000 in
theorem impl_ThreadOk_1.calls (k : Nat) (a0_0 : Int) (a0_1 : Int) (a0_2 : Int) (r : Bool) (w : World) (h : impl_ThreadOk_1.f k a0_0 a0_1 a0_2 = some r) :
  Calls Tryz.prog 111 #[.agg #[.int .i64 a0_0, .int .i64 a0_1, .int .i64 a0_2]] w fun e w' => e = .returned (.bool r) ∧ Below w.heap.size w w' := by
 have hu132 := Tryz.underlying132
 have HB := Aside0.mk (Below.refl w.heap.size w)
 have H := h
 clear h
 unfold impl_ThreadOk_1.f at H
 obtain ⟨t456, A2, H⟩ := bn H
 try dsimp only at H
 obtain rfl := oin H
 go_enter Tryz.func111, Tryz.ntmps111
 go_wp2_with (first | ((with_reducible refine gq 1 rfl ?_); refine bx0 HB (N := 1) (t := 132) ?_; clear HB; intro gb455 w3 BK455 GE455 HB; have hz4 := cs3_ BK455) | ((with_reducible refine gf 95 rfl ?_); refine gL 4 Tryz.func95 #[.agg #[.int .i64 a0_0, .int .i64 a0_1, .int .i64 a0_2]] ?_; (with_reducible refine (impl_OpOk.calls k a0_0 a0_1 a0_2 t456 _ A2.out).mono ?_); rintro e w5 ⟨rfl, hb⟩; refine ⟨_, rfl, ?_⟩; replace BK455 := bb BK455 hb; replace HB := bs HB hb; (try clear hb)))
 go_ret
 exact ⟨er, tb HB⟩
def impl_isPlace.f (a0 : Int) : Option (Bool) := (impl_from.f a0 0 19).bind fun t416 => (some t416)
set_option maxHeartbeats 8000000 in
set_option maxRecDepth 100000 in
theorem impl_isPlace.calls (a0 : Int) (r : Bool) (w : World) (h : impl_isPlace.f a0 = some r) :
  Calls Tryz.prog 114 #[.int .i64 a0] w fun e w' => e = .returned (.bool r) ∧ Drawn0 w w' := by
 have H := h
 clear h
 unfold impl_isPlace.f at H
 obtain ⟨t416, A2, H⟩ := bn H
 try dsimp only at H
 obtain rfl := oin H
 go_enter Tryz.func114, Tryz.ntmps114
 go_wp2_with (first | ((with_reducible refine gf 62 rfl ?_); refine gL 4 Tryz.func62 #[.int .i64 a0, .int .i64 0, .int .i64 19] ?_; (with_reducible refine (impl_from.calls a0 0 19 t416 _ A2.out).mono ?_); rintro e w' ⟨rfl, ⟨nd, rfl⟩⟩; refine ⟨_, rfl, ?_⟩))
 go_ret
 exact ⟨rsd, by repeat (first | exact Drawn0.refl _ | apply Drawn0.step)⟩
def impl_ThreadOk_2.f (a0_0 : Int) (a0_1 : Int) : Option (Bool) := (impl_isPlace.f a0_0).bind fun t458 => (if t458 = true then ((impl_isWordNum.f a0_1).bind fun t459 => (some (!t459))) else (some true))
set_option maxHeartbeats 8000000 in
set_option maxRecDepth 100000 in
theorem impl_ThreadOk_2.calls (a0_0 : Int) (a0_1 : Int) (r : Bool) (w : World) (h : impl_ThreadOk_2.f a0_0 a0_1 = some r) :
  Calls Tryz.prog 113 #[.agg #[.int .i64 a0_0, .int .i64 a0_1]] w fun e w' => e = .returned (.bool r) ∧ Below w.heap.size w w' := by
 have hu145 := Tryz.underlying145
 have HB := Aside0.mk (Below.refl w.heap.size w)
 have H := h
 clear h
 unfold impl_ThreadOk_2.f at H
 obtain ⟨t458, A2, H⟩ := bn H
 try dsimp only at H
 cases t458
 case true =>
  replace H := ipt H
  obtain ⟨t459, A4, H⟩ := bn H
  try dsimp only at H
  obtain rfl := oin H
  go_enter Tryz.func113, Tryz.ntmps113
  go_wp2_with (first | ((with_reducible refine gq 1 rfl ?_); refine bx0 HB (N := 1) (t := 145) ?_; clear HB; intro gb457 w5 BK457 GE457 HB; have hz6 := cs2_ BK457) | ((with_reducible refine gf 114 rfl ?_); refine gL 5 Tryz.func114 #[.int .i64 a0_0] ?_; (with_reducible refine (impl_isPlace.calls a0_0 true _ A2.out).mono ?_); rintro e w' ⟨rfl, ⟨nd, rfl⟩⟩; refine ⟨_, rfl, ?_⟩) | (go_at_call 115; (with_reducible refine (impl_isWordNum.calls a0_1 t459 _ A4.out).mono ?_); rintro e w' ⟨rfl, ⟨nd, rfl⟩⟩))
  go_ret
  exact ⟨er, tb HB⟩
 replace H := ipf H
 obtain rfl := oin H
 go_enter Tryz.func113, Tryz.ntmps113
 go_wp2_with (first | ((with_reducible refine gq 1 rfl ?_); refine bx0 HB (N := 1) (t := 145) ?_; clear HB; intro gb457 w7 BK457 GE457 HB; have hz8 := cs2_ BK457) | ((with_reducible refine gf 114 rfl ?_); refine gL 5 Tryz.func114 #[.int .i64 a0_0] ?_; (with_reducible refine (impl_isPlace.calls a0_0 false _ A2.out).mono ?_); rintro e w' ⟨rfl, ⟨nd, rfl⟩⟩; refine ⟨_, rfl, ?_⟩))
 go_ret
 exact ⟨er, tb HB⟩
def impl_DescOk.l0 : Nat → List (S37) → Int → Int → Int → Int → List (S37) → Int → List Int → Option (Bool)
 | 0, _, _, _, _, _, _, _, _ => none
 | k + 1, x31, x32, x33, x419000, x419001, x419002, x419003, x419004 => if x33 < x32 then (if 0 ≤ x33 then (if x33 < (x31.length : Int) then ((impl_isPlace.f ((rd_T37 x31 x33).f0)).bind fun t423 => (if t423 = true then ((impl_isWordNum.f ((rd_T37 x31 x33).f1)).bind fun t424 => (if t424 = true then ((impl_isWordNum.f ((rd_T37 x31 x33).f2)).bind fun t425 => (if t425 = true then (if x33 > 0 then (if 0 ≤ (wrap64 (x33 - 1)) then (if (wrap64 (x33 - 1)) < (x419002.length : Int) then (if ((rd_T37 x419002 (wrap64 (x33 - 1))).f0) ≥ ((rd_T37 x31 x33).f0) then (some false) else (impl_DescOk.l0 k x31 x32 (wrap64 (x33 + 1)) x419000 x419001 x419002 x419003 x419004)) else (none)) else (none)) else (impl_DescOk.l0 k x31 x32 (wrap64 (x33 + 1)) x419000 x419001 x419002 x419003 x419004)) else (some false))) else (some false))) else (some false))) else (none)) else (none)) else ((impl_from.f x419000 1 1000000).bind fun t419 => (if t419 = true then ((impl_from.f x419001 1 3).bind fun t420 => (if t420 = true then (some (decide ((x419002.length : Int) ≤ 20))) else (some false))) else (some false)))
def impl_DescOk.f (k : Nat) (a0_0 : Int) (a0_1 : Int) (l0_2 : List (S37)) (a0_3 : Int) (l0_4 : List Int) : Option (Bool) := if a0_0 = 0 then (if a0_1 = 0 then (if (l0_2.length : Int) = 0 then (if a0_3 = 0 then (some ((l0_4.length : Int) == 0)) else (some false)) else (some false)) else (some false)) else (impl_DescOk.l0 k l0_2 (l0_2.length : Int) 0 a0_0 a0_1 l0_2 a0_3 l0_4)
theorem impl_DescOk.mono_l : ∀ k, (∀ y0 y1 y2 y3 y4 y5 y6 y7, LeO (impl_DescOk.l0 k y0 y1 y2 y3 y4 y5 y6 y7) (impl_DescOk.l0 (k + 1) y0 y1 y2 y3 y4 y5 y6 y7))
 | 0 => fun _ _ _ _ _ _ _ _ r h => by simp [impl_DescOk.l0] at h
 | k + 1 => by
  have ih0 := impl_DescOk.mono_l k
  ·intro y0 y1 y2 y3 y4 y5 y6 y7
   unfold impl_DescOk.l0
   repeat' first
   | (with_reducible exact ih0 _ _ _ _ _ _ _ _)
   | (with_reducible exact LeO.refl _)
   | (with_reducible exact LeO.none _)
   | (with_reducible refine LeO.ite ?_ ?_)
   | (with_reducible refine LeO.bind ?_ (fun _ => ?_))
   | exact ih0 _ _ _ _ _ _ _ _
   | exact LeO.none _
   | refine LeO.ite ?_ ?_
   | refine LeO.bind ?_ (fun _ => ?_)
theorem impl_DescOk.mono : ∀ a0 a1 a2 a3 a4 k, LeO (impl_DescOk.f k a0 a1 a2 a3 a4) (impl_DescOk.f (k + 1) a0 a1 a2 a3 a4) := by
 intro a0 a1 a2 a3 a4 k
 have ih0 := impl_DescOk.mono_l k
 unfold impl_DescOk.f
 repeat' first
   | (with_reducible exact ih0 _ _ _ _ _ _ _ _)
   | (with_reducible exact LeO.refl _)
   | (with_reducible exact LeO.none _)
   | (with_reducible refine LeO.ite ?_ ?_)
   | (with_reducible refine LeO.bind ?_ (fun _ => ?_))
   | exact ih0 _ _ _ _ _ _ _ _
   | exact LeO.none _
   | refine LeO.ite ?_ ?_
   | refine LeO.bind ?_ (fun _ => ?_)
def impl_DescOk.T6 : Bool × List (List Nat × List Nat) := (true, [([], []), ([0], [0]), ([1], [1]), ([2], [2]), ([3, 2], [3]), ([4], [4]), ([5, 4], [4, 5]), ([6, 4, 4], [4, 6]), ([7, 4], [4, 7]), ([4, 8], [4, 8]), ([9, 7], [9]), ([10], [10]), ([11, 10], [10, 11]), ([12, 10, 10], [10, 12]), ([13, 10], [10, 13]), ([10, 14], [10, 14]), ([15, 13], [15]), ([16], [16]), ([17, 16], [16, 17]), ([18, 16, 16], [16, 18]), ([19], [19]), ([20, 19], [19, 20]), ([19], [19]), ([22, 19], [19, 22]), ([21, 23, 19], [19, 21, 23]), ([24, 19], [19, 24]), ([25, 19], [19, 25]), ([19], [19]), ([27, 19], [19, 27]), ([26, 28, 19], [19, 26, 28]), ([19, 29, 16], [16, 19, 29]), ([16, 30], [16, 30])])
def impl_DescOk.B6 : List Nat := [0, 1, 3, 7, 15, 31, 63, 127, 255, 511, 1023, 2047, 4095, 8191, 16383, 32767, 65535, 131071, 262143, 524287, 1048575, 2097151, 1048575, 5242879, 16777215, 33554431, 67108863, 1048575, 135266303, 536870911, 1073741823, 2147483647]
theorem impl_DescOk.tab6 : rtab .any (opsOf Tryz.f78 6) = impl_DescOk.T6 := by kernel_rfl
theorem impl_DescOk.bits6 : waitsOk impl_DescOk.T6.2 impl_DescOk.B6 = true := by kernel_rfl
set_option maxHeartbeats 8000000 in
set_option maxRecDepth 100000 in
theorem impl_DescOk.calls (k : Nat) (a0_0 : Int) (a0_1 : Int) (A0_2 : Option Addr) (c0_2 : Nat) (l0_2 : List (S37)) (a0_3 : Int) (A0_4 : Option Addr) (c0_4 : Nat) (l0_4 : List Int) (r : Bool) (w : World) (hr0_2 : Kd.C k37 w A0_2 l0_2.length l0_2) (hc0_2 : l0_2.length ≤ c0_2) (hr0_4 : Kd.C (Kd.int .i64) w A0_4 l0_4.length l0_4) (hc0_4 : l0_4.length ≤ c0_4) (h : impl_DescOk.f k a0_0 a0_1 l0_2 a0_3 l0_4 = some r) :
  Calls Tryz.prog 78 #[.agg #[.int .i64 a0_0, .int .i64 a0_1, .slice A0_2 l0_2.length c0_2, .int .i64 a0_3, .slice A0_4 l0_4.length c0_4]] w fun e w' => e = .returned (.bool r) ∧ Below w.heap.size w w' := by
 have hu52 := Tryz.underlying52
 have hu37 := Tryz.underlying37
 have HR0_2 := Aside0.mk hr0_2
 have HC0_2 := Aside0.mk hc0_2
 clear hr0_2 hc0_2
 have HR0_4 := Aside0.mk hr0_4
 have HC0_4 := Aside0.mk hc0_4
 clear hr0_4 hc0_4
 have HB := Aside0.mk (Below.refl w.heap.size w)
 have H := h
 clear h
 unfold impl_DescOk.f at H
 by_cases c2 : a0_0 = 0
 case pos =>
  rw [if_pos c2] at H
  have c2b0 : (a0_0 == 0) = true := beq_iff_eq.mpr c2
  have c2b1 : (a0_0 != 0) = false := bne_eq_false_iff_eq.mpr c2
  clear c2
  by_cases c3 : a0_1 = 0
  case neg =>
   rw [if_neg c3] at H
   have c3b0 : (a0_1 == 0) = false := beq_eq_false_iff_ne.mpr c3
   have c3b1 : (a0_1 != 0) = true := bne_iff_ne.mpr c3
   obtain rfl := oin H
   go_enter Tryz.func78, Tryz.ntmps78
   go_wp2_with (first | ((with_reducible refine gq 1 rfl ?_); (try (refine gate_guard (by rfl) ?_; dsimp only)); refine bx0 HB (N := 1) (t := 52) ?_; clear HB; intro gb418 w12 BK418 GE418 HB; have hz13 := cs5_ BK418))
   go_ret
   exact ⟨er, tb HB⟩
  rw [if_pos c3] at H
  have c3b0 : (a0_1 == 0) = true := beq_iff_eq.mpr c3
  have c3b1 : (a0_1 != 0) = false := bne_eq_false_iff_eq.mpr c3
  clear c3
  by_cases c4 : (l0_2.length : Int) = 0
  case neg =>
   rw [if_neg c4] at H
   have c4b0 : ((l0_2.length : Int) == 0) = false := beq_eq_false_iff_ne.mpr c4
   have c4b1 : ((l0_2.length : Int) != 0) = true := bne_iff_ne.mpr c4
   have c4b2 : ¬ (l0_2 = []) := fun h_ => c4 (by rw [h_]; rfl)
   obtain rfl := oin H
   go_enter Tryz.func78, Tryz.ntmps78
   go_wp2_with (first | ((with_reducible refine gq 1 rfl ?_); (try (refine gate_guard (by rfl) ?_; dsimp only)); refine bx0 HB (N := 1) (t := 52) ?_; clear HB; intro gb418 w10 BK418 GE418 HB; have hz11 := cs5_ BK418))
   go_ret
   exact ⟨er, tb HB⟩
  rw [if_pos c4] at H
  have c4b0 : ((l0_2.length : Int) == 0) = true := beq_iff_eq.mpr c4
  have c4b1 : ((l0_2.length : Int) != 0) = false := bne_eq_false_iff_eq.mpr c4
  clear c4
  by_cases c5 : a0_3 = 0
  case neg =>
   rw [if_neg c5] at H
   have c5b0 : (a0_3 == 0) = false := beq_eq_false_iff_ne.mpr c5
   have c5b1 : (a0_3 != 0) = true := bne_iff_ne.mpr c5
   obtain rfl := oin H
   go_enter Tryz.func78, Tryz.ntmps78
   go_wp2_with (first | ((with_reducible refine gq 1 rfl ?_); (try (refine gate_guard (by rfl) ?_; dsimp only)); refine bx0 HB (N := 1) (t := 52) ?_; clear HB; intro gb418 w8 BK418 GE418 HB; have hz9 := cs5_ BK418))
   go_ret
   exact ⟨er, tb HB⟩
  rw [if_pos c5] at H
  have c5b0 : (a0_3 == 0) = true := beq_iff_eq.mpr c5
  have c5b1 : (a0_3 != 0) = false := bne_eq_false_iff_eq.mpr c5
  clear c5
  obtain rfl := oin H
  go_enter Tryz.func78, Tryz.ntmps78
  go_wp2_with (first | ((with_reducible refine gq 1 rfl ?_); (try (refine gate_guard (by rfl) ?_; dsimp only)); refine bx0 HB (N := 1) (t := 52) ?_; clear HB; intro gb418 w6 BK418 GE418 HB; have hz7 := cs5_ BK418))
  go_ret
  exact ⟨er, tb HB⟩
 rw [if_neg c2] at H
 have c2b0 : (a0_0 == 0) = false := beq_eq_false_iff_ne.mpr c2
 have c2b1 : (a0_0 != 0) = true := bne_iff_ne.mpr c2
 have H' := Aside0.mk H
 clear H
 go_enter Tryz.func78, Tryz.ntmps78
 go_wp2_with (first | ((with_reducible refine gq 1 rfl ?_); (try (refine gate_guard (by rfl) ?_; dsimp only)); refine bx0 HB (N := 1) (t := 52) ?_; clear HB; intro gb418 w14 BK418 GE418 HB; have hz15 := cs5_ BK418))
 go_loopg [33] k (fun kq v33 w' => ∃ (x33_1 : Int), v33 = .int .i64 x33_1 ∧ Aside0 (impl_DescOk.l0 kq l0_2 (l0_2.length : Int) x33_1 a0_0 a0_1 l0_2 a0_3 l0_4 = some r) ∧ Aside0 (kq ≤ k) ∧ Aside0 (w'.heap[gb418]? = some (.cells #[.int .i64 a0_0, .int .i64 a0_1, (.slice A0_2 l0_2.length c0_2), .int .i64 a0_3, (.slice A0_4 l0_4.length c0_4)] 52 (0, 0))) ∧ Aside0 (Below w.heap.size w w'))
 case atStart => exact ⟨(0), rsd, H', ⟨Nat.le_refl _⟩, ⟨by (with_reducible repeat (first | refine blk_drewN ?_ _ | refine blk_drew ?_ | refine blk_alloc ?_ _)); exact BK418.out⟩, ⟨tb HB⟩⟩
 case round =>
  clear H'
  try clear c2
  try clear c2b0
  try clear c2b1
  try clear p2
  try clear c3
  try clear c3b0
  try clear c3b1
  try clear c4
  try clear c4b0
  try clear c4b1
  try clear c4b2
  try clear c5
  try clear c5b0
  try clear c5b1
  try clear c7
  try clear hz11
  try clear hz13
  try clear hz15
  try clear hz7
  try clear hz9
  try clear hz11
  try clear hz13
  try clear hz15
  try clear hz7
  try clear hz9
  obtain ⟨x33_1, rfl, HA, HK1, BK418, HB⟩ := hrel
  cases gk with
  | zero => exact absurd HA.out (by simp [impl_DescOk.l0])
  | succ k1 =>
   have H := HA.out
   clear HA
   simp only [impl_DescOk.l0] at H
   revert H; refine icd (fun c16b0 H => ?_) fun c16b0 H => ?neg
   case neg =>
    obtain ⟨t419, A60, H⟩ := bn H
    try dsimp only at H
    cases t419
    case false =>
     replace H := ipf H
     obtain rfl := oin H
     have hz66 := cs5_ BK418
     go_wp2_with (first | ((with_reducible refine gf 62 rfl ?_); refine gL 73 Tryz.func62 #[.int .i64 a0_0, .int .i64 1, .int .i64 1000000] ?_; (with_reducible refine (impl_from.calls a0_0 1 1000000 false _ A60.out).mono ?_); rintro e w' ⟨rfl, ⟨nd, rfl⟩⟩; refine ⟨_, rfl, ?_⟩))
     go_ret
     exact ⟨er, tb HB⟩
    replace H := ipt H
    obtain ⟨t420, A62, H⟩ := bn H
    try dsimp only at H
    cases t420
    case true =>
     replace H := ipt H
     obtain rfl := oin H
     have hz64 := cs5_ BK418
     go_wp2_with (first | ((with_reducible refine gf 62 rfl ?_); refine gL 73 Tryz.func62 #[.int .i64 a0_0, .int .i64 1, .int .i64 1000000] ?_; (with_reducible refine (impl_from.calls a0_0 1 1000000 true _ A60.out).mono ?_); rintro e w' ⟨rfl, ⟨nd, rfl⟩⟩; refine ⟨_, rfl, ?_⟩) | (go_at_call 62; (with_reducible refine (impl_from.calls a0_1 1 3 true _ A62.out).mono ?_); rintro e w' ⟨rfl, ⟨nd, rfl⟩⟩))
     go_ret
     exact ⟨er, tb HB⟩
    replace H := ipf H
    obtain rfl := oin H
    have hz65 := cs5_ BK418
    go_wp2_with (first | ((with_reducible refine gf 62 rfl ?_); refine gL 73 Tryz.func62 #[.int .i64 a0_0, .int .i64 1, .int .i64 1000000] ?_; (with_reducible refine (impl_from.calls a0_0 1 1000000 true _ A60.out).mono ?_); rintro e w' ⟨rfl, ⟨nd, rfl⟩⟩; refine ⟨_, rfl, ?_⟩) | (go_at_call 62; (with_reducible refine (impl_from.calls a0_1 1 3 false _ A62.out).mono ?_); rintro e w' ⟨rfl, ⟨nd, rfl⟩⟩))
    go_ret
    exact ⟨er, tb HB⟩
   obtain ⟨c17b0, H⟩ := itd H
   obtain ⟨c18b0, H⟩ := itd H
   obtain ⟨t423, A19, H⟩ := bn H
   try dsimp only at H
   cases t423
   case false =>
    replace H := ipf H
    obtain rfl := oin H
    have p421 : 0 ≤ (x33_1 : Int) := od
    have q421 : x33_1 < (l0_2.length : Int) := od
    obtain ⟨ad421, e421, hx421⟩ := att37 HR0_2.out x33_1 p421 q421
    cases e421
    replace hx421 := ox3 HB hx421
    replace p421 := eq_true p421
    replace q421 := eq_true q421
    try go_wp2_with (first | ((with_reducible refine gq 4 rfl ?_); (try (refine gate_guard (by rfl) ?_; dsimp only)); refine bx1 HB BK418 (N := 4) (cs := #[.int .i64 0, .int .i64 0, .int .i64 0]) (t := 37) ?_; clear HB BK418; intro gb422 w55 BK422 GE422 HB NB418_422 NB422_418 BK418; have hnb56 := NB422_418.out; have hnc56 := NB418_422.out; have hz57 := cs3_ BK422))
    have n0_ : Aside0 ((((w55.setCell ⟨gb422, 0, none⟩ (.int .i64 ((rd_T37 l0_2 x33_1).f0))).setCell ⟨gb422, 1, none⟩ (.int .i64 ((rd_T37 l0_2 x33_1).f1))).setCell ⟨gb422, 2, none⟩ (.int .i64 ((rd_T37 l0_2 x33_1).f2))).heap[gb418]? = some (.cells #[.int .i64 a0_0, .int .i64 a0_1, .slice (some ad421) l0_2.length c0_2, .int .i64 a0_3, .slice A0_4 l0_4.length c0_4] 52 (0, 0))) := ⟨bf BK418⟩
    have n1_ : Aside0 ((((w55.setCell ⟨gb422, 0, none⟩ (.int .i64 ((rd_T37 l0_2 x33_1).f0))).setCell ⟨gb422, 1, none⟩ (.int .i64 ((rd_T37 l0_2 x33_1).f1))).setCell ⟨gb422, 2, none⟩ (.int .i64 ((rd_T37 l0_2 x33_1).f2))).heap[gb422]? = some (.cells #[.int .i64 ((rd_T37 l0_2 x33_1).f0), .int .i64 ((rd_T37 l0_2 x33_1).f1), .int .i64 ((rd_T37 l0_2 x33_1).f2)] 37 (0, 0))) := ⟨bfp3 BK422⟩
    have n2_ : Aside0 (Below w.heap.size w (((w55.setCell ⟨gb422, 0, none⟩ (.int .i64 ((rd_T37 l0_2 x33_1).f0))).setCell ⟨gb422, 1, none⟩ (.int .i64 ((rd_T37 l0_2 x33_1).f1))).setCell ⟨gb422, 2, none⟩ (.int .i64 ((rd_T37 l0_2 x33_1).f2)))) := ⟨tb HB⟩
    (try clear BK418)
    (try clear BK422)
    (try clear HB)
    generalize (((w55.setCell ⟨gb422, 0, none⟩ (.int .i64 ((rd_T37 l0_2 x33_1).f0))).setCell ⟨gb422, 1, none⟩ (.int .i64 ((rd_T37 l0_2 x33_1).f1))).setCell ⟨gb422, 2, none⟩ (.int .i64 ((rd_T37 l0_2 x33_1).f2))) = w58 at n0_ n1_ n2_ ⊢
    have BK418 := n0_
    have BK422 := n1_
    have HB := n2_
    clear n0_ n1_ n2_
    replace BK418 := bd BK418
    replace BK422 := bd BK422
    replace HB := Aside0.mk (below_drew1 HB.out)
    refine start_ (n := 32) (S := fun w' => cS3 gb422 (.int .i64 ((rd_T37 l0_2 x33_1).f0)) (.int .i64 ((rd_T37 l0_2 x33_1).f1)) (.int .i64 ((rd_T37 l0_2 x33_1).f2)) w') (ds := []) #[false, false, false, false, false, false, false, false, false, false, false, false, false, false, false, false, false, false, false, false, false, false, false, false, false, false, false, false, false, false, false, false] (by kernel_rfl) rfl rfl (ds3_ BK422) (fun hHeld => ?_); refine with_tabW impl_DescOk.tab6 impl_DescOk.bits6 (fun HT_ HW_ => ?_)
    generalize w58.drew = w59 at BK418 BK422 HB hHeld ⊢
    refine pu 0 38 ?_; refine ta 1 39 ?_
    refine on1 2 (some 40) (fun K hK => ?_)
    refine gS Tryz.func114 #[.int .i64 ((rd_T37 l0_2 x33_1).f0)] ?_
    with_reducible refine (impl_isPlace.calls ((rd_T37 l0_2 x33_1).f0) false _ A19.out).mono ?_
    rintro e w' ⟨rfl, ⟨nd, rfl⟩⟩
    refine ⟨_, rfl, ?_⟩
    refine hK.out _ _ (ds3_ BK422) (fun hHeld => ?_)
    clear hK K
    refine nm 40 ?_
    refine pu 3 41 ?_; refine pu 4 42 ?_; refine pn 5 43 ?_; refine pn 6 44 ?_; refine pn 7 45 ?_; refine pn 8 46 ?_; refine pu 9 47 ?_; refine pu 10 48 ?_; refine pn 11 49 ?_; refine pn 12 50 ?_; refine pn 13 51 ?_; refine pn 14 52 ?_
    refine pu 15 53 ?_; refine pu 16 54 ?_; refine pn 17 55 ?_; refine pn 18 56 ?_; refine pn 19 57 ?_; refine pn 20 58 ?_; refine pn 21 59 ?_; refine pn 22 60 ?_; refine pn 23 61 ?_; refine pn 24 62 ?_; refine pn 25 63 ?_; refine pn 26 64 ?_
    refine pn 27 65 ?_; refine pn 28 66 ?_; refine pn 29 67 ?_; refine pn 30 68 ?_; refine pu 31 69 ?_
    refine done_ (done_of HT_.out (by kernel_rfl)) ?_
    try go_wp2
    go_ret
    exact ⟨er, tb HB⟩
   replace H := ipt H
   obtain ⟨t424, A21, H⟩ := bn H
   try dsimp only at H
   cases t424
   case false =>
    replace H := ipf H
    obtain rfl := oin H
    have p421 : 0 ≤ (x33_1 : Int) := od
    have q421 : x33_1 < (l0_2.length : Int) := od
    obtain ⟨ad421, e421, hx421_0, hx421_1, hx421_2⟩ := at_T37 HR0_2.out x33_1 p421 q421
    cases e421
    replace hx421_0 := ox HB hx421_0
    replace hx421_1 := ox HB hx421_1
    replace hx421_2 := ox HB hx421_2
    replace p421 := eq_true p421
    replace q421 := eq_true q421
    try go_wp2_with (first | ((with_reducible refine gq 4 rfl ?_); (try (refine gate_guard (by rfl) ?_; dsimp only)); refine bx1 HB BK418 (N := 4) (cs := #[.int .i64 0, .int .i64 0, .int .i64 0]) (t := 37) ?_; clear HB BK418; intro gb422 w50 BK422 GE422 HB NB418_422 NB422_418 BK418; have hnb51 := NB422_418.out; have hnc51 := NB418_422.out; have hz52 := cs3_ BK422))
    have n0_ : Aside0 ((((w50.setCell ⟨gb422, 0, none⟩ (.int .i64 ((rd_T37 l0_2 x33_1).f0))).setCell ⟨gb422, 1, none⟩ (.int .i64 ((rd_T37 l0_2 x33_1).f1))).setCell ⟨gb422, 2, none⟩ (.int .i64 ((rd_T37 l0_2 x33_1).f2))).heap[gb418]? = some (.cells #[.int .i64 a0_0, .int .i64 a0_1, .slice (some ad421) l0_2.length c0_2, .int .i64 a0_3, .slice A0_4 l0_4.length c0_4] 52 (0, 0))) := ⟨bf BK418⟩
    have n1_ : Aside0 ((((w50.setCell ⟨gb422, 0, none⟩ (.int .i64 ((rd_T37 l0_2 x33_1).f0))).setCell ⟨gb422, 1, none⟩ (.int .i64 ((rd_T37 l0_2 x33_1).f1))).setCell ⟨gb422, 2, none⟩ (.int .i64 ((rd_T37 l0_2 x33_1).f2))).heap[gb422]? = some (.cells #[.int .i64 ((rd_T37 l0_2 x33_1).f0), .int .i64 ((rd_T37 l0_2 x33_1).f1), .int .i64 ((rd_T37 l0_2 x33_1).f2)] 37 (0, 0))) := ⟨bfp3 BK422⟩
    have n2_ : Aside0 (Below w.heap.size w (((w50.setCell ⟨gb422, 0, none⟩ (.int .i64 ((rd_T37 l0_2 x33_1).f0))).setCell ⟨gb422, 1, none⟩ (.int .i64 ((rd_T37 l0_2 x33_1).f1))).setCell ⟨gb422, 2, none⟩ (.int .i64 ((rd_T37 l0_2 x33_1).f2)))) := ⟨tb HB⟩
    (try clear BK418)
    (try clear BK422)
    (try clear HB)
    generalize (((w50.setCell ⟨gb422, 0, none⟩ (.int .i64 ((rd_T37 l0_2 x33_1).f0))).setCell ⟨gb422, 1, none⟩ (.int .i64 ((rd_T37 l0_2 x33_1).f1))).setCell ⟨gb422, 2, none⟩ (.int .i64 ((rd_T37 l0_2 x33_1).f2))) = w53 at n0_ n1_ n2_ ⊢
    have BK418 := n0_
    have BK422 := n1_
    have HB := n2_
    clear n0_ n1_ n2_
    replace BK418 := bd BK418
    replace BK422 := bd BK422
    replace HB := Aside0.mk (below_drew1 HB.out)
    refine start_ (n := 32) (S := fun w' => cS3 gb422 (.int .i64 ((rd_T37 l0_2 x33_1).f0)) (.int .i64 ((rd_T37 l0_2 x33_1).f1)) (.int .i64 ((rd_T37 l0_2 x33_1).f2)) w') (ds := []) #[false, false, false, false, false, false, false, false, false, false, false, false, false, false, false, false, false, false, false, false, false, false, false, false, false, false, false, false, false, false, false, false] (by kernel_rfl) rfl rfl (ds3_ BK422) (fun hHeld => ?_); refine with_tabW impl_DescOk.tab6 impl_DescOk.bits6 (fun HT_ HW_ => ?_)
    generalize w53.drew = w54 at BK418 BK422 HB hHeld ⊢
    refine pu 0 38 ?_; refine ta 1 39 ?_
    refine on1 2 (some 40) (fun K hK => ?_)
    refine gS Tryz.func114 #[.int .i64 ((rd_T37 l0_2 x33_1).f0)] ?_
    with_reducible refine (impl_isPlace.calls ((rd_T37 l0_2 x33_1).f0) true _ A19.out).mono ?_
    rintro e w' ⟨rfl, ⟨nd, rfl⟩⟩
    refine ⟨_, rfl, ?_⟩
    refine hK.out _ _ (ds3_ BK422) (fun hHeld => ?_)
    clear hK K
    refine nm 40 ?_
    refine pu 3 41 ?_; refine pu 4 42 ?_; refine pu 5 43 ?_; refine ta 6 44 ?_
    refine on1 7 (some 45) (fun K hK => ?_)
    refine gS Tryz.func115 #[.int .i64 ((rd_T37 l0_2 x33_1).f1)] ?_
    with_reducible refine (impl_isWordNum.calls ((rd_T37 l0_2 x33_1).f1) false _ A21.out).mono ?_
    rintro e w' ⟨rfl, ⟨nd, rfl⟩⟩
    refine ⟨_, rfl, ?_⟩
    refine hK.out _ _ (ds3_ BK422) (fun hHeld => ?_)
    clear hK K
    refine nm 45 ?_
    refine pu 8 46 ?_; refine pu 9 47 ?_; refine pu 10 48 ?_; refine pn 11 49 ?_; refine pn 12 50 ?_; refine pn 13 51 ?_; refine pn 14 52 ?_; refine pu 15 53 ?_; refine pu 16 54 ?_; refine pn 17 55 ?_; refine pn 18 56 ?_; refine pn 19 57 ?_
    refine pn 20 58 ?_; refine pn 21 59 ?_; refine pn 22 60 ?_; refine pn 23 61 ?_; refine pn 24 62 ?_; refine pn 25 63 ?_; refine pn 26 64 ?_; refine pn 27 65 ?_; refine pn 28 66 ?_; refine pn 29 67 ?_; refine pn 30 68 ?_; refine pu 31 69 ?_
    refine done_ (done_of HT_.out (by kernel_rfl)) ?_
    try go_wp2
    go_ret
    exact ⟨er, tb HB⟩
   replace H := ipt H
   obtain ⟨t425, A23, H⟩ := bn H
   try dsimp only at H
   cases t425
   case false =>
    replace H := ipf H
    obtain rfl := oin H
    have p421 : 0 ≤ (x33_1 : Int) := od
    have q421 : x33_1 < (l0_2.length : Int) := od
    obtain ⟨ad421, e421, hx421_0, hx421_1, hx421_2⟩ := at_T37 HR0_2.out x33_1 p421 q421
    cases e421
    replace hx421_0 := ox HB hx421_0
    replace hx421_1 := ox HB hx421_1
    replace hx421_2 := ox HB hx421_2
    replace p421 := eq_true p421
    replace q421 := eq_true q421
    try go_wp2_with (first | ((with_reducible refine gq 4 rfl ?_); (try (refine gate_guard (by rfl) ?_; dsimp only)); refine bx1 HB BK418 (N := 4) (cs := #[.int .i64 0, .int .i64 0, .int .i64 0]) (t := 37) ?_; clear HB BK418; intro gb422 w45 BK422 GE422 HB NB418_422 NB422_418 BK418; have hnb46 := NB422_418.out; have hnc46 := NB418_422.out; have hz47 := cs3_ BK422))
    have n0_ : Aside0 ((((w45.setCell ⟨gb422, 0, none⟩ (.int .i64 ((rd_T37 l0_2 x33_1).f0))).setCell ⟨gb422, 1, none⟩ (.int .i64 ((rd_T37 l0_2 x33_1).f1))).setCell ⟨gb422, 2, none⟩ (.int .i64 ((rd_T37 l0_2 x33_1).f2))).heap[gb418]? = some (.cells #[.int .i64 a0_0, .int .i64 a0_1, .slice (some ad421) l0_2.length c0_2, .int .i64 a0_3, .slice A0_4 l0_4.length c0_4] 52 (0, 0))) := ⟨bf BK418⟩
    have n1_ : Aside0 ((((w45.setCell ⟨gb422, 0, none⟩ (.int .i64 ((rd_T37 l0_2 x33_1).f0))).setCell ⟨gb422, 1, none⟩ (.int .i64 ((rd_T37 l0_2 x33_1).f1))).setCell ⟨gb422, 2, none⟩ (.int .i64 ((rd_T37 l0_2 x33_1).f2))).heap[gb422]? = some (.cells #[.int .i64 ((rd_T37 l0_2 x33_1).f0), .int .i64 ((rd_T37 l0_2 x33_1).f1), .int .i64 ((rd_T37 l0_2 x33_1).f2)] 37 (0, 0))) := ⟨bfp3 BK422⟩
    have n2_ : Aside0 (Below w.heap.size w (((w45.setCell ⟨gb422, 0, none⟩ (.int .i64 ((rd_T37 l0_2 x33_1).f0))).setCell ⟨gb422, 1, none⟩ (.int .i64 ((rd_T37 l0_2 x33_1).f1))).setCell ⟨gb422, 2, none⟩ (.int .i64 ((rd_T37 l0_2 x33_1).f2)))) := ⟨tb HB⟩
    (try clear BK418)
    (try clear BK422)
    (try clear HB)
    generalize (((w45.setCell ⟨gb422, 0, none⟩ (.int .i64 ((rd_T37 l0_2 x33_1).f0))).setCell ⟨gb422, 1, none⟩ (.int .i64 ((rd_T37 l0_2 x33_1).f1))).setCell ⟨gb422, 2, none⟩ (.int .i64 ((rd_T37 l0_2 x33_1).f2))) = w48 at n0_ n1_ n2_ ⊢
    have BK418 := n0_
    have BK422 := n1_
    have HB := n2_
    clear n0_ n1_ n2_
    replace BK418 := bd BK418
    replace BK422 := bd BK422
    replace HB := Aside0.mk (below_drew1 HB.out)
    refine start_ (n := 32) (S := fun w' => cS3 gb422 (.int .i64 ((rd_T37 l0_2 x33_1).f0)) (.int .i64 ((rd_T37 l0_2 x33_1).f1)) (.int .i64 ((rd_T37 l0_2 x33_1).f2)) w') (ds := []) #[false, false, false, false, false, false, false, false, false, false, false, false, false, false, false, false, false, false, false, false, false, false, false, false, false, false, false, false, false, false, false, false] (by kernel_rfl) rfl rfl (ds3_ BK422) (fun hHeld => ?_); refine with_tabW impl_DescOk.tab6 impl_DescOk.bits6 (fun HT_ HW_ => ?_)
    generalize w48.drew = w49 at BK418 BK422 HB hHeld ⊢
    refine pu 0 38 ?_; refine ta 1 39 ?_
    refine on1 2 (some 40) (fun K hK => ?_)
    refine gS Tryz.func114 #[.int .i64 ((rd_T37 l0_2 x33_1).f0)] ?_
    with_reducible refine (impl_isPlace.calls ((rd_T37 l0_2 x33_1).f0) true _ A19.out).mono ?_
    rintro e w' ⟨rfl, ⟨nd, rfl⟩⟩
    refine ⟨_, rfl, ?_⟩
    refine hK.out _ _ (ds3_ BK422) (fun hHeld => ?_)
    clear hK K
    refine nm 40 ?_
    refine pu 3 41 ?_; refine pu 4 42 ?_; refine pu 5 43 ?_; refine ta 6 44 ?_
    refine on1 7 (some 45) (fun K hK => ?_)
    refine gS Tryz.func115 #[.int .i64 ((rd_T37 l0_2 x33_1).f1)] ?_
    with_reducible refine (impl_isWordNum.calls ((rd_T37 l0_2 x33_1).f1) true _ A21.out).mono ?_
    rintro e w' ⟨rfl, ⟨nd, rfl⟩⟩
    refine ⟨_, rfl, ?_⟩
    refine hK.out _ _ (ds3_ BK422) (fun hHeld => ?_)
    clear hK K
    refine nm 45 ?_
    refine pu 8 46 ?_; refine pu 9 47 ?_; refine pu 10 48 ?_; refine pu 11 49 ?_; refine ta 12 50 ?_
    refine on1 13 (some 51) (fun K hK => ?_)
    refine gS Tryz.func115 #[.int .i64 ((rd_T37 l0_2 x33_1).f2)] ?_
    with_reducible refine (impl_isWordNum.calls ((rd_T37 l0_2 x33_1).f2) false _ A23.out).mono ?_
    rintro e w' ⟨rfl, ⟨nd, rfl⟩⟩
    refine ⟨_, rfl, ?_⟩
    refine hK.out _ _ (ds3_ BK422) (fun hHeld => ?_)
    clear hK K
    refine nm 51 ?_
    refine pu 14 52 ?_; refine pu 15 53 ?_; refine pu 16 54 ?_; refine pn 17 55 ?_; refine pn 18 56 ?_; refine pn 19 57 ?_; refine pn 20 58 ?_; refine pn 21 59 ?_; refine pn 22 60 ?_; refine pn 23 61 ?_; refine pn 24 62 ?_; refine pn 25 63 ?_
    refine pn 26 64 ?_; refine pn 27 65 ?_; refine pn 28 66 ?_; refine pn 29 67 ?_; refine pn 30 68 ?_; refine pu 31 69 ?_
    refine done_ (done_of HT_.out (by kernel_rfl)) ?_
    try go_wp2
    go_ret
    exact ⟨er, tb HB⟩
   replace H := ipt H
   revert H; refine icd (fun c25b0 H => ?_) fun c25b0 H => ?neg
   case neg =>
    have H' := Aside0.mk H
    clear H
    have p421 : 0 ≤ (x33_1 : Int) := od
    have q421 : x33_1 < (l0_2.length : Int) := od
    obtain ⟨ad421, e421, hx421_0, hx421_1, hx421_2⟩ := at_T37 HR0_2.out x33_1 p421 q421
    cases e421
    replace hx421_0 := ox HB hx421_0
    replace hx421_1 := ox HB hx421_1
    replace hx421_2 := ox HB hx421_2
    replace p421 := eq_true p421
    replace q421 := eq_true q421
    try go_wp2_with (first | ((with_reducible refine gq 4 rfl ?_); (try (refine gate_guard (by rfl) ?_; dsimp only)); refine bx1 HB BK418 (N := 4) (cs := #[.int .i64 0, .int .i64 0, .int .i64 0]) (t := 37) ?_; clear HB BK418; intro gb422 w40 BK422 GE422 HB NB418_422 NB422_418 BK418; have hnb41 := NB422_418.out; have hnc41 := NB418_422.out; have hz42 := cs3_ BK422))
    have n0_ : Aside0 ((((w40.setCell ⟨gb422, 0, none⟩ (.int .i64 ((rd_T37 l0_2 x33_1).f0))).setCell ⟨gb422, 1, none⟩ (.int .i64 ((rd_T37 l0_2 x33_1).f1))).setCell ⟨gb422, 2, none⟩ (.int .i64 ((rd_T37 l0_2 x33_1).f2))).heap[gb418]? = some (.cells #[.int .i64 a0_0, .int .i64 a0_1, .slice (some ad421) l0_2.length c0_2, .int .i64 a0_3, .slice A0_4 l0_4.length c0_4] 52 (0, 0))) := ⟨bf BK418⟩
    have n1_ : Aside0 ((((w40.setCell ⟨gb422, 0, none⟩ (.int .i64 ((rd_T37 l0_2 x33_1).f0))).setCell ⟨gb422, 1, none⟩ (.int .i64 ((rd_T37 l0_2 x33_1).f1))).setCell ⟨gb422, 2, none⟩ (.int .i64 ((rd_T37 l0_2 x33_1).f2))).heap[gb422]? = some (.cells #[.int .i64 ((rd_T37 l0_2 x33_1).f0), .int .i64 ((rd_T37 l0_2 x33_1).f1), .int .i64 ((rd_T37 l0_2 x33_1).f2)] 37 (0, 0))) := ⟨bfp3 BK422⟩
    have n2_ : Aside0 (Below w.heap.size w (((w40.setCell ⟨gb422, 0, none⟩ (.int .i64 ((rd_T37 l0_2 x33_1).f0))).setCell ⟨gb422, 1, none⟩ (.int .i64 ((rd_T37 l0_2 x33_1).f1))).setCell ⟨gb422, 2, none⟩ (.int .i64 ((rd_T37 l0_2 x33_1).f2)))) := ⟨tb HB⟩
    (try clear BK418)
    (try clear BK422)
    (try clear HB)
    generalize (((w40.setCell ⟨gb422, 0, none⟩ (.int .i64 ((rd_T37 l0_2 x33_1).f0))).setCell ⟨gb422, 1, none⟩ (.int .i64 ((rd_T37 l0_2 x33_1).f1))).setCell ⟨gb422, 2, none⟩ (.int .i64 ((rd_T37 l0_2 x33_1).f2))) = w43 at n0_ n1_ n2_ ⊢
    have BK418 := n0_
    have BK422 := n1_
    have HB := n2_
    clear n0_ n1_ n2_
    replace BK418 := bd BK418
    replace BK422 := bd BK422
    replace HB := Aside0.mk (below_drew1 HB.out)
    refine start_ (n := 32) (S := fun w' => cS3 gb422 (.int .i64 ((rd_T37 l0_2 x33_1).f0)) (.int .i64 ((rd_T37 l0_2 x33_1).f1)) (.int .i64 ((rd_T37 l0_2 x33_1).f2)) w') (ds := []) #[false, false, false, false, false, false, false, false, false, false, false, false, false, false, false, false, false, false, false, false, false, false, false, false, false, false, false, false, false, false, false, false] (by kernel_rfl) rfl rfl (ds3_ BK422) (fun hHeld => ?_); refine with_tabW impl_DescOk.tab6 impl_DescOk.bits6 (fun HT_ HW_ => ?_)
    generalize w43.drew = w44 at BK418 BK422 HB hHeld ⊢
    refine pu 0 38 ?_; refine ta 1 39 ?_
    refine on1 2 (some 40) (fun K hK => ?_)
    refine gS Tryz.func114 #[.int .i64 ((rd_T37 l0_2 x33_1).f0)] ?_
    with_reducible refine (impl_isPlace.calls ((rd_T37 l0_2 x33_1).f0) true _ A19.out).mono ?_
    rintro e w' ⟨rfl, ⟨nd, rfl⟩⟩
    refine ⟨_, rfl, ?_⟩
    refine hK.out _ _ (ds3_ BK422) (fun hHeld => ?_)
    clear hK K
    refine nm 40 ?_
    refine pu 3 41 ?_; refine pu 4 42 ?_; refine pu 5 43 ?_; refine ta 6 44 ?_
    refine on1 7 (some 45) (fun K hK => ?_)
    refine gS Tryz.func115 #[.int .i64 ((rd_T37 l0_2 x33_1).f1)] ?_
    with_reducible refine (impl_isWordNum.calls ((rd_T37 l0_2 x33_1).f1) true _ A21.out).mono ?_
    rintro e w' ⟨rfl, ⟨nd, rfl⟩⟩
    refine ⟨_, rfl, ?_⟩
    refine hK.out _ _ (ds3_ BK422) (fun hHeld => ?_)
    clear hK K
    refine nm 45 ?_
    refine pu 8 46 ?_; refine pu 9 47 ?_; refine pu 10 48 ?_; refine pu 11 49 ?_; refine ta 12 50 ?_
    refine on1 13 (some 51) (fun K hK => ?_)
    refine gS Tryz.func115 #[.int .i64 ((rd_T37 l0_2 x33_1).f2)] ?_
    with_reducible refine (impl_isWordNum.calls ((rd_T37 l0_2 x33_1).f2) true _ A23.out).mono ?_
    rintro e w' ⟨rfl, ⟨nd, rfl⟩⟩
    refine ⟨_, rfl, ?_⟩
    refine hK.out _ _ (ds3_ BK422) (fun hHeld => ?_)
    clear hK K
    refine nm 51 ?_
    refine pu 14 52 ?_; refine pu 15 53 ?_; refine pu 16 54 ?_; refine pu 17 55 ?_; refine pu 18 56 ?_; refine pu 19 57 ?_; refine pn 20 58 ?_; refine pn 21 59 ?_; refine pn 22 60 ?_; refine pn 23 61 ?_; refine pn 24 62 ?_; refine pn 25 63 ?_
    refine pn 26 64 ?_; refine pn 27 65 ?_; refine pn 28 66 ?_; refine pn 29 67 ?_; refine pu 30 68 ?_; refine pu 31 69 ?_
    refine done_ (done_of HT_.out (by kernel_rfl)) ?_
    try go_wp2
    go_roundg k1
    case measure => have := HK1.out; omega
    case rel => exact ⟨(wrap64 (x33_1 + 1)), rsd, H', ⟨by have := HK1.out; omega⟩, ⟨by (with_reducible repeat (first | refine blk_drewN ?_ _ | refine blk_drew ?_ | refine blk_alloc ?_ _)); exact BK418.out⟩, ⟨tb HB⟩⟩
   obtain ⟨ji26, hji26⟩ : ∃ j_ : Int, (wrap64 (x33_1 - 1)) = j_ := ⟨_, rfl⟩
   replace H : (if 0 ≤ (ji26) then (if (ji26) < (l0_2.length : Int) then (if ((rd_T37 l0_2 (ji26)).f0) ≥ ((rd_T37 l0_2 x33_1).f0) then (some false) else (impl_DescOk.l0 k1 l0_2 (l0_2.length : Int) (wrap64 (x33_1 + 1)) a0_0 a0_1 l0_2 a0_3 l0_4)) else (none)) else (none)) = some r := by first | (rw [hji26] at H; exact H) | (simp only [hji26] at H ⊢; exact H)
   (try rw [hji26] at A19)
   (try rw [hji26] at A21)
   (try rw [hji26] at A23)
   have hji26w : (IntKind.i64.wrap (x33_1 - 1)) = ji26 := (i64_w _).trans hji26
   obtain ⟨c27b0, H⟩ := itd H
   obtain ⟨c28b0, H⟩ := itd H
   revert H; refine icd (fun c29b0 H => ?pos) fun c29b0 H => ?_
   case pos =>
    obtain rfl := oin H
    have p421 : 0 ≤ (x33_1 : Int) := od
    have q421 : x33_1 < (l0_2.length : Int) := od
    obtain ⟨ad421, e421, hx421_0, hx421_1, hx421_2⟩ := at_T37 HR0_2.out x33_1 p421 q421
    cases e421
    replace hx421_0 := ox HB hx421_0
    replace hx421_1 := ox HB hx421_1
    replace hx421_2 := ox HB hx421_2
    replace p421 := eq_true p421
    replace q421 := eq_true q421
    try go_wp2_with (first | ((with_reducible refine gq 4 rfl ?_); (try (refine gate_guard (by rfl) ?_; dsimp only)); refine bx1 HB BK418 (N := 4) (cs := #[.int .i64 0, .int .i64 0, .int .i64 0]) (t := 37) ?_; clear HB BK418; intro gb422 w30 BK422 GE422 HB NB418_422 NB422_418 BK418; have hnb31 := NB422_418.out; have hnc31 := NB418_422.out; have hz32 := cs3_ BK422))
    have n0_ : Aside0 ((((w30.setCell ⟨gb422, 0, none⟩ (.int .i64 ((rd_T37 l0_2 x33_1).f0))).setCell ⟨gb422, 1, none⟩ (.int .i64 ((rd_T37 l0_2 x33_1).f1))).setCell ⟨gb422, 2, none⟩ (.int .i64 ((rd_T37 l0_2 x33_1).f2))).heap[gb418]? = some (.cells #[.int .i64 a0_0, .int .i64 a0_1, .slice (some ad421) l0_2.length c0_2, .int .i64 a0_3, .slice A0_4 l0_4.length c0_4] 52 (0, 0))) := ⟨bf BK418⟩
    have n1_ : Aside0 ((((w30.setCell ⟨gb422, 0, none⟩ (.int .i64 ((rd_T37 l0_2 x33_1).f0))).setCell ⟨gb422, 1, none⟩ (.int .i64 ((rd_T37 l0_2 x33_1).f1))).setCell ⟨gb422, 2, none⟩ (.int .i64 ((rd_T37 l0_2 x33_1).f2))).heap[gb422]? = some (.cells #[.int .i64 ((rd_T37 l0_2 x33_1).f0), .int .i64 ((rd_T37 l0_2 x33_1).f1), .int .i64 ((rd_T37 l0_2 x33_1).f2)] 37 (0, 0))) := ⟨bfp3 BK422⟩
    have n2_ : Aside0 (Below w.heap.size w (((w30.setCell ⟨gb422, 0, none⟩ (.int .i64 ((rd_T37 l0_2 x33_1).f0))).setCell ⟨gb422, 1, none⟩ (.int .i64 ((rd_T37 l0_2 x33_1).f1))).setCell ⟨gb422, 2, none⟩ (.int .i64 ((rd_T37 l0_2 x33_1).f2)))) := ⟨tb HB⟩
    (try clear BK418)
    (try clear BK422)
    (try clear HB)
    generalize (((w30.setCell ⟨gb422, 0, none⟩ (.int .i64 ((rd_T37 l0_2 x33_1).f0))).setCell ⟨gb422, 1, none⟩ (.int .i64 ((rd_T37 l0_2 x33_1).f1))).setCell ⟨gb422, 2, none⟩ (.int .i64 ((rd_T37 l0_2 x33_1).f2))) = w33 at n0_ n1_ n2_ ⊢
    have BK418 := n0_
    have BK422 := n1_
    have HB := n2_
    clear n0_ n1_ n2_
    replace BK418 := bd BK418
    replace BK422 := bd BK422
    replace HB := Aside0.mk (below_drew1 HB.out)
    have p426 : 0 ≤ ((ji26) : Int) := od
    have q426 : (ji26) < (l0_2.length : Int) := od
    obtain ⟨ad426, e426, hx426⟩ := att37 HR0_2.out (ji26) p426 q426
    have hw426 := hx426
    obtain rfl : ad421 = ad426 := (by injection e426)
    replace hx426 := ox3 HB hx426
    replace p426 := eq_true p426
    replace q426 := eq_true q426
    refine start_ (n := 32) (S := fun w' => cS3 gb422 (.int .i64 ((rd_T37 l0_2 x33_1).f0)) (.int .i64 ((rd_T37 l0_2 x33_1).f1)) (.int .i64 ((rd_T37 l0_2 x33_1).f2)) w' ∧ cS5 gb418 (.int .i64 a0_0) (.int .i64 a0_1) (.slice (some ad421) l0_2.length c0_2) (.int .i64 a0_3) (.slice A0_4 l0_4.length c0_4) w' ∧ eT37 (ad421.add (((ji26)).toNat * 3)) (rd_T37 l0_2 (ji26)) w') (ds := []) #[false, false, false, false, false, false, false, false, false, false, false, false, false, false, false, false, false, false, false, false, false, false, false, false, false, false, false, false, false, false, false, false] (by kernel_rfl) rfl rfl ⟨ds3_ BK422, ds5_ BK418, (ox3 HB hw426 :)⟩ (fun hHeld => ?_); refine with_tabW impl_DescOk.tab6 impl_DescOk.bits6 (fun HT_ HW_ => ?_)
    generalize w33.drew = w34 at BK418 BK422 HB hx426 hHeld ⊢
    refine pu 0 38 ?_; refine ta 1 39 ?_
    refine on1 2 (some 40) (fun K hK => ?_)
    refine gS Tryz.func114 #[.int .i64 ((rd_T37 l0_2 x33_1).f0)] ?_
    with_reducible refine (impl_isPlace.calls ((rd_T37 l0_2 x33_1).f0) true _ A19.out).mono ?_
    rintro e w' ⟨rfl, ⟨nd, rfl⟩⟩
    refine ⟨_, rfl, ?_⟩
    refine hK.out _ _ ⟨ds3_ BK422, ds5_ BK418, (ox3 HB hw426 :)⟩ (fun hHeld => ?_)
    clear hK K
    refine nm 40 ?_
    refine pu 3 41 ?_; refine pu 4 42 ?_; refine pu 5 43 ?_; refine ta 6 44 ?_
    refine on1 7 (some 45) (fun K hK => ?_)
    refine gS Tryz.func115 #[.int .i64 ((rd_T37 l0_2 x33_1).f1)] ?_
    with_reducible refine (impl_isWordNum.calls ((rd_T37 l0_2 x33_1).f1) true _ A21.out).mono ?_
    rintro e w' ⟨rfl, ⟨nd, rfl⟩⟩
    refine ⟨_, rfl, ?_⟩
    refine hK.out _ _ ⟨ds3_ BK422, ds5_ BK418, (ox3 HB hw426 :)⟩ (fun hHeld => ?_)
    clear hK K
    refine nm 45 ?_
    refine pu 8 46 ?_; refine pu 9 47 ?_; refine pu 10 48 ?_; refine pu 11 49 ?_; refine ta 12 50 ?_
    refine on1 13 (some 51) (fun K hK => ?_)
    refine gS Tryz.func115 #[.int .i64 ((rd_T37 l0_2 x33_1).f2)] ?_
    with_reducible refine (impl_isWordNum.calls ((rd_T37 l0_2 x33_1).f2) true _ A23.out).mono ?_
    rintro e w' ⟨rfl, ⟨nd, rfl⟩⟩
    refine ⟨_, rfl, ?_⟩
    refine hK.out _ _ ⟨ds3_ BK422, ds5_ BK418, (ox3 HB hw426 :)⟩ (fun hHeld => ?_)
    clear hK K
    refine nm 51 ?_
    refine pu 14 52 ?_; refine pu 15 53 ?_; refine pu 16 54 ?_; refine pu 17 55 ?_; refine pu 18 56 ?_; refine pu 19 57 ?_; refine pu 20 58 ?_; refine pu 22 60 ?_; refine pu 23 61 ?_; refine pu 27 65 ?_; refine ta 21 59 ?_; refine pu 24 62 ?_
    refine pu 25 63 ?_; refine ta 26 64 ?_; refine ta 28 66 ?_; refine pu 29 67 ?_; refine pu 30 68 ?_; refine pu 31 69 ?_
    refine done_ (done_of HT_.out (by kernel_rfl)) ?_
    try go_wp2
    go_ret
    exact ⟨by first | rfl | (simp [errW_none, errW_some] <;> rfl) | (simp only [← hji26]; first | rfl | (simp [errW_none, errW_some] <;> rfl)) | (simp [*, errW_none, errW_some] <;> rfl), tb HB⟩
   have H' := Aside0.mk H
   clear H
   have p421 : 0 ≤ (x33_1 : Int) := od
   have q421 : x33_1 < (l0_2.length : Int) := od
   obtain ⟨ad421, e421, hx421_0, hx421_1, hx421_2⟩ := at_T37 HR0_2.out x33_1 p421 q421
   cases e421
   replace hx421_0 := ox HB hx421_0
   replace hx421_1 := ox HB hx421_1
   replace hx421_2 := ox HB hx421_2
   replace p421 := eq_true p421
   replace q421 := eq_true q421
   try go_wp2_with (first | ((with_reducible refine gq 4 rfl ?_); (try (refine gate_guard (by rfl) ?_; dsimp only)); refine bx1 HB BK418 (N := 4) (cs := #[.int .i64 0, .int .i64 0, .int .i64 0]) (t := 37) ?_; clear HB BK418; intro gb422 w35 BK422 GE422 HB NB418_422 NB422_418 BK418; have hnb36 := NB422_418.out; have hnc36 := NB418_422.out; have hz37 := cs3_ BK422))
   have n0_ : Aside0 ((((w35.setCell ⟨gb422, 0, none⟩ (.int .i64 ((rd_T37 l0_2 x33_1).f0))).setCell ⟨gb422, 1, none⟩ (.int .i64 ((rd_T37 l0_2 x33_1).f1))).setCell ⟨gb422, 2, none⟩ (.int .i64 ((rd_T37 l0_2 x33_1).f2))).heap[gb418]? = some (.cells #[.int .i64 a0_0, .int .i64 a0_1, .slice (some ad421) l0_2.length c0_2, .int .i64 a0_3, .slice A0_4 l0_4.length c0_4] 52 (0, 0))) := ⟨bf BK418⟩
   have n1_ : Aside0 ((((w35.setCell ⟨gb422, 0, none⟩ (.int .i64 ((rd_T37 l0_2 x33_1).f0))).setCell ⟨gb422, 1, none⟩ (.int .i64 ((rd_T37 l0_2 x33_1).f1))).setCell ⟨gb422, 2, none⟩ (.int .i64 ((rd_T37 l0_2 x33_1).f2))).heap[gb422]? = some (.cells #[.int .i64 ((rd_T37 l0_2 x33_1).f0), .int .i64 ((rd_T37 l0_2 x33_1).f1), .int .i64 ((rd_T37 l0_2 x33_1).f2)] 37 (0, 0))) := ⟨bfp3 BK422⟩
   have n2_ : Aside0 (Below w.heap.size w (((w35.setCell ⟨gb422, 0, none⟩ (.int .i64 ((rd_T37 l0_2 x33_1).f0))).setCell ⟨gb422, 1, none⟩ (.int .i64 ((rd_T37 l0_2 x33_1).f1))).setCell ⟨gb422, 2, none⟩ (.int .i64 ((rd_T37 l0_2 x33_1).f2)))) := ⟨tb HB⟩
   (try clear BK418)
   (try clear BK422)
   (try clear HB)
   generalize (((w35.setCell ⟨gb422, 0, none⟩ (.int .i64 ((rd_T37 l0_2 x33_1).f0))).setCell ⟨gb422, 1, none⟩ (.int .i64 ((rd_T37 l0_2 x33_1).f1))).setCell ⟨gb422, 2, none⟩ (.int .i64 ((rd_T37 l0_2 x33_1).f2))) = w38 at n0_ n1_ n2_ ⊢
   have BK418 := n0_
   have BK422 := n1_
   have HB := n2_
   clear n0_ n1_ n2_
   replace BK418 := bd BK418
   replace BK422 := bd BK422
   replace HB := Aside0.mk (below_drew1 HB.out)
   have p426 : 0 ≤ ((ji26) : Int) := od
   have q426 : (ji26) < (l0_2.length : Int) := od
   obtain ⟨ad426, e426, hx426⟩ := att37 HR0_2.out (ji26) p426 q426
   have hw426 := hx426
   obtain rfl : ad421 = ad426 := (by injection e426)
   replace hx426 := ox3 HB hx426
   replace p426 := eq_true p426
   replace q426 := eq_true q426
   refine start_ (n := 32) (S := fun w' => cS3 gb422 (.int .i64 ((rd_T37 l0_2 x33_1).f0)) (.int .i64 ((rd_T37 l0_2 x33_1).f1)) (.int .i64 ((rd_T37 l0_2 x33_1).f2)) w' ∧ cS5 gb418 (.int .i64 a0_0) (.int .i64 a0_1) (.slice (some ad421) l0_2.length c0_2) (.int .i64 a0_3) (.slice A0_4 l0_4.length c0_4) w' ∧ eT37 (ad421.add (((ji26)).toNat * 3)) (rd_T37 l0_2 (ji26)) w') (ds := []) #[false, false, false, false, false, false, false, false, false, false, false, false, false, false, false, false, false, false, false, false, false, false, false, false, false, false, false, false, false, false, false, false] (by kernel_rfl) rfl rfl ⟨ds3_ BK422, ds5_ BK418, (ox3 HB hw426 :)⟩ (fun hHeld => ?_); refine with_tabW impl_DescOk.tab6 impl_DescOk.bits6 (fun HT_ HW_ => ?_)
   generalize w38.drew = w39 at BK418 BK422 HB hx426 hHeld ⊢
   refine pu 0 38 ?_; refine ta 1 39 ?_
   refine on1 2 (some 40) (fun K hK => ?_)
   refine gS Tryz.func114 #[.int .i64 ((rd_T37 l0_2 x33_1).f0)] ?_
   with_reducible refine (impl_isPlace.calls ((rd_T37 l0_2 x33_1).f0) true _ A19.out).mono ?_
   rintro e w' ⟨rfl, ⟨nd, rfl⟩⟩
   refine ⟨_, rfl, ?_⟩
   refine hK.out _ _ ⟨ds3_ BK422, ds5_ BK418, (ox3 HB hw426 :)⟩ (fun hHeld => ?_)
   clear hK K
   refine nm 40 ?_
   refine pu 3 41 ?_; refine pu 4 42 ?_; refine pu 5 43 ?_; refine ta 6 44 ?_
   refine on1 7 (some 45) (fun K hK => ?_)
   refine gS Tryz.func115 #[.int .i64 ((rd_T37 l0_2 x33_1).f1)] ?_
   with_reducible refine (impl_isWordNum.calls ((rd_T37 l0_2 x33_1).f1) true _ A21.out).mono ?_
   rintro e w' ⟨rfl, ⟨nd, rfl⟩⟩
   refine ⟨_, rfl, ?_⟩
   refine hK.out _ _ ⟨ds3_ BK422, ds5_ BK418, (ox3 HB hw426 :)⟩ (fun hHeld => ?_)
   clear hK K
   refine nm 45 ?_
   refine pu 8 46 ?_; refine pu 9 47 ?_; refine pu 10 48 ?_; refine pu 11 49 ?_; refine ta 12 50 ?_
   refine on1 13 (some 51) (fun K hK => ?_)
   refine gS Tryz.func115 #[.int .i64 ((rd_T37 l0_2 x33_1).f2)] ?_
   with_reducible refine (impl_isWordNum.calls ((rd_T37 l0_2 x33_1).f2) true _ A23.out).mono ?_
   rintro e w' ⟨rfl, ⟨nd, rfl⟩⟩
   refine ⟨_, rfl, ?_⟩
   refine hK.out _ _ ⟨ds3_ BK422, ds5_ BK418, (ox3 HB hw426 :)⟩ (fun hHeld => ?_)
   clear hK K
   refine nm 51 ?_
   refine pu 14 52 ?_; refine pu 15 53 ?_; refine pu 16 54 ?_; refine pu 17 55 ?_; refine pu 18 56 ?_; refine pu 19 57 ?_; refine pu 20 58 ?_; refine pu 22 60 ?_; refine pu 23 61 ?_; refine pu 27 65 ?_; refine ta 21 59 ?_; refine pu 24 62 ?_
   refine pu 25 63 ?_; refine ta 26 64 ?_; refine ta 28 66 ?_; refine pu 29 67 ?_; refine pu 30 68 ?_; refine pu 31 69 ?_
   refine done_ (done_of HT_.out (by kernel_rfl)) ?_
   try go_wp2
   go_roundg k1
   case measure => have := HK1.out; omega
   case rel => exact ⟨(wrap64 (x33_1 + 1)), rsd, H', ⟨by have := HK1.out; omega⟩, ⟨by (with_reducible repeat (first | refine blk_drewN ?_ _ | refine blk_drew ?_ | refine blk_alloc ?_ _)); exact BK418.out⟩, ⟨tb HB⟩⟩
def impl_MemOk_1.f (k : Nat) (a0_0 : Int) (a0_1 : Int) (l0_2 : List (S37)) (a0_3 : Int) (l0_4 : List Int) : Option (Bool) := (impl_DescOk.f k a0_0 a0_1 l0_2 a0_3 l0_4).bind fun t428 => (some (!t428))
theorem impl_MemOk_1.mono : ∀ a0 a1 a2 a3 a4 k, LeO (impl_MemOk_1.f k a0 a1 a2 a3 a4) (impl_MemOk_1.f (k + 1) a0 a1 a2 a3 a4) := by
 intro a0 a1 a2 a3 a4 k
 unfold impl_MemOk_1.f
 repeat' first
   | (with_reducible exact impl_DescOk.mono _ _ _ _ _ _)
   | (with_reducible exact LeO.refl _)
   | (with_reducible exact LeO.none _)
   | (with_reducible refine LeO.ite ?_ ?_)
   | (with_reducible refine LeO.bind ?_ (fun _ => ?_))
   | exact impl_DescOk.mono _ _ _ _ _ _
   | exact LeO.none _
   | refine LeO.ite ?_ ?_
   | refine LeO.bind ?_ (fun _ => ?_)
set_option maxHeartbeats 8000000 in
set_option maxRecDepth 100000 in
theorem impl_MemOk_1.calls (k : Nat) (a0_0 : Int) (a0_1 : Int) (A0_2 : Option Addr) (c0_2 : Nat) (l0_2 : List (S37)) (a0_3 : Int) (A0_4 : Option Addr) (c0_4 : Nat) (l0_4 : List Int) (r : Bool) (w : World) (hr0_2 : Kd.C k37 w A0_2 l0_2.length l0_2) (hc0_2 : l0_2.length ≤ c0_2) (hr0_4 : Kd.C (Kd.int .i64) w A0_4 l0_4.length l0_4) (hc0_4 : l0_4.length ≤ c0_4) (h : impl_MemOk_1.f k a0_0 a0_1 l0_2 a0_3 l0_4 = some r) :
  Calls Tryz.prog 77 #[.agg #[.int .i64 a0_0, .int .i64 a0_1, .slice A0_2 l0_2.length c0_2, .int .i64 a0_3, .slice A0_4 l0_4.length c0_4]] w fun e w' => e = .returned (.bool r) ∧ Below w.heap.size w w' := by
 have hu52 := Tryz.underlying52
 have HR0_2 := Aside0.mk hr0_2
 have HC0_2 := Aside0.mk hc0_2
 clear hr0_2 hc0_2
 have HR0_4 := Aside0.mk hr0_4
 have HC0_4 := Aside0.mk hc0_4
 clear hr0_4 hc0_4
 have HB := Aside0.mk (Below.refl w.heap.size w)
 have H := h
 clear h
 unfold impl_MemOk_1.f at H
 obtain ⟨t428, A2, H⟩ := bn H
 try dsimp only at H
 obtain rfl := oin H
 go_enter Tryz.func77, Tryz.ntmps77
 go_wp2_with (first | ((with_reducible refine gq 1 rfl ?_); refine bx0 HB (N := 1) (t := 52) ?_; clear HB; intro gb427 w3 BK427 GE427 HB; have hz4 := cs5_ BK427) | ((with_reducible refine gf 78 rfl ?_); refine gL 4 Tryz.func78 #[.agg #[.int .i64 a0_0, .int .i64 a0_1, .slice A0_2 l0_2.length c0_2, .int .i64 a0_3, .slice A0_4 l0_4.length c0_4]] ?_; (with_reducible refine (impl_DescOk.calls k a0_0 a0_1 _ _ l0_2 a0_3 _ _ l0_4 t428 _ (kc HR0_2 HB) HC0_2.out (kc HR0_4 HB) HC0_4.out A2.out).mono ?_); rintro e w5 ⟨rfl, hb⟩; refine ⟨_, rfl, ?_⟩; replace BK427 := bb BK427 hb; replace HB := bs HB hb; (try clear hb)))
 go_ret
 exact ⟨er, tb HB⟩
end Go.Proofs.YtopikhjcbcpiaaaGreat.Q
section
namespace Go.Proofs.YtopikhjcbcpiaaaGreat.Q
open Go.RowKit Go.Proofs.YtopikhjcbcpiaaaGreatW.PrintWords Go.Proofs.YtopikhjcbcpiaaaGreatW.PrintLast Go.Proofs.YtopikhjcbcpiaaaGreatW.PrintMore
def anyO {α : Type} (p : α → Option Bool) : List α → Option Bool
  | [] => some false
  | x :: xs => (p x).bind fun b => if b = true then some true else anyO p xs
theorem anyO.leo {α : Type} {p q : α → Option Bool} (h : ∀ x, LeO (p x) (q x)) : ∀ l, LeO (anyO p l) (anyO q l)
  | [] => LeO.refl _
  | x :: xs => LeO.bind (h x) (fun _ => LeO.ite (LeO.refl _) (anyO.leo h xs))
theorem anyO.cons {α : Type} {p : α → Option Bool} {l : List α} {j : Nat} {z : α} {r : Bool} (h : anyO p (l.drop j) = some r) (hj : j < l.length) :
    ∃ b, p (l.getD j z) = some b ∧ (b = true → r = true) ∧ (b = false → anyO p (l.drop (j + 1)) = some r) := by
  have e : l.drop j = l.getD j z :: l.drop (j + 1) := by
    rw [List.drop_eq_getElem_cons hj]
    simp [List.getD_eq_getElem?_getD, List.getElem?_eq_getElem hj]
  rw [e] at h
  obtain ⟨b, hb, h2⟩ := Option.bind_eq_some_iff.mp h
  refine ⟨b, hb, ?_, ?_⟩
  · rintro rfl
    simpa using h2.symm
  · rintro rfl
    simpa using h2
theorem anyO.nil {α : Type} {p : α → Option Bool} {l : List α} {j : Nat} {r : Bool} (h : anyO p (l.drop j) = some r) (hj : l.length ≤ j) : r = false := by
  rw [List.drop_eq_nil_of_le hj] at h
  simpa [anyO] using h.symm
def impl_MemOk_1_any.f (k : Nat) (l0 : List S52) : Option Bool := anyO (fun x : S52 => impl_MemOk_1.f k x.f0 x.f1 x.f2 x.f3.f0 x.f3.f1) l0
theorem impl_MemOk_1_any.mono : ∀ l k, LeO (impl_MemOk_1_any.f k l) (impl_MemOk_1_any.f (k + 1) l) := fun l k => anyO.leo (fun _ => impl_MemOk_1.mono _ _ _ _ _ k) l
set_option maxHeartbeats 4000000 in
set_option maxRecDepth 100000 in
theorem impl_MemOk_1_idx (k : Nat) (A0 : Option Addr) (c0 : Nat) (l0 : List S52) (r : Bool) (w : World) (hr0 : Kd.C k52 w A0 l0.length l0) (h : impl_MemOk_1_any.f k l0 = some r) :
    Calls Tryz.prog 134 #[.slice A0 l0.length c0, .func (.func 77) #[] #[]] w fun e w' => ∃ n : Int, e = .returned (.int .i64 n) ∧ decide (n ≥ 0) = r ∧ Below w.heap.size w w' := by
  have huE := Tryz.underlying52
  have HR0 := Aside0.mk hr0
  have HM : l0.length ≤ 9223372036854775807 := hr0.2.1
  clear hr0
  have H0 := Aside0.mk h
  clear h
  have HW := Aside0.mk (Below.refl w.heap.size w)
  go_enter Tryz.func134, Tryz.ntmps134
  go_wp2
  go_loopg [5, 8] l0.length (fun gg _ s8 wr => ∃ kk : Nat, kk ≤ l0.length ∧ Aside0 (l0.length - kk ≤ gg) ∧ s8 = .int .i64 kk ∧ Aside0 (anyO (fun x : S52 => impl_MemOk_1.f k x.f0 x.f1 x.f2 x.f3.f0 x.f3.f1) (l0.drop kk) = some r) ∧ Aside0 (Below w.heap.size w wr))
  case atStart => exact ⟨0, Nat.zero_le _, ⟨by omega⟩, rfl, H0, HW⟩
  case round =>
    obtain ⟨kk, hkk, HF, rfl, HA, HB⟩ := hrel
    clear H0 HW
    by_cases hlt : kk < l0.length
    · have hltz : (kk : Int) < (l0.length : Int) := by omega
      obtain ⟨ad, A2, c2, A4, c4, e, hx0, hx1, hx2, hx3, hx4, hl2, hi2, hl4, hi4⟩ := at_T52 HR0.out (kk : Int) (by omega) hltz
      cases e
      replace hx0 := (HB.out.cell (World.block_lt_of_cell? w _ hx0)).trans hx0
      replace hx1 := (HB.out.cell (World.block_lt_of_cell? w _ hx1)).trans hx1
      replace hx2 := (HB.out.cell (World.block_lt_of_cell? w _ hx2)).trans hx2
      replace hx3 := (HB.out.cell (World.block_lt_of_cell? w _ hx3)).trans hx3
      replace hx4 := (HB.out.cell (World.block_lt_of_cell? w _ hx4)).trans hx4
      replace hi2 := Kd.C_below hi2 HB.out
      replace hi4 := Kd.C_below hi4 HB.out
      simp only [Int.toNat_natCast] at hx0 hx1 hx2 hx3 hx4
      have HI2 := Aside0.mk hi2
      have HL2 := Aside0.mk hl2
      clear hi2 hl2
      have HI4 := Aside0.mk hi4
      have HL4 := Aside0.mk hl4
      clear hi4 hl4
      obtain ⟨b, hb, ht, hf⟩ := anyO.cons (z := z52) HA.out hlt
      have hb := Aside0.mk (show impl_MemOk_1.f k (rd_T52 l0 (kk : Int)).f0 (rd_T52 l0 (kk : Int)).f1 (rd_T52 l0 (kk : Int)).f2 (rd_T52 l0 (kk : Int)).f3.f0 (rd_T52 l0 (kk : Int)).f3.f1 = some b from hb)
      replace ht := Aside0.mk ht
      replace hf := Aside0.mk hf
      clear HA
      cases b with
      | true =>
        have HT := Aside0.mk (ht.out rfl)
        clear ht hf
        go_wp2_with (go_at_call 77; (with_reducible refine (impl_MemOk_1.calls k (rd_T52 l0 (kk : Int)).f0 (rd_T52 l0 (kk : Int)).f1 _ _ (rd_T52 l0 (kk : Int)).f2 (rd_T52 l0 (kk : Int)).f3.f0 _ _ (rd_T52 l0 (kk : Int)).f3.f1 _ _ HI2.out HL2.out HI4.out HL4.out hb.out).mono ?_); rintro e w' ⟨rfl, hb'⟩; have HB' := Aside0.mk (below_step HB.out hb'); clear hb')
        go_ret
        exact ⟨_, rfl, by rw [HT.out]; simp, HB'.out⟩
      | false =>
        have HA := Aside0.mk (hf.out rfl)
        clear ht hf
        go_wp2_with (go_at_call 77; (with_reducible refine (impl_MemOk_1.calls k (rd_T52 l0 (kk : Int)).f0 (rd_T52 l0 (kk : Int)).f1 _ _ (rd_T52 l0 (kk : Int)).f2 (rd_T52 l0 (kk : Int)).f3.f0 _ _ (rd_T52 l0 (kk : Int)).f3.f1 _ _ HI2.out HL2.out HI4.out HL4.out hb.out).mono ?_); rintro e w' ⟨rfl, hb'⟩; have HB' := Aside0.mk (below_step HB.out hb'); clear hb')
        go_roundg (l0.length - (kk + 1))
        case measure => have := HF.out; omega
        case rel => exact ⟨kk + 1, by omega, ⟨by omega⟩, by go_num, HA, HB'⟩
    · have hltz : ¬ (kk : Int) < (l0.length : Int) := by omega
      have hr : r = false := anyO.nil HA.out (by omega)
      subst hr
      go_wp2
      go_ret
      exact ⟨_, rfl, by decide, HB.out⟩
set_option maxHeartbeats 2000000 in
theorem impl_MemOk_1_any.calls (k : Nat) (A0 : Option Addr) (c0 : Nat) (l0 : List S52) (r : Bool) (w : World) (hr0 : Kd.C k52 w A0 l0.length l0) (_hc0 : l0.length ≤ c0) (h : impl_MemOk_1_any.f k l0 = some r) :
    Calls Tryz.prog 76 #[.slice A0 l0.length c0, .func (.func 77) #[] #[]] w fun e w' => e = .returned (.bool r) ∧ Below w.heap.size w w' := by
  have HC := Aside0.mk (impl_MemOk_1_idx k A0 c0 l0 r w hr0 h)
  clear hr0 h
  go_enter Tryz.func76, Tryz.ntmps76
  go_wp2_with (go_at_call 134; refine HC.out.mono ?_; rintro e w' ⟨n, rfl, hn, hb⟩; have HN := Aside0.mk hn; have HB := Aside0.mk hb; clear hn hb)
  go_ret
  exact ⟨by rw [← HN.out]; rfl, HB.out⟩
def impl_ThreadOk_1_any.f (k : Nat) (l0 : List S132) : Option Bool := anyO (fun x : S132 => impl_ThreadOk_1.f k x.f0 x.f1 x.f2) l0
theorem impl_ThreadOk_1_any.mono : ∀ l k, LeO (impl_ThreadOk_1_any.f k l) (impl_ThreadOk_1_any.f (k + 1) l) := fun l k => anyO.leo (fun _ => impl_ThreadOk_1.mono _ _ _ k) l
set_option maxHeartbeats 4000000 in
set_option maxRecDepth 100000 in
theorem impl_ThreadOk_1_idx (k : Nat) (A0 : Option Addr) (c0 : Nat) (l0 : List S132) (r : Bool) (w : World) (hr0 : Kd.C k132 w A0 l0.length l0) (h : impl_ThreadOk_1_any.f k l0 = some r) :
    Calls Tryz.prog 161 #[.slice A0 l0.length c0, .func (.func 111) #[] #[]] w fun e w' => ∃ n : Int, e = .returned (.int .i64 n) ∧ decide (n ≥ 0) = r ∧ Below w.heap.size w w' := by
  have huE := Tryz.underlying132
  have HR0 := Aside0.mk hr0
  have HM : l0.length ≤ 9223372036854775807 := hr0.2.1
  clear hr0
  have H0 := Aside0.mk h
  clear h
  have HW := Aside0.mk (Below.refl w.heap.size w)
  go_enter Tryz.func161, Tryz.ntmps161
  go_wp2
  go_loopg [5, 8] l0.length (fun gg _ s8 wr => ∃ kk : Nat, kk ≤ l0.length ∧ Aside0 (l0.length - kk ≤ gg) ∧ s8 = .int .i64 kk ∧ Aside0 (anyO (fun x : S132 => impl_ThreadOk_1.f k x.f0 x.f1 x.f2) (l0.drop kk) = some r) ∧ Aside0 (Below w.heap.size w wr))
  case atStart => exact ⟨0, Nat.zero_le _, ⟨by omega⟩, rfl, H0, HW⟩
  case round =>
    obtain ⟨kk, hkk, HF, rfl, HA, HB⟩ := hrel
    clear H0 HW
    by_cases hlt : kk < l0.length
    · have hltz : (kk : Int) < (l0.length : Int) := by omega
      obtain ⟨ad, e, hx0, hx1, hx2⟩ := at_T132 HR0.out (kk : Int) (by omega) hltz
      cases e
      replace hx0 := (HB.out.cell (World.block_lt_of_cell? w _ hx0)).trans hx0
      replace hx1 := (HB.out.cell (World.block_lt_of_cell? w _ hx1)).trans hx1
      replace hx2 := (HB.out.cell (World.block_lt_of_cell? w _ hx2)).trans hx2
      simp only [Int.toNat_natCast] at hx0 hx1 hx2
      obtain ⟨b, hb, ht, hf⟩ := anyO.cons (z := z132) HA.out hlt
      have hb := Aside0.mk (show impl_ThreadOk_1.f k (rd_T132 l0 (kk : Int)).f0 (rd_T132 l0 (kk : Int)).f1 (rd_T132 l0 (kk : Int)).f2 = some b from hb)
      replace ht := Aside0.mk ht
      replace hf := Aside0.mk hf
      clear HA
      cases b with
      | true =>
        have HT := Aside0.mk (ht.out rfl)
        clear ht hf
        go_wp2_with (go_at_call 111; (with_reducible refine (impl_ThreadOk_1.calls k (rd_T132 l0 (kk : Int)).f0 (rd_T132 l0 (kk : Int)).f1 (rd_T132 l0 (kk : Int)).f2 _ _  hb.out).mono ?_); rintro e w' ⟨rfl, hb'⟩; have HB' := Aside0.mk (below_step HB.out hb'); clear hb')
        go_ret
        exact ⟨_, rfl, by rw [HT.out]; simp, HB'.out⟩
      | false =>
        have HA := Aside0.mk (hf.out rfl)
        clear ht hf
        go_wp2_with (go_at_call 111; (with_reducible refine (impl_ThreadOk_1.calls k (rd_T132 l0 (kk : Int)).f0 (rd_T132 l0 (kk : Int)).f1 (rd_T132 l0 (kk : Int)).f2 _ _  hb.out).mono ?_); rintro e w' ⟨rfl, hb'⟩; have HB' := Aside0.mk (below_step HB.out hb'); clear hb')
        go_roundg (l0.length - (kk + 1))
        case measure => have := HF.out; omega
        case rel => exact ⟨kk + 1, by omega, ⟨by omega⟩, by go_num, HA, HB'⟩
    · have hltz : ¬ (kk : Int) < (l0.length : Int) := by omega
      have hr : r = false := anyO.nil HA.out (by omega)
      subst hr
      go_wp2
      go_ret
      exact ⟨_, rfl, by decide, HB.out⟩
set_option maxHeartbeats 2000000 in
theorem impl_ThreadOk_1_any.calls (k : Nat) (A0 : Option Addr) (c0 : Nat) (l0 : List S132) (r : Bool) (w : World) (hr0 : Kd.C k132 w A0 l0.length l0) (_hc0 : l0.length ≤ c0) (h : impl_ThreadOk_1_any.f k l0 = some r) :
    Calls Tryz.prog 110 #[.slice A0 l0.length c0, .func (.func 111) #[] #[]] w fun e w' => e = .returned (.bool r) ∧ Below w.heap.size w w' := by
  have HC := Aside0.mk (impl_ThreadOk_1_idx k A0 c0 l0 r w hr0 h)
  clear hr0 h
  go_enter Tryz.func110, Tryz.ntmps110
  go_wp2_with (go_at_call 161; refine HC.out.mono ?_; rintro e w' ⟨n, rfl, hn, hb⟩; have HN := Aside0.mk hn; have HB := Aside0.mk hb; clear hn hb)
  go_ret
  exact ⟨by rw [← HN.out]; rfl, HB.out⟩
def impl_ThreadOk_2_any.f (l0 : List S145) : Option Bool := anyO (fun x : S145 => impl_ThreadOk_2.f x.f0 x.f1) l0
set_option maxHeartbeats 4000000 in
set_option maxRecDepth 100000 in
theorem impl_ThreadOk_2_idx (A0 : Option Addr) (c0 : Nat) (l0 : List S145) (r : Bool) (w : World) (hr0 : Kd.C k145 w A0 l0.length l0) (h : impl_ThreadOk_2_any.f l0 = some r) :
    Calls Tryz.prog 162 #[.slice A0 l0.length c0, .func (.func 113) #[] #[]] w fun e w' => ∃ n : Int, e = .returned (.int .i64 n) ∧ decide (n ≥ 0) = r ∧ Below w.heap.size w w' := by
  have huE := Tryz.underlying145
  have HR0 := Aside0.mk hr0
  have HM : l0.length ≤ 9223372036854775807 := hr0.2.1
  clear hr0
  have H0 := Aside0.mk h
  clear h
  have HW := Aside0.mk (Below.refl w.heap.size w)
  go_enter Tryz.func162, Tryz.ntmps162
  go_wp2
  go_loopg [5, 8] l0.length (fun gg _ s8 wr => ∃ kk : Nat, kk ≤ l0.length ∧ Aside0 (l0.length - kk ≤ gg) ∧ s8 = .int .i64 kk ∧ Aside0 (anyO (fun x : S145 => impl_ThreadOk_2.f x.f0 x.f1) (l0.drop kk) = some r) ∧ Aside0 (Below w.heap.size w wr))
  case atStart => exact ⟨0, Nat.zero_le _, ⟨by omega⟩, rfl, H0, HW⟩
  case round =>
    obtain ⟨kk, hkk, HF, rfl, HA, HB⟩ := hrel
    clear H0 HW
    by_cases hlt : kk < l0.length
    · have hltz : (kk : Int) < (l0.length : Int) := by omega
      obtain ⟨ad, e, hx0, hx1⟩ := at_T145 HR0.out (kk : Int) (by omega) hltz
      cases e
      replace hx0 := (HB.out.cell (World.block_lt_of_cell? w _ hx0)).trans hx0
      replace hx1 := (HB.out.cell (World.block_lt_of_cell? w _ hx1)).trans hx1
      simp only [Int.toNat_natCast] at hx0 hx1
      obtain ⟨b, hb, ht, hf⟩ := anyO.cons (z := z145) HA.out hlt
      have hb := Aside0.mk (show impl_ThreadOk_2.f (rd_T145 l0 (kk : Int)).f0 (rd_T145 l0 (kk : Int)).f1 = some b from hb)
      replace ht := Aside0.mk ht
      replace hf := Aside0.mk hf
      clear HA
      cases b with
      | true =>
        have HT := Aside0.mk (ht.out rfl)
        clear ht hf
        go_wp2_with (go_at_call 113; (with_reducible refine (impl_ThreadOk_2.calls (rd_T145 l0 (kk : Int)).f0 (rd_T145 l0 (kk : Int)).f1 _ _  hb.out).mono ?_); rintro e w' ⟨rfl, hb'⟩; have HB' := Aside0.mk (below_step HB.out hb'); clear hb')
        go_ret
        exact ⟨_, rfl, by rw [HT.out]; simp, HB'.out⟩
      | false =>
        have HA := Aside0.mk (hf.out rfl)
        clear ht hf
        go_wp2_with (go_at_call 113; (with_reducible refine (impl_ThreadOk_2.calls (rd_T145 l0 (kk : Int)).f0 (rd_T145 l0 (kk : Int)).f1 _ _  hb.out).mono ?_); rintro e w' ⟨rfl, hb'⟩; have HB' := Aside0.mk (below_step HB.out hb'); clear hb')
        go_roundg (l0.length - (kk + 1))
        case measure => have := HF.out; omega
        case rel => exact ⟨kk + 1, by omega, ⟨by omega⟩, by go_num, HA, HB'⟩
    · have hltz : ¬ (kk : Int) < (l0.length : Int) := by omega
      have hr : r = false := anyO.nil HA.out (by omega)
      subst hr
      go_wp2
      go_ret
      exact ⟨_, rfl, by decide, HB.out⟩
set_option maxHeartbeats 2000000 in
theorem impl_ThreadOk_2_any.calls (A0 : Option Addr) (c0 : Nat) (l0 : List S145) (r : Bool) (w : World) (hr0 : Kd.C k145 w A0 l0.length l0) (_hc0 : l0.length ≤ c0) (h : impl_ThreadOk_2_any.f l0 = some r) :
    Calls Tryz.prog 112 #[.slice A0 l0.length c0, .func (.func 113) #[] #[]] w fun e w' => e = .returned (.bool r) ∧ Below w.heap.size w w' := by
  have HC := Aside0.mk (impl_ThreadOk_2_idx A0 c0 l0 r w hr0 h)
  clear hr0 h
  go_enter Tryz.func112, Tryz.ntmps112
  go_wp2_with (go_at_call 162; refine HC.out.mono ?_; rintro e w' ⟨n, rfl, hn, hb⟩; have HN := Aside0.mk hn; have HB := Aside0.mk hb; clear hn hb)
  go_ret
  exact ⟨by rw [← HN.out]; rfl, HB.out⟩
def impl_ThreadOk_3_any.f (l0 : List S42) (a1 : Int) : Option Bool := anyO (fun x : S42 => impl_ThreadOk_3.f x.f0 x.f1 x.f2 x.f3 a1) l0
set_option maxHeartbeats 4000000 in
set_option maxRecDepth 100000 in
theorem impl_ThreadOk_3_idx (A0 : Option Addr) (c0 : Nat) (l0 : List S42) (g1 : Nat) (a1 : Int) (r : Bool) (w : World) (hr0 : Kd.C k42 w A0 l0.length l0) (hg1 : w.heap[g1]? = some (.cells #[.int .i64 a1] 3 (0, 0))) (h : impl_ThreadOk_3_any.f l0 a1 = some r) :
    Calls Tryz.prog 163 #[.slice A0 l0.length c0, .func (.func 117) #[] #[.pointer (some ⟨g1, 0, none⟩)]] w fun e w' => ∃ n : Int, e = .returned (.int .i64 n) ∧ decide (n ≥ 0) = r ∧ Below w.heap.size w w' := by
  have huE := Tryz.underlying42
  have HR0 := Aside0.mk hr0
  have HM : l0.length ≤ 9223372036854775807 := hr0.2.1
  have HG : ∀ W, Below w.heap.size w W → W.heap[g1]? = some (.cells #[.int .i64 a1] 3 (0, 0)) := fun W hW => blk_below hg1 hW
  clear hg1
  clear hr0
  have H0 := Aside0.mk h
  clear h
  have HW := Aside0.mk (Below.refl w.heap.size w)
  go_enter Tryz.func163, Tryz.ntmps163
  go_wp2
  go_loopg [5, 8] l0.length (fun gg _ s8 wr => ∃ kk : Nat, kk ≤ l0.length ∧ Aside0 (l0.length - kk ≤ gg) ∧ s8 = .int .i64 kk ∧ Aside0 (anyO (fun x : S42 => impl_ThreadOk_3.f x.f0 x.f1 x.f2 x.f3 a1) (l0.drop kk) = some r) ∧ Aside0 (Below w.heap.size w wr))
  case atStart => exact ⟨0, Nat.zero_le _, ⟨by omega⟩, rfl, H0, HW⟩
  case round =>
    obtain ⟨kk, hkk, HF, rfl, HA, HB⟩ := hrel
    clear H0 HW
    by_cases hlt : kk < l0.length
    · have hltz : (kk : Int) < (l0.length : Int) := by omega
      obtain ⟨ad, e, hx0, hx1, hx2, hx3⟩ := at_T42 HR0.out (kk : Int) (by omega) hltz
      cases e
      replace hx0 := (HB.out.cell (World.block_lt_of_cell? w _ hx0)).trans hx0
      replace hx1 := (HB.out.cell (World.block_lt_of_cell? w _ hx1)).trans hx1
      replace hx2 := (HB.out.cell (World.block_lt_of_cell? w _ hx2)).trans hx2
      replace hx3 := (HB.out.cell (World.block_lt_of_cell? w _ hx3)).trans hx3
      simp only [Int.toNat_natCast] at hx0 hx1 hx2 hx3
      obtain ⟨b, hb, ht, hf⟩ := anyO.cons (z := z42) HA.out hlt
      have hb := Aside0.mk (show impl_ThreadOk_3.f (rd_T42 l0 (kk : Int)).f0 (rd_T42 l0 (kk : Int)).f1 (rd_T42 l0 (kk : Int)).f2 (rd_T42 l0 (kk : Int)).f3 a1 = some b from hb)
      replace ht := Aside0.mk ht
      replace hf := Aside0.mk hf
      clear HA
      cases b with
      | true =>
        have HT := Aside0.mk (ht.out rfl)
        clear ht hf
        go_wp2_with (go_at_call 117; (with_reducible refine (impl_ThreadOk_3_test g1 (rd_T42 l0 (kk : Int)).f0 (rd_T42 l0 (kk : Int)).f1 (rd_T42 l0 (kk : Int)).f2 (rd_T42 l0 (kk : Int)).f3 a1 _ _ (HG _ HB.out) hb.out).mono ?_); rintro e w' ⟨rfl, hb'⟩; have HB' := Aside0.mk (below_step HB.out hb'); clear hb')
        go_ret
        exact ⟨_, rfl, by rw [HT.out]; simp, HB'.out⟩
      | false =>
        have HA := Aside0.mk (hf.out rfl)
        clear ht hf
        go_wp2_with (go_at_call 117; (with_reducible refine (impl_ThreadOk_3_test g1 (rd_T42 l0 (kk : Int)).f0 (rd_T42 l0 (kk : Int)).f1 (rd_T42 l0 (kk : Int)).f2 (rd_T42 l0 (kk : Int)).f3 a1 _ _ (HG _ HB.out) hb.out).mono ?_); rintro e w' ⟨rfl, hb'⟩; have HB' := Aside0.mk (below_step HB.out hb'); clear hb')
        go_roundg (l0.length - (kk + 1))
        case measure => have := HF.out; omega
        case rel => exact ⟨kk + 1, by omega, ⟨by omega⟩, by go_num, HA, HB'⟩
    · have hltz : ¬ (kk : Int) < (l0.length : Int) := by omega
      have hr : r = false := anyO.nil HA.out (by omega)
      subst hr
      go_wp2
      go_ret
      exact ⟨_, rfl, by decide, HB.out⟩
set_option maxHeartbeats 2000000 in
theorem impl_ThreadOk_3_any.calls (A0 : Option Addr) (c0 : Nat) (l0 : List S42) (g1 : Nat) (a1 : Int) (r : Bool) (w : World) (hr0 : Kd.C k42 w A0 l0.length l0) (_hc0 : l0.length ≤ c0) (hg1 : w.heap[g1]? = some (.cells #[.int .i64 a1] 3 (0, 0))) (h : impl_ThreadOk_3_any.f l0 a1 = some r) :
    Calls Tryz.prog 116 #[.slice A0 l0.length c0, .func (.func 117) #[] #[.pointer (some ⟨g1, 0, none⟩)]] w fun e w' => e = .returned (.bool r) ∧ Below w.heap.size w w' := by
  have HC := Aside0.mk (impl_ThreadOk_3_idx A0 c0 l0 g1 a1 r w hr0 hg1 h)
  clear hr0 hg1 h
  go_enter Tryz.func116, Tryz.ntmps116
  go_wp2_with (go_at_call 163; refine HC.out.mono ?_; rintro e w' ⟨n, rfl, hn, hb⟩; have HN := Aside0.mk hn; have HB := Aside0.mk hb; clear hn hb)
  go_ret
  exact ⟨by rw [← HN.out]; rfl, HB.out⟩
end Go.Proofs.YtopikhjcbcpiaaaGreat.Q
end
namespace Go.Proofs.YtopikhjcbcpiaaaGreat.Q
open Go.RowKit Go.Proofs.YtopikhjcbcpiaaaGreatW.PrintWords Go.Proofs.YtopikhjcbcpiaaaGreatW.PrintLast Go.Proofs.YtopikhjcbcpiaaaGreatW.PrintMore
attribute [local go_sem] max2_int min2_int max_two min_two max_three min_three max_four min_four   -- for this text's walks alone
set_option linter.unusedVariables false
set_option linter.unusedSimpArgs false
mutual
def impl_MemOk.j0 : Nat → Bool → List (S39) → List (S52) → Option (Bool)
 | 0, _, _, _ => none
 | k + 1, x23, x434000, x434001 => if x23 = true then (some false) else (impl_MemOk.l0 k x434000 (x434000.length : Int) 0 x434000 x434001)
def impl_MemOk.l0 : Nat → List (S39) → Int → Int → List (S39) → List (S52) → Option (Bool)
 | 0, _, _, _, _, _ => none
 | k + 1, x25, x26, x27, x434000, x434001 => if x27 < x26 then (if 0 ≤ x27 then (if x27 < (x25.length : Int) then ((impl_WordOk.f ((rd_T39 x25 x27).f0) ((rd_T39 x25 x27).f1) ((rd_T39 x25 x27).f2) (x434001.length : Int)).bind fun t438 => (if t438 = true then (if ((rd_T39 x25 x27).f1) = 0 then (impl_MemOk.l0 k x25 x26 (wrap64 (x27 + 1)) x434000 x434001) else (if 0 ≤ (wrap64 (((rd_T39 x25 x27).f1) - 1)) then (if (wrap64 (((rd_T39 x25 x27).f1) - 1)) < (x434001.length : Int) then ((impl_Entries.f k ((rd_T52 x434001 (wrap64 (((rd_T39 x25 x27).f1) - 1))).f0) ((rd_T52 x434001 (wrap64 (((rd_T39 x25 x27).f1) - 1))).f1) ((rd_T52 x434001 (wrap64 (((rd_T39 x25 x27).f1) - 1))).f2) ((rd_T52 x434001 (wrap64 (((rd_T39 x25 x27).f1) - 1))).f3.f0) ((rd_T52 x434001 (wrap64 (((rd_T39 x25 x27).f1) - 1))).f3.f1) x27).bind fun bt441 => (if bt441.2.2.2 = true then (if ((rd_T52 x434001 (wrap64 (((rd_T39 x25 x27).f1) - 1))).f0) = ((rd_T39 x25 x27).f2) then (impl_MemOk.l0 k x25 x26 (wrap64 (x27 + 1)) x434000 x434001) else (some false)) else (some false))) else (none)) else (none))) else (some false))) else (none)) else (none)) else (some true)
end
def impl_MemOk.f (k : Nat) (l0_0 : List (S39)) (l0_1 : List (S52)) : Option (Bool) := if (l0_0.length : Int) = 20 then ((impl_from.f (l0_1.length : Int) 1 4).bind fun t434 => (if t434 = true then ((impl_MemOk_1_any.f k l0_1).bind fun t435 => (impl_MemOk.j0 k t435 l0_0 l0_1)) else (impl_MemOk.j0 k true l0_0 l0_1))) else (impl_MemOk.j0 k true l0_0 l0_1)
set_option maxHeartbeats 8000000 in
set_option maxRecDepth 100000 in
theorem impl_MemOk.calls (k : Nat) (A0_0 : Option Addr) (c0_0 : Nat) (l0_0 : List (S39)) (A0_1 : Option Addr) (c0_1 : Nat) (l0_1 : List (S52)) (r : Bool) (w : World) (hr0_0 : Kd.C k39 w A0_0 l0_0.length l0_0) (hc0_0 : l0_0.length ≤ c0_0) (hr0_1 : Kd.C k52 w A0_1 l0_1.length l0_1) (hc0_1 : l0_1.length ≤ c0_1) (h : impl_MemOk.f k l0_0 l0_1 = some r) :
  Calls Tryz.prog 22 #[.agg #[.slice A0_0 l0_0.length c0_0, .slice A0_1 l0_1.length c0_1]] w fun e w' => e = .returned (.bool r) ∧ Below w.heap.size w w' := by
 have hu27 := Tryz.underlying27
 have hu39 := Tryz.underlying39
 have hu52 := Tryz.underlying52
 have hu37 := Tryz.underlying37
 have HR0_0 := Aside0.mk hr0_0
 have HC0_0 := Aside0.mk hc0_0
 clear hr0_0 hc0_0
 have HR0_1 := Aside0.mk hr0_1
 have HC0_1 := Aside0.mk hc0_1
 clear hr0_1 hc0_1
 have HB := Aside0.mk (Below.refl w.heap.size w)
 have H := h
 clear h
 unfold impl_MemOk.f at H
 have HC2 := Aside0.mk H
 clear H
 go_enter Tryz.func22, Tryz.ntmps22
 go_upto_region 1 with (first | ((with_reducible refine gq 1 rfl ?_); (try (refine gate_guard (by rfl) ?_; dsimp only)); refine bx0 HB (N := 1) (t := 27) ?_; clear HB; intro gb433 w3 BK433 GE433 HB))
 (try simp only [Act.put, sA, sB, sC])
 go_cut [23] (fun v23 wc => ∃ (kq : Nat) (x23_1 : Bool), v23 = .bool x23_1 ∧ Aside0 (impl_MemOk.j0 kq x23_1 l0_0 l0_1 = some r) ∧ Aside0 (kq ≤ k) ∧ Aside0 (wc.heap[gb433]? = some (.cells #[(.slice A0_0 l0_0.length c0_0), (.slice A0_1 l0_1.length c0_1)] 27 (0, 0))) ∧ Aside0 (Below w.heap.size w wc))
 case first =>
  have H := HC2.out
  clear HC2
  by_cases c4 : (l0_0.length : Int) = 20
  case neg =>
   rw [if_neg c4] at H
   have c4b0 : ((l0_0.length : Int) == 20) = false := beq_eq_false_iff_ne.mpr c4
   have c4b1 : ((l0_0.length : Int) != 20) = true := bne_iff_ne.mpr c4
   (first | rw [c4b0] | (simp only [i64_w, i32_w]; rw [c4b0]) | skip)
   have H' := Aside0.mk H
   clear H
   have hz11 := cs2_ BK433
   go_wp2
   go_meet
   case rel => exact ⟨_, (true), rsd, H', ⟨by first | omega | exact Nat.le_refl _⟩, ⟨by (with_reducible repeat (first | refine blk_drewN ?_ _ | refine blk_drew ?_ | refine blk_alloc ?_ _)); exact BK433.out⟩, ⟨tb HB⟩⟩
  rw [if_pos c4] at H
  have c4b0 : ((l0_0.length : Int) == 20) = true := beq_iff_eq.mpr c4
  have c4b1 : ((l0_0.length : Int) != 20) = false := bne_eq_false_iff_eq.mpr c4
  clear c4
  (first | rw [c4b0] | (simp only [i64_w, i32_w]; rw [c4b0]) | skip)
  obtain ⟨t434, A5, H⟩ := bn H
  try dsimp only at H
  cases t434
  case false =>
   replace H := ipf H
   have H' := Aside0.mk H
   clear H
   have hz10 := cs2_ BK433
   go_wp2_with (first | (go_at_call 62; (with_reducible refine (impl_from.calls (l0_1.length : Int) 1 4 false _ A5.out).mono ?_); rintro e w' ⟨rfl, ⟨nd, rfl⟩⟩))
   go_meet
   case rel => exact ⟨_, (true), rsd, H', ⟨by first | omega | exact Nat.le_refl _⟩, ⟨by (with_reducible repeat (first | refine blk_drewN ?_ _ | refine blk_drew ?_ | refine blk_alloc ?_ _)); exact BK433.out⟩, ⟨tb HB⟩⟩
  replace H := ipt H
  obtain ⟨t435, A7, H⟩ := bn H
  try dsimp only at H
  have H' := Aside0.mk H
  clear H
  have hz8 := cs2_ BK433
  go_wp2_with (first | (go_at_call 62; (with_reducible refine (impl_from.calls (l0_1.length : Int) 1 4 true _ A5.out).mono ?_); rintro e w' ⟨rfl, ⟨nd, rfl⟩⟩) | (go_at_call 76; (with_reducible refine (impl_MemOk_1_any.calls k _ _ l0_1 t435 _ ?side1 HC0_1.out A7.out).mono ?_); (case side1 => repeat (first | exact (Kd.C_below HR0_1.out (tb HB)) | (with_reducible refine Kd.C_alloc ?_ _) | (with_reducible refine Kd.C_drewN ?_ _) | (with_reducible refine Kd.C_drew ?_))); rintro e w9 ⟨rfl, hb⟩; replace BK433 := bb BK433 hb; replace HB := bs HB hb; (try clear hb)))
  go_meet
  case rel => exact ⟨_, (t435), rsd, H', ⟨by first | omega | exact Nat.le_refl _⟩, ⟨by (with_reducible repeat (first | refine blk_drewN ?_ _ | refine blk_drew ?_ | refine blk_alloc ?_ _)); exact BK433.out⟩, ⟨tb HB⟩⟩
 case rest =>
  clear HC2
  try clear c2
  try clear p2
  try clear c4
  try clear c4b0
  try clear c4b1
  try clear c6
  try clear hz10
  try clear hz11
  try clear hz8
  try clear hz10
  try clear hz11
  try clear hz8
  obtain ⟨kq, x23_1, rfl, HA, HJ1, BK433, HB⟩ := hcut
  cases kq with
  | zero => exact absurd HA.out (by simp [impl_MemOk.j0])
  | succ kj1 =>
   have H := HA.out
   clear HA
   simp only [impl_MemOk.j0] at H
   cases x23_1
   case true =>
    replace H := ipt H
    obtain rfl := oin H
    go_wp2
    go_ret
    exact ⟨er, tb HB⟩
   replace H := ipf H
   have H' := Aside0.mk H
   clear H
   have hz13 := cs2_ BK433
   go_wp2
   go_loopg [27] kj1 (fun kq v27 w' => ∃ (x27_2 : Int), v27 = .int .i64 x27_2 ∧ Aside0 (impl_MemOk.l0 kq l0_0 (l0_0.length : Int) x27_2 l0_0 l0_1 = some r) ∧ Aside0 (kq ≤ kj1) ∧ Aside0 (w'.heap[gb433]? = some (.cells #[(.slice A0_0 l0_0.length c0_0), (.slice A0_1 l0_1.length c0_1)] 27 (0, 0))) ∧ Aside0 (Below w.heap.size w w'))
   case atStart => exact ⟨(0), rsd, H', ⟨Nat.le_refl _⟩, ⟨by (with_reducible repeat (first | refine blk_drewN ?_ _ | refine blk_drew ?_ | refine blk_alloc ?_ _)); exact BK433.out⟩, ⟨tb HB⟩⟩
   case round =>
    clear H'
    try clear c1
    try clear c2
    try clear p2
    try clear c4
    try clear c4b0
    try clear c4b1
    try clear c6
    try clear c12
    try clear hz10
    try clear hz11
    try clear hz13
    try clear hz8
    try clear hz10
    try clear hz11
    try clear hz13
    try clear hz8
    try clear p2
    obtain ⟨x27_2, rfl, HA, HK2, BK433, HB⟩ := hrel
    cases gk with
    | zero => exact absurd HA.out (by simp [impl_MemOk.l0])
    | succ k2 =>
     have H := HA.out
     clear HA
     simp only [impl_MemOk.l0] at H
     revert H; refine icd (fun c14b0 H => ?_) fun c14b0 H => ?neg
     case neg =>
      obtain rfl := oin H
      go_wp2
      go_ret
      exact ⟨er, tb HB⟩
     obtain ⟨c15b0, H⟩ := itd H
     obtain ⟨c16b0, H⟩ := itd H
     obtain ⟨t438, A17, H⟩ := bn H
     try dsimp only at H
     cases t438
     case false =>
      replace H := ipf H
      obtain rfl := oin H
      have p436 : 0 ≤ (x27_2 : Int) := od
      have q436 : x27_2 < (l0_0.length : Int) := od
      obtain ⟨ad436, e436, hx436⟩ := att39 HR0_0.out x27_2 p436 q436
      cases e436
      replace hx436 := ox3 HB hx436
      replace p436 := eq_true p436
      replace q436 := eq_true q436
      go_wp2_with (first | ((with_reducible refine gq 4 rfl ?_); (try (refine gate_guard (by rfl) ?_; dsimp only)); refine bx1 HB BK433 (N := 4) (cs := #[.int .i64 0, .int .i64 0, .int .i64 0]) (t := 39) ?_; clear HB BK433; intro gb437 w87 BK437 GE437 HB NB433_437 NB437_433 BK433; have hnb88 := NB437_433.out; have hnc88 := NB433_437.out; have hz89 := cs3_ BK437; have hz90 := cs2_ BK433) | ((with_reducible refine gf 79 rfl ?_); refine gL 36 Tryz.func79 #[.agg #[.int .i64 ((rd_T39 l0_0 x27_2).f0), .int .i64 ((rd_T39 l0_0 x27_2).f1), .int .i64 ((rd_T39 l0_0 x27_2).f2)], .int .i64 (l0_1.length : Int)] ?_; (with_reducible refine (impl_WordOk.calls ((rd_T39 l0_0 x27_2).f0) ((rd_T39 l0_0 x27_2).f1) ((rd_T39 l0_0 x27_2).f2) (l0_1.length : Int) false _ A17.out).mono ?_); rintro e w91 ⟨rfl, hb⟩; refine ⟨_, rfl, ?_⟩; replace BK433 := bbf BK433 hb; replace BK437 := bbp3 BK437 hb; replace HB := bs HB hb; (try clear hb)))
      go_ret
      exact ⟨er, tb HB⟩
     replace H := ipt H
     by_cases c19 : ((rd_T39 l0_0 x27_2).f1) = 0
     case pos =>
      rw [if_pos c19] at H
      have c19b0 : (((rd_T39 l0_0 x27_2).f1) == 0) = true := beq_iff_eq.mpr c19
      have c19b1 : (((rd_T39 l0_0 x27_2).f1) != 0) = false := bne_eq_false_iff_eq.mpr c19
      clear c19
      have H' := Aside0.mk H
      clear H
      have p436 : 0 ≤ (x27_2 : Int) := od
      have q436 : x27_2 < (l0_0.length : Int) := od
      obtain ⟨ad436, e436, hx436_0, hx436_1, hx436_2⟩ := at_T39 HR0_0.out x27_2 p436 q436
      cases e436
      replace hx436_0 := ox HB hx436_0
      replace hx436_1 := ox HB hx436_1
      replace hx436_2 := ox HB hx436_2
      replace p436 := eq_true p436
      replace q436 := eq_true q436
      go_wp2_with (first | ((with_reducible refine gq 4 rfl ?_); (try (refine gate_guard (by rfl) ?_; dsimp only)); refine bx1 HB BK433 (N := 4) (cs := #[.int .i64 0, .int .i64 0, .int .i64 0]) (t := 39) ?_; clear HB BK433; intro gb437 w20 BK437 GE437 HB NB433_437 NB437_433 BK433; have hnb21 := NB437_433.out; have hnc21 := NB433_437.out; have hz22 := cs3_ BK437; have hz23 := cs2_ BK433) | ((with_reducible refine gf 79 rfl ?_); refine gL 36 Tryz.func79 #[.agg #[.int .i64 ((rd_T39 l0_0 x27_2).f0), .int .i64 ((rd_T39 l0_0 x27_2).f1), .int .i64 ((rd_T39 l0_0 x27_2).f2)], .int .i64 (l0_1.length : Int)] ?_; (with_reducible refine (impl_WordOk.calls ((rd_T39 l0_0 x27_2).f0) ((rd_T39 l0_0 x27_2).f1) ((rd_T39 l0_0 x27_2).f2) (l0_1.length : Int) true _ A17.out).mono ?_); rintro e w24 ⟨rfl, hb⟩; refine ⟨_, rfl, ?_⟩; replace BK433 := bbf BK433 hb; replace BK437 := bbp3 BK437 hb; replace HB := bs HB hb; (try clear hb); have hz25 := cs3_ BK437))
      go_roundg k2
      case measure => have := HJ1.out; have := HK2.out; omega
      case rel => exact ⟨(wrap64 (x27_2 + 1)), rsd, H', ⟨by have := HJ1.out; have := HK2.out; omega⟩, ⟨by (with_reducible repeat (first | refine blk_drewN ?_ _ | refine blk_drew ?_ | refine blk_alloc ?_ _)); exact BK433.out⟩, ⟨tb HB⟩⟩
     rw [if_neg c19] at H
     have c19b0 : (((rd_T39 l0_0 x27_2).f1) == 0) = false := beq_eq_false_iff_ne.mpr c19
     have c19b1 : (((rd_T39 l0_0 x27_2).f1) != 0) = true := bne_iff_ne.mpr c19
     obtain ⟨ji26, hji26⟩ : ∃ j_ : Int, (wrap64 (((rd_T39 l0_0 x27_2).f1) - 1)) = j_ := ⟨_, rfl⟩
     replace H : (if 0 ≤ (ji26) then (if (ji26) < (l0_1.length : Int) then ((impl_Entries.f k2 ((rd_T52 l0_1 (ji26)).f0) ((rd_T52 l0_1 (ji26)).f1) ((rd_T52 l0_1 (ji26)).f2) ((rd_T52 l0_1 (ji26)).f3.f0) ((rd_T52 l0_1 (ji26)).f3.f1) x27_2).bind fun bt441 => (if bt441.2.2.2 = true then (if ((rd_T52 l0_1 (ji26)).f0) = ((rd_T39 l0_0 x27_2).f2) then (impl_MemOk.l0 k2 l0_0 (l0_0.length : Int) (wrap64 (x27_2 + 1)) l0_0 l0_1) else (some false)) else (some false))) else (none)) else (none)) = some r := by first | (rw [hji26] at H; exact H) | (simp only [hji26] at H ⊢; exact H)
     (try rw [hji26] at A17)
     have hji26w : (IntKind.i64.wrap (((rd_T39 l0_0 x27_2).f1) - 1)) = ji26 := (i64_w _).trans hji26
     obtain ⟨c27b0, H⟩ := itd H
     obtain ⟨c28b0, H⟩ := itd H
     obtain ⟨⟨t441, t442, t443, t444⟩, A29, H⟩ := bn H
     try dsimp only at H
     cases t444
     case false =>
      replace H := ipf H
      obtain rfl := oin H
      have p436 : 0 ≤ (x27_2 : Int) := od
      have q436 : x27_2 < (l0_0.length : Int) := od
      obtain ⟨ad436, e436, hx436_0, hx436_1, hx436_2⟩ := at_T39 HR0_0.out x27_2 p436 q436
      cases e436
      replace hx436_0 := ox HB hx436_0
      replace hx436_1 := ox HB hx436_1
      replace hx436_2 := ox HB hx436_2
      replace p436 := eq_true p436
      replace q436 := eq_true q436
      go_wp2_with (first | ((with_reducible refine gq 4 rfl ?_); (try (refine gate_guard (by rfl) ?_; dsimp only)); refine bx1 HB BK433 (N := 4) (cs := #[.int .i64 0, .int .i64 0, .int .i64 0]) (t := 39) ?_; clear HB BK433; intro gb437 w70 BK437 GE437 HB NB433_437 NB437_433 BK433; have hnb71 := NB437_433.out; have hnc71 := NB433_437.out; have hz72 := cs3_ BK437; have hz73 := cs2_ BK433) | ((with_reducible refine gf 79 rfl ?_); refine gL 36 Tryz.func79 #[.agg #[.int .i64 ((rd_T39 l0_0 x27_2).f0), .int .i64 ((rd_T39 l0_0 x27_2).f1), .int .i64 ((rd_T39 l0_0 x27_2).f2)], .int .i64 (l0_1.length : Int)] ?_; (with_reducible refine (impl_WordOk.calls ((rd_T39 l0_0 x27_2).f0) ((rd_T39 l0_0 x27_2).f1) ((rd_T39 l0_0 x27_2).f2) (l0_1.length : Int) true _ A17.out).mono ?_); rintro e w74 ⟨rfl, hb⟩; refine ⟨_, rfl, ?_⟩; replace BK433 := bbf BK433 hb; replace BK437 := bbp3 BK437 hb; replace HB := bs HB hb; (try clear hb); have hz75 := cs3_ BK437; have hz76 := cs2_ BK433; have p439 : 0 ≤ ((ji26) : Int) := od; have q439 : (ji26) < (l0_1.length : Int) := od; obtain ⟨ad439, A439_2, c439_2, A439_4, c439_4, e439, hx439_0, hx439_1, hx439_2, hx439_3, hx439_4, hl439_2, hi439_2, hl439_4, hi439_4⟩ := at_T52 HR0_1.out (ji26) p439 q439; cases e439; replace hx439_0 := ox HB hx439_0; replace hx439_1 := ox HB hx439_1; replace hx439_2 := ox HB hx439_2; replace hx439_3 := ox HB hx439_3; replace hx439_4 := ox HB hx439_4; have HR439_2 := Aside0.mk hi439_2; have HC439_2 := Aside0.mk hl439_2; clear hi439_2 hl439_2; have HR439_4 := Aside0.mk hi439_4; have HC439_4 := Aside0.mk hl439_4; clear hi439_4 hl439_4; replace p439 := eq_true p439; replace q439 := eq_true q439) | ((with_reducible refine gq 5 rfl ?_); (try (refine gate_guard (by rfl) ?_; dsimp only)); refine bx2 HB BK433 BK437 (N := 5) (cs := #[.int .i64 0, .int .i64 0, .slice none 0 0, .int .i64 0, .slice none 0 0]) (t := 52) ?_; clear HB BK433 BK437; intro gb440 w77 BK440 GE440 HB NB433_440 NB440_433 BK433 NB437_440 NB440_437 BK437; have hnb78 := NB440_433.out; have hnc78 := NB433_440.out; have hnb79 := NB440_437.out; have hnc79 := NB437_440.out; have hz80 := cs5_ BK440) | ((with_reducible refine gf 23 rfl ?_); refine goesL_ (some 51) rfl rfl Tryz.func23 (by kernel_rfl) rfl #[.agg #[.int .i64 ((rd_T52 l0_1 (ji26)).f0), .int .i64 ((rd_T52 l0_1 (ji26)).f1), .slice A439_2 ((rd_T52 l0_1 (ji26)).f2).length c439_2, .int .i64 ((rd_T52 l0_1 (ji26)).f3.f0), .slice A439_4 ((rd_T52 l0_1 (ji26)).f3.f1).length c439_4], .int .i64 x27_2] rfl (by (try simp only [List.map_toArray, List.map_cons, List.map_nil]); first | done | (simp only [hji26]; rfl) | rfl | (simp only [List.length_drop, List.length_take]; rfl)) ?_; (with_reducible refine (impl_Entries.calls k2 ((rd_T52 l0_1 (ji26)).f0) ((rd_T52 l0_1 (ji26)).f1) _ _ ((rd_T52 l0_1 (ji26)).f2) ((rd_T52 l0_1 (ji26)).f3.f0) _ _ ((rd_T52 l0_1 (ji26)).f3.f1) x27_2 t441 t442 t443 false _ ?side1 HC439_2.out ?side3 HC439_4.out A29.out).mono ?_); (case side1 => exact Kd.C_below HR439_2.out (tb HB)); (case side3 => exact Kd.C_below HR439_4.out (tb HB)); rintro e w81 ⟨rfl, hb⟩; refine ⟨_, rfl, ?_⟩; replace BK433 := bbf BK433 hb; replace BK437 := bbf BK437 hb; replace BK440 := bbp5 BK440 hb; replace HB := bs HB hb; (try clear hb)) | ((with_reducible refine gq 6 rfl ?_); (try (refine gate_guard (by rfl) ?_; dsimp only)); refine bx3 HB BK433 BK437 BK440 (N := 6) (cs := #[.int .i64 0, .int .i64 0, .int .i64 0]) (t := 37) ?_; clear HB BK433 BK437 BK440; intro gb445 w82 BK445 GE445 HB NB433_445 NB445_433 BK433 NB437_445 NB445_437 BK437 NB440_445 NB445_440 BK440; have hnb83 := NB445_433.out; have hnc83 := NB433_445.out; have hnb84 := NB445_437.out; have hnc84 := NB437_445.out; have hnb85 := NB445_440.out; have hnc85 := NB440_445.out; have hz86 := cs3_ BK445))
      go_ret
      exact ⟨by first | rfl | (simp [errW_none, errW_some] <;> rfl) | (simp only [← hji26]; first | rfl | (simp [errW_none, errW_some] <;> rfl)) | (simp [*, errW_none, errW_some] <;> rfl), tb HB⟩
     replace H := ipt H
     by_cases c31 : ((rd_T52 l0_1 (ji26)).f0) = ((rd_T39 l0_0 x27_2).f2)
     case neg =>
      rw [if_neg c31] at H
      have c31b0 : (((rd_T52 l0_1 (ji26)).f0) == ((rd_T39 l0_0 x27_2).f2)) = false := beq_eq_false_iff_ne.mpr c31
      have c31b1 : (((rd_T52 l0_1 (ji26)).f0) != ((rd_T39 l0_0 x27_2).f2)) = true := bne_iff_ne.mpr c31
      obtain rfl := oin H
      have p436 : 0 ≤ (x27_2 : Int) := od
      have q436 : x27_2 < (l0_0.length : Int) := od
      obtain ⟨ad436, e436, hx436_0, hx436_1, hx436_2⟩ := at_T39 HR0_0.out x27_2 p436 q436
      cases e436
      replace hx436_0 := ox HB hx436_0
      replace hx436_1 := ox HB hx436_1
      replace hx436_2 := ox HB hx436_2
      replace p436 := eq_true p436
      replace q436 := eq_true q436
      go_wp2_with (first | ((with_reducible refine gq 4 rfl ?_); (try (refine gate_guard (by rfl) ?_; dsimp only)); refine bx1 HB BK433 (N := 4) (cs := #[.int .i64 0, .int .i64 0, .int .i64 0]) (t := 39) ?_; clear HB BK433; intro gb437 w51 BK437 GE437 HB NB433_437 NB437_433 BK433; have hnb52 := NB437_433.out; have hnc52 := NB433_437.out; have hz53 := cs3_ BK437; have hz54 := cs2_ BK433) | ((with_reducible refine gf 79 rfl ?_); refine gL 36 Tryz.func79 #[.agg #[.int .i64 ((rd_T39 l0_0 x27_2).f0), .int .i64 ((rd_T39 l0_0 x27_2).f1), .int .i64 ((rd_T39 l0_0 x27_2).f2)], .int .i64 (l0_1.length : Int)] ?_; (with_reducible refine (impl_WordOk.calls ((rd_T39 l0_0 x27_2).f0) ((rd_T39 l0_0 x27_2).f1) ((rd_T39 l0_0 x27_2).f2) (l0_1.length : Int) true _ A17.out).mono ?_); rintro e w55 ⟨rfl, hb⟩; refine ⟨_, rfl, ?_⟩; replace BK433 := bbf BK433 hb; replace BK437 := bbp3 BK437 hb; replace HB := bs HB hb; (try clear hb); have hz56 := cs3_ BK437; have hz57 := cs2_ BK433; have p439 : 0 ≤ ((ji26) : Int) := od; have q439 : (ji26) < (l0_1.length : Int) := od; obtain ⟨ad439, A439_2, c439_2, A439_4, c439_4, e439, hx439_0, hx439_1, hx439_2, hx439_3, hx439_4, hl439_2, hi439_2, hl439_4, hi439_4⟩ := at_T52 HR0_1.out (ji26) p439 q439; cases e439; replace hx439_0 := ox HB hx439_0; replace hx439_1 := ox HB hx439_1; replace hx439_2 := ox HB hx439_2; replace hx439_3 := ox HB hx439_3; replace hx439_4 := ox HB hx439_4; have HR439_2 := Aside0.mk hi439_2; have HC439_2 := Aside0.mk hl439_2; clear hi439_2 hl439_2; have HR439_4 := Aside0.mk hi439_4; have HC439_4 := Aside0.mk hl439_4; clear hi439_4 hl439_4; replace p439 := eq_true p439; replace q439 := eq_true q439) | ((with_reducible refine gq 5 rfl ?_); (try (refine gate_guard (by rfl) ?_; dsimp only)); refine bx2 HB BK433 BK437 (N := 5) (cs := #[.int .i64 0, .int .i64 0, .slice none 0 0, .int .i64 0, .slice none 0 0]) (t := 52) ?_; clear HB BK433 BK437; intro gb440 w58 BK440 GE440 HB NB433_440 NB440_433 BK433 NB437_440 NB440_437 BK437; have hnb59 := NB440_433.out; have hnc59 := NB433_440.out; have hnb60 := NB440_437.out; have hnc60 := NB437_440.out; have hz61 := cs5_ BK440) | ((with_reducible refine gf 23 rfl ?_); refine goesL_ (some 51) rfl rfl Tryz.func23 (by kernel_rfl) rfl #[.agg #[.int .i64 ((rd_T52 l0_1 (ji26)).f0), .int .i64 ((rd_T52 l0_1 (ji26)).f1), .slice A439_2 ((rd_T52 l0_1 (ji26)).f2).length c439_2, .int .i64 ((rd_T52 l0_1 (ji26)).f3.f0), .slice A439_4 ((rd_T52 l0_1 (ji26)).f3.f1).length c439_4], .int .i64 x27_2] rfl (by (try simp only [List.map_toArray, List.map_cons, List.map_nil]); first | done | (simp only [hji26]; rfl) | rfl | (simp only [List.length_drop, List.length_take]; rfl)) ?_; (with_reducible refine (impl_Entries.calls k2 ((rd_T52 l0_1 (ji26)).f0) ((rd_T52 l0_1 (ji26)).f1) _ _ ((rd_T52 l0_1 (ji26)).f2) ((rd_T52 l0_1 (ji26)).f3.f0) _ _ ((rd_T52 l0_1 (ji26)).f3.f1) x27_2 t441 t442 t443 true _ ?side1 HC439_2.out ?side3 HC439_4.out A29.out).mono ?_); (case side1 => exact Kd.C_below HR439_2.out (tb HB)); (case side3 => exact Kd.C_below HR439_4.out (tb HB)); rintro e w62 ⟨rfl, hb⟩; refine ⟨_, rfl, ?_⟩; replace BK433 := bbf BK433 hb; replace BK437 := bbf BK437 hb; replace BK440 := bbp5 BK440 hb; replace HB := bs HB hb; (try clear hb)) | ((with_reducible refine gq 6 rfl ?_); (try (refine gate_guard (by rfl) ?_; dsimp only)); refine bx3 HB BK433 BK437 BK440 (N := 6) (cs := #[.int .i64 0, .int .i64 0, .int .i64 0]) (t := 37) ?_; clear HB BK433 BK437 BK440; intro gb445 w63 BK445 GE445 HB NB433_445 NB445_433 BK433 NB437_445 NB445_437 BK437 NB440_445 NB445_440 BK440; have hnb64 := NB445_433.out; have hnc64 := NB433_445.out; have hnb65 := NB445_437.out; have hnc65 := NB437_445.out; have hnb66 := NB445_440.out; have hnc66 := NB440_445.out; have hz67 := cs3_ BK445; have hz68 := cs5_ BK440; have hz69 := cs3_ BK437))
      go_ret
      exact ⟨by first | rfl | (simp [errW_none, errW_some] <;> rfl) | (simp only [← hji26]; first | rfl | (simp [errW_none, errW_some] <;> rfl)) | (simp [*, errW_none, errW_some] <;> rfl), tb HB⟩
     rw [if_pos c31] at H
     have c31b0 : (((rd_T52 l0_1 (ji26)).f0) == ((rd_T39 l0_0 x27_2).f2)) = true := beq_iff_eq.mpr c31
     have c31b1 : (((rd_T52 l0_1 (ji26)).f0) != ((rd_T39 l0_0 x27_2).f2)) = false := bne_eq_false_iff_eq.mpr c31
     clear c31
     have H' := Aside0.mk H
     clear H
     have p436 : 0 ≤ (x27_2 : Int) := od
     have q436 : x27_2 < (l0_0.length : Int) := od
     obtain ⟨ad436, e436, hx436_0, hx436_1, hx436_2⟩ := at_T39 HR0_0.out x27_2 p436 q436
     cases e436
     replace hx436_0 := ox HB hx436_0
     replace hx436_1 := ox HB hx436_1
     replace hx436_2 := ox HB hx436_2
     replace p436 := eq_true p436
     replace q436 := eq_true q436
     go_wp2_with (first | ((with_reducible refine gq 4 rfl ?_); (try (refine gate_guard (by rfl) ?_; dsimp only)); refine bx1 HB BK433 (N := 4) (cs := #[.int .i64 0, .int .i64 0, .int .i64 0]) (t := 39) ?_; clear HB BK433; intro gb437 w32 BK437 GE437 HB NB433_437 NB437_433 BK433; have hnb33 := NB437_433.out; have hnc33 := NB433_437.out; have hz34 := cs3_ BK437; have hz35 := cs2_ BK433) | ((with_reducible refine gf 79 rfl ?_); refine gL 36 Tryz.func79 #[.agg #[.int .i64 ((rd_T39 l0_0 x27_2).f0), .int .i64 ((rd_T39 l0_0 x27_2).f1), .int .i64 ((rd_T39 l0_0 x27_2).f2)], .int .i64 (l0_1.length : Int)] ?_; (with_reducible refine (impl_WordOk.calls ((rd_T39 l0_0 x27_2).f0) ((rd_T39 l0_0 x27_2).f1) ((rd_T39 l0_0 x27_2).f2) (l0_1.length : Int) true _ A17.out).mono ?_); rintro e w36 ⟨rfl, hb⟩; refine ⟨_, rfl, ?_⟩; replace BK433 := bbf BK433 hb; replace BK437 := bbp3 BK437 hb; replace HB := bs HB hb; (try clear hb); have hz37 := cs3_ BK437; have hz38 := cs2_ BK433; have p439 : 0 ≤ ((ji26) : Int) := od; have q439 : (ji26) < (l0_1.length : Int) := od; obtain ⟨ad439, A439_2, c439_2, A439_4, c439_4, e439, hx439_0, hx439_1, hx439_2, hx439_3, hx439_4, hl439_2, hi439_2, hl439_4, hi439_4⟩ := at_T52 HR0_1.out (ji26) p439 q439; cases e439; replace hx439_0 := ox HB hx439_0; replace hx439_1 := ox HB hx439_1; replace hx439_2 := ox HB hx439_2; replace hx439_3 := ox HB hx439_3; replace hx439_4 := ox HB hx439_4; have HR439_2 := Aside0.mk hi439_2; have HC439_2 := Aside0.mk hl439_2; clear hi439_2 hl439_2; have HR439_4 := Aside0.mk hi439_4; have HC439_4 := Aside0.mk hl439_4; clear hi439_4 hl439_4; replace p439 := eq_true p439; replace q439 := eq_true q439) | ((with_reducible refine gq 5 rfl ?_); (try (refine gate_guard (by rfl) ?_; dsimp only)); refine bx2 HB BK433 BK437 (N := 5) (cs := #[.int .i64 0, .int .i64 0, .slice none 0 0, .int .i64 0, .slice none 0 0]) (t := 52) ?_; clear HB BK433 BK437; intro gb440 w39 BK440 GE440 HB NB433_440 NB440_433 BK433 NB437_440 NB440_437 BK437; have hnb40 := NB440_433.out; have hnc40 := NB433_440.out; have hnb41 := NB440_437.out; have hnc41 := NB437_440.out; have hz42 := cs5_ BK440) | ((with_reducible refine gf 23 rfl ?_); refine goesL_ (some 51) rfl rfl Tryz.func23 (by kernel_rfl) rfl #[.agg #[.int .i64 ((rd_T52 l0_1 (ji26)).f0), .int .i64 ((rd_T52 l0_1 (ji26)).f1), .slice A439_2 ((rd_T52 l0_1 (ji26)).f2).length c439_2, .int .i64 ((rd_T52 l0_1 (ji26)).f3.f0), .slice A439_4 ((rd_T52 l0_1 (ji26)).f3.f1).length c439_4], .int .i64 x27_2] rfl (by (try simp only [List.map_toArray, List.map_cons, List.map_nil]); first | done | (simp only [hji26]; rfl) | rfl | (simp only [List.length_drop, List.length_take]; rfl)) ?_; (with_reducible refine (impl_Entries.calls k2 ((rd_T52 l0_1 (ji26)).f0) ((rd_T52 l0_1 (ji26)).f1) _ _ ((rd_T52 l0_1 (ji26)).f2) ((rd_T52 l0_1 (ji26)).f3.f0) _ _ ((rd_T52 l0_1 (ji26)).f3.f1) x27_2 t441 t442 t443 true _ ?side1 HC439_2.out ?side3 HC439_4.out A29.out).mono ?_); (case side1 => exact Kd.C_below HR439_2.out (tb HB)); (case side3 => exact Kd.C_below HR439_4.out (tb HB)); rintro e w43 ⟨rfl, hb⟩; refine ⟨_, rfl, ?_⟩; replace BK433 := bbf BK433 hb; replace BK437 := bbf BK437 hb; replace BK440 := bbp5 BK440 hb; replace HB := bs HB hb; (try clear hb)) | ((with_reducible refine gq 6 rfl ?_); (try (refine gate_guard (by rfl) ?_; dsimp only)); refine bx3 HB BK433 BK437 BK440 (N := 6) (cs := #[.int .i64 0, .int .i64 0, .int .i64 0]) (t := 37) ?_; clear HB BK433 BK437 BK440; intro gb445 w44 BK445 GE445 HB NB433_445 NB445_433 BK433 NB437_445 NB445_437 BK437 NB440_445 NB445_440 BK440; have hnb45 := NB445_433.out; have hnc45 := NB433_445.out; have hnb46 := NB445_437.out; have hnc46 := NB437_445.out; have hnb47 := NB445_440.out; have hnc47 := NB440_445.out; have hz48 := cs3_ BK445; have hz49 := cs5_ BK440; have hz50 := cs3_ BK437))
     go_roundg k2
     case measure => have := HJ1.out; have := HK2.out; omega
     case rel => exact ⟨(wrap64 (x27_2 + 1)), rsd, H', ⟨by have := HJ1.out; have := HK2.out; omega⟩, ⟨bf BK433⟩, ⟨tb HB⟩⟩
mutual
def impl_ThreadOk.j0 : Nat → Bool → List (S132) → Int → Bool → List (S145) → List (S42) → Int → Option (Bool)
 | 0, _, _, _, _, _, _, _ => none
 | k + 1, x46, x461000, x461001, x461002, x461003, x461004, x462000 => if x46 = true then (some false) else (if x461002 = true then (impl_ThreadOk.j1 k false x461000 x461001 x461002 x461003 x461004 x462000) else (impl_ThreadOk.j1 k (decide ((wrap64 ((x461003.length : Int) + (x461004.length : Int))) > 0)) x461000 x461001 x461002 x461003 x461004 x462000))
def impl_ThreadOk.j1 : Nat → Bool → List (S132) → Int → Bool → List (S145) → List (S42) → Int → Option (Bool)
 | 0, _, _, _, _, _, _, _ => none
 | k + 1, x59, x461000, x461001, x461002, x461003, x461004, x462000 => if x59 = true then (some false) else ((impl_ThreadOk_2_any.f x461003).bind fun t464 => (if t464 = true then (some false) else ((impl_ThreadOk_3_any.f x461004 x462000).bind fun t465 => (some (!t465)))))
end
def impl_ThreadOk.f (k : Nat) (l0_0 : List (S132)) (a0_1 : Int) (a0_2 : Bool) (l0_3 : List (S145)) (l0_4 : List (S42)) (a1 : Int) : Option (Bool) := if (l0_0.length : Int) > 8 then (impl_ThreadOk.j0 k true l0_0 a0_1 a0_2 l0_3 l0_4 a1) else ((impl_ThreadOk_1_any.f k l0_0).bind fun t462 => (if t462 = true then (impl_ThreadOk.j0 k true l0_0 a0_1 a0_2 l0_3 l0_4 a1) else ((impl_from.f a0_1 0 (l0_0.length : Int)).bind fun t463 => (if t463 = true then (if a0_2 = true then (if a0_1 = (l0_0.length : Int) then (impl_ThreadOk.j0 k true l0_0 a0_1 a0_2 l0_3 l0_4 a1) else (if (l0_3.length : Int) > 12 then (impl_ThreadOk.j0 k true l0_0 a0_1 a0_2 l0_3 l0_4 a1) else (impl_ThreadOk.j0 k (decide ((l0_4.length : Int) > 2)) l0_0 a0_1 a0_2 l0_3 l0_4 a1))) else (if (l0_3.length : Int) > 12 then (impl_ThreadOk.j0 k true l0_0 a0_1 a0_2 l0_3 l0_4 a1) else (impl_ThreadOk.j0 k (decide ((l0_4.length : Int) > 2)) l0_0 a0_1 a0_2 l0_3 l0_4 a1))) else (impl_ThreadOk.j0 k true l0_0 a0_1 a0_2 l0_3 l0_4 a1)))))
set_option maxHeartbeats 8000000 in
set_option maxRecDepth 100000 in
theorem impl_ThreadOk.calls (k : Nat) (A0_0 : Option Addr) (c0_0 : Nat) (l0_0 : List (S132)) (a0_1 : Int) (a0_2 : Bool) (A0_3 : Option Addr) (c0_3 : Nat) (l0_3 : List (S145)) (A0_4 : Option Addr) (c0_4 : Nat) (l0_4 : List (S42)) (a1 : Int) (r : Bool) (w : World) (hr0_0 : Kd.C k132 w A0_0 l0_0.length l0_0) (hc0_0 : l0_0.length ≤ c0_0) (hr0_3 : Kd.C k145 w A0_3 l0_3.length l0_3) (hc0_3 : l0_3.length ≤ c0_3) (hr0_4 : Kd.C k42 w A0_4 l0_4.length l0_4) (hc0_4 : l0_4.length ≤ c0_4) (h : impl_ThreadOk.f k l0_0 a0_1 a0_2 l0_3 l0_4 a1 = some r) :
  Calls Tryz.prog 47 #[.agg #[.slice A0_0 l0_0.length c0_0, .int .i64 a0_1, .bool a0_2, .slice A0_3 l0_3.length c0_3, .slice A0_4 l0_4.length c0_4], .int .i64 a1] w fun e w' => e = .returned (.bool r) ∧ Below w.heap.size w w' := by
 have hu82 := Tryz.underlying82
 have HR0_0 := Aside0.mk hr0_0
 have HC0_0 := Aside0.mk hc0_0
 clear hr0_0 hc0_0
 have HR0_3 := Aside0.mk hr0_3
 have HC0_3 := Aside0.mk hc0_3
 clear hr0_3 hc0_3
 have HR0_4 := Aside0.mk hr0_4
 have HC0_4 := Aside0.mk hc0_4
 clear hr0_4 hc0_4
 have HB := Aside0.mk (Below.refl w.heap.size w)
 have H := h
 clear h
 unfold impl_ThreadOk.f at H
 have HC3 := Aside0.mk H
 clear H
 go_enter Tryz.func47, Tryz.ntmps47
 go_upto_region 1 with (first | ((with_reducible refine gq 2 rfl ?_); (try (refine gate_guard (by rfl) ?_; dsimp only)); refine bx0 HB (N := 2) (t := 82) ?_; clear HB; intro gb460 w4 BK460 GE460 HB) | ((with_reducible refine gq 3 rfl ?_); (try (refine gate_guard (by rfl) ?_; dsimp only)); refine bx1 HB BK460 (N := 3) (t := 3) ?_; clear HB BK460; intro gb461 w5 BK461 GE461 HB NB460_461 NB461_460 BK460))
 (try simp only [Act.put, sA, sB, sC])
 go_cut [46] (fun v46 wc => ∃ (kq : Nat) (x46_2 : Bool), v46 = .bool x46_2 ∧ Aside0 (impl_ThreadOk.j0 kq x46_2 l0_0 a0_1 a0_2 l0_3 l0_4 a1 = some r) ∧ Aside0 (kq ≤ k) ∧ Aside0 (wc.heap[gb460]? = some (.cells #[(.slice A0_0 l0_0.length c0_0), .int .i64 a0_1, .bool a0_2, (.slice A0_3 l0_3.length c0_3), (.slice A0_4 l0_4.length c0_4)] 82 (0, 0))) ∧ Aside0 (wc.heap[gb461]? = some (.cells #[.int .i64 a1] 3 (0, 0))) ∧ Aside0 (Below w.heap.size w wc))
 case first =>
  have H := HC3.out
  clear HC3
  by_cases c6 : (l0_0.length : Int) > 8
  case pos =>
   rw [if_pos c6] at H
   have c6b0 := decide_eq_true c6
   have c6b1 : decide (8 < l0_0.length) = true := decide_eq_true (by omega)
   clear c6
   (first | rw [c6b0] | (simp only [i64_w, i32_w]; rw [c6b0]) | skip)
   have H' := Aside0.mk H
   clear H
   have hnb7 := NB460_461.out
   have hnc7 := NB461_460.out
   have hz8 := cs5_ BK460
   go_wp2
   go_meet
   case rel => exact ⟨_, (true), rsd, H', ⟨by first | omega | exact Nat.le_refl _⟩, ⟨by (with_reducible repeat (first | refine blk_drewN ?_ _ | refine blk_drew ?_ | refine blk_alloc ?_ _)); exact BK460.out⟩, ⟨by (with_reducible repeat (first | refine blk_drewN ?_ _ | refine blk_drew ?_ | refine blk_alloc ?_ _)); exact BK461.out⟩, ⟨tb HB⟩⟩
  rw [if_neg c6] at H
  have c6b0 := decide_eq_false c6
  have c6b1 : decide (8 < l0_0.length) = false := decide_eq_false (by omega)
  clear c6
  (first | rw [c6b0] | (simp only [i64_w, i32_w]; rw [c6b0]) | skip)
  obtain ⟨t462, A9, H⟩ := bn H
  try dsimp only at H
  cases t462
  case true =>
   replace H := ipt H
   have H' := Aside0.mk H
   clear H
   have hnb11 := NB460_461.out
   have hnc11 := NB461_460.out
   have hz12 := cs5_ BK460
   go_wp2_with (first | (go_at_call 110; (with_reducible refine (impl_ThreadOk_1_any.calls k _ _ l0_0 true _ (kc HR0_0 HB) HC0_0.out A9.out).mono ?_); rintro e w13 ⟨rfl, hb⟩; replace BK460 := bb BK460 hb; replace BK461 := bb BK461 hb; replace HB := bs HB hb; (try clear hb)))
   go_meet
   case rel => exact ⟨_, (true), rsd, H', ⟨by first | omega | exact Nat.le_refl _⟩, ⟨by (with_reducible repeat (first | refine blk_drewN ?_ _ | refine blk_drew ?_ | refine blk_alloc ?_ _)); exact BK460.out⟩, ⟨by (with_reducible repeat (first | refine blk_drewN ?_ _ | refine blk_drew ?_ | refine blk_alloc ?_ _)); exact BK461.out⟩, ⟨tb HB⟩⟩
  replace H := ipf H
  obtain ⟨t463, A14, H⟩ := bn H
  try dsimp only at H
  cases t463
  case false =>
   replace H := ipf H
   have H' := Aside0.mk H
   clear H
   have hnb40 := NB460_461.out
   have hnc40 := NB461_460.out
   have hz41 := cs5_ BK460
   go_wp2_with (first | (go_at_call 110; (with_reducible refine (impl_ThreadOk_1_any.calls k _ _ l0_0 false _ (kc HR0_0 HB) HC0_0.out A9.out).mono ?_); rintro e w42 ⟨rfl, hb⟩; replace BK460 := bb BK460 hb; replace BK461 := bb BK461 hb; replace HB := bs HB hb; (try clear hb); have hz43 := cs5_ BK460) | (go_at_call 62; (with_reducible refine (impl_from.calls a0_1 0 (l0_0.length : Int) false _ A14.out).mono ?_); rintro e w' ⟨rfl, ⟨nd, rfl⟩⟩))
   go_meet
   case rel => exact ⟨_, (true), rsd, H', ⟨by first | omega | exact Nat.le_refl _⟩, ⟨by (with_reducible repeat (first | refine blk_drewN ?_ _ | refine blk_drew ?_ | refine blk_alloc ?_ _)); exact BK460.out⟩, ⟨by (with_reducible repeat (first | refine blk_drewN ?_ _ | refine blk_drew ?_ | refine blk_alloc ?_ _)); exact BK461.out⟩, ⟨tb HB⟩⟩
  replace H := ipt H
  cases a0_2
  case false =>
   replace H := ipf H
   by_cases c31 : (l0_3.length : Int) > 12
   case neg =>
    rw [if_neg c31] at H
    have c31b0 := decide_eq_false c31
    have c31b1 : decide (12 < l0_3.length) = false := decide_eq_false (by omega)
    clear c31
    have H' := Aside0.mk H
    clear H
    have hnb36 := NB460_461.out
    have hnc36 := NB461_460.out
    have hz37 := cs5_ BK460
    go_wp2_with (first | (go_at_call 110; (with_reducible refine (impl_ThreadOk_1_any.calls k _ _ l0_0 false _ (kc HR0_0 HB) HC0_0.out A9.out).mono ?_); rintro e w38 ⟨rfl, hb⟩; replace BK460 := bb BK460 hb; replace BK461 := bb BK461 hb; replace HB := bs HB hb; (try clear hb); have hz39 := cs5_ BK460) | (go_at_call 62; (with_reducible refine (impl_from.calls a0_1 0 (l0_0.length : Int) true _ A14.out).mono ?_); rintro e w' ⟨rfl, ⟨nd, rfl⟩⟩))
    go_meet
    case rel => exact ⟨_, (decide ((l0_4.length : Int) > 2)), rsd, H', ⟨by first | omega | exact Nat.le_refl _⟩, ⟨by (with_reducible repeat (first | refine blk_drewN ?_ _ | refine blk_drew ?_ | refine blk_alloc ?_ _)); exact BK460.out⟩, ⟨by (with_reducible repeat (first | refine blk_drewN ?_ _ | refine blk_drew ?_ | refine blk_alloc ?_ _)); exact BK461.out⟩, ⟨tb HB⟩⟩
   rw [if_pos c31] at H
   have c31b0 := decide_eq_true c31
   have c31b1 : decide (12 < l0_3.length) = true := decide_eq_true (by omega)
   clear c31
   have H' := Aside0.mk H
   clear H
   have hnb32 := NB460_461.out
   have hnc32 := NB461_460.out
   have hz33 := cs5_ BK460
   go_wp2_with (first | (go_at_call 110; (with_reducible refine (impl_ThreadOk_1_any.calls k _ _ l0_0 false _ (kc HR0_0 HB) HC0_0.out A9.out).mono ?_); rintro e w34 ⟨rfl, hb⟩; replace BK460 := bb BK460 hb; replace BK461 := bb BK461 hb; replace HB := bs HB hb; (try clear hb); have hz35 := cs5_ BK460) | (go_at_call 62; (with_reducible refine (impl_from.calls a0_1 0 (l0_0.length : Int) true _ A14.out).mono ?_); rintro e w' ⟨rfl, ⟨nd, rfl⟩⟩))
   go_meet
   case rel => exact ⟨_, (true), rsd, H', ⟨by first | omega | exact Nat.le_refl _⟩, ⟨by (with_reducible repeat (first | refine blk_drewN ?_ _ | refine blk_drew ?_ | refine blk_alloc ?_ _)); exact BK460.out⟩, ⟨by (with_reducible repeat (first | refine blk_drewN ?_ _ | refine blk_drew ?_ | refine blk_alloc ?_ _)); exact BK461.out⟩, ⟨tb HB⟩⟩
  replace H := ipt H
  by_cases c17 : a0_1 = (l0_0.length : Int)
  case pos =>
   rw [if_pos c17] at H
   have c17b0 : (a0_1 == (l0_0.length : Int)) = true := beq_iff_eq.mpr c17
   have c17b1 : (a0_1 != (l0_0.length : Int)) = false := bne_eq_false_iff_eq.mpr c17
   clear c17
   have H' := Aside0.mk H
   clear H
   have hnb18 := NB460_461.out
   have hnc18 := NB461_460.out
   have hz19 := cs5_ BK460
   go_wp2_with (first | (go_at_call 110; (with_reducible refine (impl_ThreadOk_1_any.calls k _ _ l0_0 false _ (kc HR0_0 HB) HC0_0.out A9.out).mono ?_); rintro e w20 ⟨rfl, hb⟩; replace BK460 := bb BK460 hb; replace BK461 := bb BK461 hb; replace HB := bs HB hb; (try clear hb); have hz21 := cs5_ BK460) | (go_at_call 62; (with_reducible refine (impl_from.calls a0_1 0 (l0_0.length : Int) true _ A14.out).mono ?_); rintro e w' ⟨rfl, ⟨nd, rfl⟩⟩))
   go_meet
   case rel => exact ⟨_, (true), rsd, H', ⟨by first | omega | exact Nat.le_refl _⟩, ⟨by (with_reducible repeat (first | refine blk_drewN ?_ _ | refine blk_drew ?_ | refine blk_alloc ?_ _)); exact BK460.out⟩, ⟨by (with_reducible repeat (first | refine blk_drewN ?_ _ | refine blk_drew ?_ | refine blk_alloc ?_ _)); exact BK461.out⟩, ⟨tb HB⟩⟩
  rw [if_neg c17] at H
  have c17b0 : (a0_1 == (l0_0.length : Int)) = false := beq_eq_false_iff_ne.mpr c17
  have c17b1 : (a0_1 != (l0_0.length : Int)) = true := bne_iff_ne.mpr c17
  by_cases c22 : (l0_3.length : Int) > 12
  case neg =>
   rw [if_neg c22] at H
   have c22b0 := decide_eq_false c22
   have c22b1 : decide (12 < l0_3.length) = false := decide_eq_false (by omega)
   clear c22
   have H' := Aside0.mk H
   clear H
   have hnb27 := NB460_461.out
   have hnc27 := NB461_460.out
   have hz28 := cs5_ BK460
   go_wp2_with (first | (go_at_call 110; (with_reducible refine (impl_ThreadOk_1_any.calls k _ _ l0_0 false _ (kc HR0_0 HB) HC0_0.out A9.out).mono ?_); rintro e w29 ⟨rfl, hb⟩; replace BK460 := bb BK460 hb; replace BK461 := bb BK461 hb; replace HB := bs HB hb; (try clear hb); have hz30 := cs5_ BK460) | (go_at_call 62; (with_reducible refine (impl_from.calls a0_1 0 (l0_0.length : Int) true _ A14.out).mono ?_); rintro e w' ⟨rfl, ⟨nd, rfl⟩⟩))
   go_meet
   case rel => exact ⟨_, (decide ((l0_4.length : Int) > 2)), rsd, H', ⟨by first | omega | exact Nat.le_refl _⟩, ⟨by (with_reducible repeat (first | refine blk_drewN ?_ _ | refine blk_drew ?_ | refine blk_alloc ?_ _)); exact BK460.out⟩, ⟨by (with_reducible repeat (first | refine blk_drewN ?_ _ | refine blk_drew ?_ | refine blk_alloc ?_ _)); exact BK461.out⟩, ⟨tb HB⟩⟩
  rw [if_pos c22] at H
  have c22b0 := decide_eq_true c22
  have c22b1 : decide (12 < l0_3.length) = true := decide_eq_true (by omega)
  clear c22
  have H' := Aside0.mk H
  clear H
  have hnb23 := NB460_461.out
  have hnc23 := NB461_460.out
  have hz24 := cs5_ BK460
  go_wp2_with (first | (go_at_call 110; (with_reducible refine (impl_ThreadOk_1_any.calls k _ _ l0_0 false _ (kc HR0_0 HB) HC0_0.out A9.out).mono ?_); rintro e w25 ⟨rfl, hb⟩; replace BK460 := bb BK460 hb; replace BK461 := bb BK461 hb; replace HB := bs HB hb; (try clear hb); have hz26 := cs5_ BK460) | (go_at_call 62; (with_reducible refine (impl_from.calls a0_1 0 (l0_0.length : Int) true _ A14.out).mono ?_); rintro e w' ⟨rfl, ⟨nd, rfl⟩⟩))
  go_meet
  case rel => exact ⟨_, (true), rsd, H', ⟨by first | omega | exact Nat.le_refl _⟩, ⟨by (with_reducible repeat (first | refine blk_drewN ?_ _ | refine blk_drew ?_ | refine blk_alloc ?_ _)); exact BK460.out⟩, ⟨by (with_reducible repeat (first | refine blk_drewN ?_ _ | refine blk_drew ?_ | refine blk_alloc ?_ _)); exact BK461.out⟩, ⟨tb HB⟩⟩
 case rest =>
  clear HC3
  try clear c1
  try clear c2
  try clear p2
  try clear c3
  try clear c4
  try clear c6
  try clear c6b0
  try clear c6b1
  try clear c7
  try clear c10
  try clear c11
  try clear c15
  try clear c16
  try clear c17
  try clear c17b0
  try clear c17b1
  try clear c18
  try clear c22
  try clear c22b0
  try clear c22b1
  try clear c23
  try clear c27
  try clear c31
  try clear c31b0
  try clear c31b1
  try clear c32
  try clear c36
  try clear c40
  try clear hz12
  try clear hz19
  try clear hz21
  try clear hz24
  try clear hz26
  try clear hz28
  try clear hz30
  try clear hz33
  try clear hz35
  try clear hz37
  try clear hz39
  try clear hz41
  try clear hz43
  try clear hz8
  try clear hz12
  try clear hz19
  try clear hz21
  try clear hz24
  try clear hz26
  try clear hz28
  try clear hz30
  try clear hz33
  try clear hz35
  try clear hz37
  try clear hz39
  try clear hz41
  try clear hz43
  try clear hz8
  obtain ⟨kq, x46_2, rfl, HA, HJ2, BK460, BK461, HB⟩ := hcut
  cases kq with
  | zero => exact absurd HA.out (by simp [impl_ThreadOk.j0])
  | succ kj2 =>
   have H := HA.out
   clear HA
   simp only [impl_ThreadOk.j0] at H
   cases x46_2
   case true =>
    replace H := ipt H
    obtain rfl := oin H
    go_wp2
    go_ret
    exact ⟨er, tb HB⟩
   replace H := ipf H
   have HC45 := Aside0.mk H
   clear H
   go_upto_region 3 with (fail)
   go_cut [59] (fun v59 wc => ∃ (kq : Nat) (x59_44 : Bool), v59 = .bool x59_44 ∧ Aside0 (impl_ThreadOk.j1 kq x59_44 l0_0 a0_1 a0_2 l0_3 l0_4 a1 = some r) ∧ Aside0 (kq ≤ kj2) ∧ Aside0 (wc.heap[gb460]? = some (.cells #[(.slice A0_0 l0_0.length c0_0), .int .i64 a0_1, .bool a0_2, (.slice A0_3 l0_3.length c0_3), (.slice A0_4 l0_4.length c0_4)] 82 (0, 0))) ∧ Aside0 (wc.heap[gb461]? = some (.cells #[.int .i64 a1] 3 (0, 0))) ∧ Aside0 (Below w.heap.size w wc))
   case first =>
    have H := HC45.out
    clear HC45
    cases a0_2
    case true =>
     replace H := ipt H
     have H' := Aside0.mk H
     clear H
     have hnb47 := NB460_461.out
     have hnc47 := NB461_460.out
     have hz48 := cs5_ BK460
     go_wp2
     go_meet
     case rel => exact ⟨_, (false), rsd, H', ⟨by have := HJ2.out; first | omega | exact Nat.le_refl _⟩, ⟨by (with_reducible repeat (first | refine blk_drewN ?_ _ | refine blk_drew ?_ | refine blk_alloc ?_ _)); exact BK460.out⟩, ⟨by (with_reducible repeat (first | refine blk_drewN ?_ _ | refine blk_drew ?_ | refine blk_alloc ?_ _)); exact BK461.out⟩, ⟨tb HB⟩⟩
    replace H := ipf H
    have H' := Aside0.mk H
    clear H
    have hnb49 := NB460_461.out
    have hnc49 := NB461_460.out
    have hz50 := cs5_ BK460
    go_wp2
    go_meet
    case rel => exact ⟨_, (decide ((wrap64 ((l0_3.length : Int) + (l0_4.length : Int))) > 0)), rsd, H', ⟨by have := HJ2.out; first | omega | exact Nat.le_refl _⟩, ⟨by (with_reducible repeat (first | refine blk_drewN ?_ _ | refine blk_drew ?_ | refine blk_alloc ?_ _)); exact BK460.out⟩, ⟨by (with_reducible repeat (first | refine blk_drewN ?_ _ | refine blk_drew ?_ | refine blk_alloc ?_ _)); exact BK461.out⟩, ⟨tb HB⟩⟩
   case rest =>
    clear HC45
    try clear c1
    try clear c2
    try clear p2
    try clear c3
    try clear c4
    try clear c6
    try clear c6b0
    try clear c6b1
    try clear p6
    try clear c7
    try clear c10
    try clear c11
    try clear c15
    try clear c16
    try clear c17
    try clear c17b0
    try clear c17b1
    try clear c18
    try clear c22
    try clear c22b0
    try clear c22b1
    try clear c23
    try clear c27
    try clear c31
    try clear c31b0
    try clear c31b1
    try clear c32
    try clear c36
    try clear c40
    try clear c44
    try clear c46
    try clear c47
    try clear c49
    try clear hz12
    try clear hz19
    try clear hz21
    try clear hz24
    try clear hz26
    try clear hz28
    try clear hz30
    try clear hz33
    try clear hz35
    try clear hz37
    try clear hz39
    try clear hz41
    try clear hz43
    try clear hz48
    try clear hz50
    try clear hz8
    try clear hz12
    try clear hz19
    try clear hz21
    try clear hz24
    try clear hz26
    try clear hz28
    try clear hz30
    try clear hz33
    try clear hz35
    try clear hz37
    try clear hz39
    try clear hz41
    try clear hz43
    try clear hz48
    try clear hz50
    try clear hz8
    try clear p2
    obtain ⟨kq, x59_44, rfl, HA, HJ44, BK460, BK461, HB⟩ := hcut
    cases kq with
    | zero => exact absurd HA.out (by simp [impl_ThreadOk.j1])
    | succ kj44 =>
     have H := HA.out
     clear HA
     simp only [impl_ThreadOk.j1] at H
     cases x59_44
     case true =>
      replace H := ipt H
      obtain rfl := oin H
      go_wp2
      go_ret
      exact ⟨er, tb HB⟩
     replace H := ipf H
     obtain ⟨t464, A52, H⟩ := bn H
     try dsimp only at H
     cases t464
     case true =>
      replace H := ipt H
      obtain rfl := oin H
      have hnb54 := NB460_461.out
      have hnc54 := NB461_460.out
      have hz55 := cs5_ BK460
      go_wp2_with (first | ((with_reducible refine gf 112 rfl ?_); refine gL 62 Tryz.func112 #[.slice A0_3 l0_3.length c0_3, .func (.func 113) #[] #[]] ?_; (with_reducible refine (impl_ThreadOk_2_any.calls _ _ l0_3 true _ (kc HR0_3 HB) HC0_3.out A52.out).mono ?_); rintro e w56 ⟨rfl, hb⟩; refine ⟨_, rfl, ?_⟩; replace BK460 := bb BK460 hb; replace BK461 := bb BK461 hb; replace HB := bs HB hb; (try clear hb)))
      go_ret
      exact ⟨er, tb HB⟩
     replace H := ipf H
     obtain ⟨t465, A57, H⟩ := bn H
     try dsimp only at H
     obtain rfl := oin H
     have hnb58 := NB460_461.out
     have hnc58 := NB461_460.out
     have hz59 := cs5_ BK460
     go_wp2_with (first | ((with_reducible refine gf 112 rfl ?_); refine gL 62 Tryz.func112 #[.slice A0_3 l0_3.length c0_3, .func (.func 113) #[] #[]] ?_; (with_reducible refine (impl_ThreadOk_2_any.calls _ _ l0_3 false _ (kc HR0_3 HB) HC0_3.out A52.out).mono ?_); rintro e w60 ⟨rfl, hb⟩; refine ⟨_, rfl, ?_⟩; replace BK460 := bb BK460 hb; replace BK461 := bb BK461 hb; replace HB := bs HB hb; (try clear hb); have hz61 := cs5_ BK460) | ((with_reducible refine gf 116 rfl ?_); refine gL 66 Tryz.func116 #[.slice A0_4 l0_4.length c0_4, .func (.func 117) #[] #[.pointer (some ⟨gb461, 0, none⟩)]] ?_; (with_reducible refine (impl_ThreadOk_3_any.calls _ _ l0_4 gb461 a1 t465 _ (kc HR0_4 HB) HC0_4.out ?side3 A57.out).mono ?_); (case side3 => exact (bk BK461)); rintro e w62 ⟨rfl, hb⟩; refine ⟨_, rfl, ?_⟩; replace BK460 := bb BK460 hb; replace BK461 := bb BK461 hb; replace HB := bs HB hb; (try clear hb)))
     go_ret
     exact ⟨er, tb HB⟩
def slices_Index_int_int.l0 : Nat → List Int → Int → Int → Int → Option (Int)
 | 0, _, _, _, _ => none
 | k + 1, x0, x1, x7, x8 => if x8 < x7 then (if 0 ≤ x8 then (if x8 < (x0.length : Int) then (if x1 = (rd x0 x8) then (some x8) else (slices_Index_int_int.l0 k x0 x1 x7 (wrap64 (x8 + 1)))) else (none)) else (none)) else (some (-1))
def slices_Index_int_int.f (k : Nat) (l0 : List Int) (a1 : Int) : Option (Int) := slices_Index_int_int.l0 k l0 a1 (l0.length : Int) 0
set_option maxHeartbeats 8000000 in
set_option maxRecDepth 100000 in
theorem slices_Index_int_int.calls (k : Nat) (A0 : Option Addr) (c0 : Nat) (l0 : List Int) (a1 : Int) (r : Int) (w : World) (hr0 : Kd.C (Kd.int .i64) w A0 l0.length l0) (hc0 : l0.length ≤ c0) (h : slices_Index_int_int.f k l0 a1 = some r) :
  Calls Tryz.prog 181 #[.slice A0 l0.length c0, .int .i64 a1] w fun e w' => e = .returned (.int .i64 r) ∧ Drawn0 w w' := by
 have HR0 := Aside0.mk hr0
 have HC0 := Aside0.mk hc0
 clear hr0 hc0
 have H := h
 clear h
 unfold slices_Index_int_int.f at H
 have H' := Aside0.mk H
 clear H
 go_enter Tryz.func181, Tryz.ntmps181
 go_wp2
 go_loopg [8] k (fun kq v8 w' => ∃ (x8_1 : Int), v8 = .int .i64 x8_1 ∧ Aside0 (slices_Index_int_int.l0 kq l0 a1 (l0.length : Int) x8_1 = some r) ∧ Aside0 (kq ≤ k) ∧ Drawn0 w w')
 case atStart => exact ⟨(0), rsd, H', ⟨Nat.le_refl _⟩, by repeat (first | exact Drawn0.refl _ | apply Drawn0.step)⟩
 case round =>
  clear H'
  try clear c1
  try clear p2
  obtain ⟨x8_1, rfl, HA, HK1, ⟨m1, rfl⟩⟩ := hrel
  cases gk with
  | zero => exact absurd HA.out (by simp [slices_Index_int_int.l0])
  | succ k1 =>
   have H := HA.out
   clear HA
   simp only [slices_Index_int_int.l0] at H
   revert H; refine icd (fun c3b0 H => ?_) fun c3b0 H => ?neg
   case neg =>
    obtain rfl := oin H
    go_wp2
    go_ret
    exact ⟨rsd, by repeat (first | exact Drawn0.refl _ | apply Drawn0.step)⟩
   obtain ⟨c4b0, H⟩ := itd H
   obtain ⟨c5b0, H⟩ := itd H
   by_cases c6 : a1 = (rd l0 x8_1)
   case pos =>
    rw [if_pos c6] at H
    have c6b0 : (a1 == (rd l0 x8_1)) = true := beq_iff_eq.mpr c6
    have c6b1 : (a1 != (rd l0 x8_1)) = false := bne_eq_false_iff_eq.mpr c6
    clear c6
    obtain rfl := oin H
    have p466 : 0 ≤ (x8_1 : Int) := od
    have q466 : x8_1 < (l0.length : Int) := od
    obtain ⟨ad466, e466, hx466_0⟩ := Kd.at_int HR0.out x8_1 p466 q466
    cases e466
    replace p466 := eq_true p466
    replace q466 := eq_true q466
    go_wp2
    go_ret
    exact ⟨rsd, by repeat (first | exact Drawn0.refl _ | apply Drawn0.step)⟩
   rw [if_neg c6] at H
   have c6b0 : (a1 == (rd l0 x8_1)) = false := beq_eq_false_iff_ne.mpr c6
   have c6b1 : (a1 != (rd l0 x8_1)) = true := bne_iff_ne.mpr c6
   have H' := Aside0.mk H
   clear H
   have p466 : 0 ≤ (x8_1 : Int) := od
   have q466 : x8_1 < (l0.length : Int) := od
   obtain ⟨ad466, e466, hx466_0⟩ := Kd.at_int HR0.out x8_1 p466 q466
   cases e466
   replace p466 := eq_true p466
   replace q466 := eq_true q466
   go_wp2
   go_roundg k1
   case measure => have := HK1.out; omega
   case rel => exact ⟨(wrap64 (x8_1 + 1)), rsd, H', ⟨by have := HK1.out; omega⟩, by repeat (first | exact Drawn0.refl _ | apply Drawn0.step)⟩
def slices_Contains_int_int.f (k : Nat) (l0 : List Int) (a1 : Int) : Option (Bool) := (slices_Index_int_int.f k l0 a1).bind fun t467 => (some (decide (t467 ≥ 0)))
set_option maxHeartbeats 8000000 in
set_option maxRecDepth 100000 in
theorem slices_Contains_int_int.calls (k : Nat) (A0 : Option Addr) (c0 : Nat) (l0 : List Int) (a1 : Int) (r : Bool) (w : World) (hr0 : Kd.C (Kd.int .i64) w A0 l0.length l0) (hc0 : l0.length ≤ c0) (h : slices_Contains_int_int.f k l0 a1 = some r) :
  Calls Tryz.prog 149 #[.slice A0 l0.length c0, .int .i64 a1] w fun e w' => e = .returned (.bool r) ∧ Drawn0 w w' := by
 have HR0 := Aside0.mk hr0
 have HC0 := Aside0.mk hc0
 clear hr0 hc0
 have H := h
 clear h
 unfold slices_Contains_int_int.f at H
 obtain ⟨t467, A3, H⟩ := bn H
 try dsimp only at H
 obtain rfl := oin H
 go_enter Tryz.func149, Tryz.ntmps149
 go_wp2_with (first | ((with_reducible refine gf 181 rfl ?_); refine gL 7 Tryz.func181 #[.slice A0 l0.length c0, .int .i64 a1] ?_; (with_reducible refine (slices_Index_int_int.calls k _ _ l0 a1 t467 _ ?side1 HC0.out A3.out).mono ?_); (case side1 => repeat (first | exact HR0.out | (with_reducible refine Kd.C_alloc ?_ _) | (with_reducible refine Kd.C_drewN ?_ _) | (with_reducible refine Kd.C_drew ?_))); rintro e w' ⟨rfl, ⟨nd, rfl⟩⟩; refine ⟨_, rfl, ?_⟩))
 go_ret
 exact ⟨rsd, by repeat (first | exact Drawn0.refl _ | apply Drawn0.step)⟩
def impl_RowsOk.l0 : Nat → List Int → Int → Int → List Int → Int → Option (Bool)
 | 0, _, _, _, _, _ => none
 | k + 1, x6, x7, x8, x469000, x469001 => if x8 < x7 then (if 0 ≤ x8 then (if x8 < (x6.length : Int) then (if (rd x6 x8) = 0 then (impl_RowsOk.l0 k x6 x7 (wrap64 (x8 + 1)) x469000 x469001) else ((impl_ValOk.f (rd x6 x8)).bind fun t471 => (if t471 = true then (if x8 ≤ (x469000.length : Int) then ((slices_Contains_int_int.f k (x469000.take (x8 : Int).toNat) (rd x6 x8)).bind fun t473 => (if t473 = true then (some false) else (impl_RowsOk.l0 k x6 x7 (wrap64 (x8 + 1)) x469000 x469001))) else (none)) else (some false)))) else (none)) else (none)) else (if (x469000.length : Int) = 4 then ((impl_from.f x469001 0 5).bind fun t469 => (some t469)) else (some false))
def impl_RowsOk.f (k : Nat) (l0_0 : List Int) (a0_1 : Int) : Option (Bool) := impl_RowsOk.l0 k l0_0 (l0_0.length : Int) 0 l0_0 a0_1
set_option maxHeartbeats 8000000 in
set_option maxRecDepth 100000 in
theorem impl_RowsOk.calls (k : Nat) (A0_0 : Option Addr) (c0_0 : Nat) (l0_0 : List Int) (a0_1 : Int) (r : Bool) (w : World) (hr0_0 : Kd.C (Kd.int .i64) w A0_0 l0_0.length l0_0) (hc0_0 : l0_0.length ≤ c0_0) (h : impl_RowsOk.f k l0_0 a0_1 = some r) :
  Calls Tryz.prog 93 #[.agg #[.slice A0_0 l0_0.length c0_0, .int .i64 a0_1]] w fun e w' => e = .returned (.bool r) ∧ Below w.heap.size w w' := by
 have hu73 := Tryz.underlying73
 have HR0_0 := Aside0.mk hr0_0
 have HC0_0 := Aside0.mk hc0_0
 clear hr0_0 hc0_0
 have HB := Aside0.mk (Below.refl w.heap.size w)
 have H := h
 clear h
 unfold impl_RowsOk.f at H
 have H' := Aside0.mk H
 clear H
 go_enter Tryz.func93, Tryz.ntmps93
 go_wp2_with (first | ((with_reducible refine gq 1 rfl ?_); refine bx0 HB (N := 1) (t := 73) ?_; clear HB; intro gb468 w2 BK468 GE468 HB; have hz3 := cs2_ BK468))
 go_loopg [8] k (fun kq v8 w' => ∃ (x8_1 : Int), v8 = .int .i64 x8_1 ∧ Aside0 (impl_RowsOk.l0 kq l0_0 (l0_0.length : Int) x8_1 l0_0 a0_1 = some r) ∧ Aside0 (kq ≤ k) ∧ Aside0 (w'.heap[gb468]? = some (.cells #[(.slice A0_0 l0_0.length c0_0), .int .i64 a0_1] 73 (0, 0))) ∧ Aside0 (Below w.heap.size w w'))
 case atStart => exact ⟨(0), rsd, H', ⟨Nat.le_refl _⟩, ⟨by (with_reducible repeat (first | refine blk_drewN ?_ _ | refine blk_drew ?_ | refine blk_alloc ?_ _)); exact BK468.out⟩, ⟨tb HB⟩⟩
 case round =>
  clear H'
  try clear p2
  try clear hz3
  obtain ⟨x8_1, rfl, HA, HK1, BK468, HB⟩ := hrel
  cases gk with
  | zero => exact absurd HA.out (by simp [impl_RowsOk.l0])
  | succ k1 =>
   have H := HA.out
   clear HA
   simp only [impl_RowsOk.l0] at H
   revert H; refine icd (fun c4b0 H => ?_) fun c4b0 H => ?neg
   case neg =>
    by_cases c18 : (l0_0.length : Int) = 4
    case neg =>
     rw [if_neg c18] at H
     have c18b0 : ((l0_0.length : Int) == 4) = false := beq_eq_false_iff_ne.mpr c18
     have c18b1 : ((l0_0.length : Int) != 4) = true := bne_iff_ne.mpr c18
     obtain rfl := oin H
     have hz21 := cs2_ BK468
     go_wp2
     go_ret
     exact ⟨er, tb HB⟩
    rw [if_pos c18] at H
    have c18b0 : ((l0_0.length : Int) == 4) = true := beq_iff_eq.mpr c18
    have c18b1 : ((l0_0.length : Int) != 4) = false := bne_eq_false_iff_eq.mpr c18
    clear c18
    obtain ⟨t469, A19, H⟩ := bn H
    try dsimp only at H
    obtain rfl := oin H
    have hz20 := cs2_ BK468
    go_wp2_with (first | (go_at_call 62; (with_reducible refine (impl_from.calls a0_1 0 5 t469 _ A19.out).mono ?_); rintro e w' ⟨rfl, ⟨nd, rfl⟩⟩))
    go_ret
    exact ⟨er, tb HB⟩
   obtain ⟨c5b0, H⟩ := itd H
   obtain ⟨c6b0, H⟩ := itd H
   by_cases c7 : (rd l0_0 x8_1) = 0
   case pos =>
    rw [if_pos c7] at H
    have c7b0 : ((rd l0_0 x8_1) == 0) = true := beq_iff_eq.mpr c7
    have c7b1 : ((rd l0_0 x8_1) != 0) = false := bne_eq_false_iff_eq.mpr c7
    clear c7
    have H' := Aside0.mk H
    clear H
    have p470 : 0 ≤ (x8_1 : Int) := od
    have q470 : x8_1 < (l0_0.length : Int) := od
    obtain ⟨ad470, e470, hx470_0⟩ := Kd.at_int HR0_0.out x8_1 p470 q470
    cases e470
    replace hx470_0 := ox HB hx470_0
    replace p470 := eq_true p470
    replace q470 := eq_true q470
    go_wp2
    go_roundg k1
    case measure => have := HK1.out; omega
    case rel => exact ⟨(wrap64 (x8_1 + 1)), rsd, H', ⟨by have := HK1.out; omega⟩, ⟨by (with_reducible repeat (first | refine blk_drewN ?_ _ | refine blk_drew ?_ | refine blk_alloc ?_ _)); exact BK468.out⟩, ⟨tb HB⟩⟩
   rw [if_neg c7] at H
   have c7b0 : ((rd l0_0 x8_1) == 0) = false := beq_eq_false_iff_ne.mpr c7
   have c7b1 : ((rd l0_0 x8_1) != 0) = true := bne_iff_ne.mpr c7
   obtain ⟨t471, A8, H⟩ := bn H
   try dsimp only at H
   cases t471
   case false =>
    replace H := ipf H
    obtain rfl := oin H
    have p470 : 0 ≤ (x8_1 : Int) := od
    have q470 : x8_1 < (l0_0.length : Int) := od
    obtain ⟨ad470, e470, hx470_0⟩ := Kd.at_int HR0_0.out x8_1 p470 q470
    cases e470
    replace hx470_0 := ox HB hx470_0
    replace p470 := eq_true p470
    replace q470 := eq_true q470
    go_wp2_with (first | (go_at_call 148; (with_reducible refine (impl_ValOk.calls (rd l0_0 x8_1) false _ A8.out).mono ?_); rintro e w' ⟨rfl, ⟨nd, rfl⟩⟩))
    go_ret
    exact ⟨er, tb HB⟩
   replace H := ipt H
   have c10b0 := eq_true (od : 0 ≤ x8_1)
   obtain ⟨c11b0, c11b1, H⟩ := itb H
   obtain ⟨t473, A12, H⟩ := bn H
   try dsimp only at H
   cases t473
   case true =>
    replace H := ipt H
    obtain rfl := oin H
    have p470 : 0 ≤ (x8_1 : Int) := od
    have q470 : x8_1 < (l0_0.length : Int) := od
    obtain ⟨ad470, e470, hx470_0⟩ := Kd.at_int HR0_0.out x8_1 p470 q470
    cases e470
    replace hx470_0 := ox HB hx470_0
    replace p470 := eq_true p470
    replace q470 := eq_true q470
    go_wp2_with (first | (go_at_call 148; (with_reducible refine (impl_ValOk.calls (rd l0_0 x8_1) true _ A8.out).mono ?_); rintro e w' ⟨rfl, ⟨nd, rfl⟩⟩; have hz14 := cs2_ BK468; obtain ⟨i015, hi015, _, hsz15, _⟩ := info_parts info3; obtain ⟨hcut15, hA15, hC15⟩ := print_take_of (P := Tryz.prog) (Value.int .i64) 0 29 3 .i64 Tryz.underlying29 hi015 hsz15 (some ad470) c0_0 l0_0 x8_1 (od) (od) HC0_0.out; have HR472 := Aside0.mk (Kd.C_of_reads (h1 := fun _ => rfl) (hA15 _ (Kd.reads_of_C HR0_0.out))); have HC472 := Aside0.mk hC15; clear hA15 hC15 hi015 hsz15) | (go_at_call 149; refine calls_of_args (args' := #[.slice (some ad470) (l0_0.take (x8_1 : Int).toNat).length c0_0, .int .i64 (rd l0_0 x8_1)]) (by first | (rw [show (l0_0.take (x8_1 : Int).toNat).length = x8_1.toNat from (by rw [List.length_take]; have h_ : (x8_1 : Int) ≤ (l0_0.length : Int) := od; omega)] <;> rfl) | rfl) ?_; (with_reducible refine (slices_Contains_int_int.calls k1 _ _ (l0_0.take (x8_1 : Int).toNat) (rd l0_0 x8_1) true _ ?side1 HC472.out A12.out).mono ?_); (case side1 => repeat (first | exact (Kd.C_below HR472.out (tb HB)) | (with_reducible refine Kd.C_alloc ?_ _) | (with_reducible refine Kd.C_drewN ?_ _) | (with_reducible refine Kd.C_drew ?_))); rintro e w' ⟨rfl, ⟨nd, rfl⟩⟩))
    go_ret
    exact ⟨er, tb HB⟩
   replace H := ipf H
   have H' := Aside0.mk H
   clear H
   have p470 : 0 ≤ (x8_1 : Int) := od
   have q470 : x8_1 < (l0_0.length : Int) := od
   obtain ⟨ad470, e470, hx470_0⟩ := Kd.at_int HR0_0.out x8_1 p470 q470
   cases e470
   replace hx470_0 := ox HB hx470_0
   replace p470 := eq_true p470
   replace q470 := eq_true q470
   go_wp2_with (first | (go_at_call 148; (with_reducible refine (impl_ValOk.calls (rd l0_0 x8_1) true _ A8.out).mono ?_); rintro e w' ⟨rfl, ⟨nd, rfl⟩⟩; have hz16 := cs2_ BK468; obtain ⟨i017, hi017, _, hsz17, _⟩ := info_parts info3; obtain ⟨hcut17, hA17, hC17⟩ := print_take_of (P := Tryz.prog) (Value.int .i64) 0 29 3 .i64 Tryz.underlying29 hi017 hsz17 (some ad470) c0_0 l0_0 x8_1 (od) (od) HC0_0.out; have HR472 := Aside0.mk (Kd.C_of_reads (h1 := fun _ => rfl) (hA17 _ (Kd.reads_of_C HR0_0.out))); have HC472 := Aside0.mk hC17; clear hA17 hC17 hi017 hsz17) | (go_at_call 149; refine calls_of_args (args' := #[.slice (some ad470) (l0_0.take (x8_1 : Int).toNat).length c0_0, .int .i64 (rd l0_0 x8_1)]) (by first | (rw [show (l0_0.take (x8_1 : Int).toNat).length = x8_1.toNat from (by rw [List.length_take]; have h_ : (x8_1 : Int) ≤ (l0_0.length : Int) := od; omega)] <;> rfl) | rfl) ?_; (with_reducible refine (slices_Contains_int_int.calls k1 _ _ (l0_0.take (x8_1 : Int).toNat) (rd l0_0 x8_1) false _ ?side1 HC472.out A12.out).mono ?_); (case side1 => repeat (first | exact (Kd.C_below HR472.out (tb HB)) | (with_reducible refine Kd.C_alloc ?_ _) | (with_reducible refine Kd.C_drewN ?_ _) | (with_reducible refine Kd.C_drew ?_))); rintro e w' ⟨rfl, ⟨nd, rfl⟩⟩))
   go_roundg k1
   case measure => have := HK1.out; omega
   case rel => exact ⟨(wrap64 (x8_1 + 1)), rsd, H', ⟨by have := HK1.out; omega⟩, ⟨by (with_reducible repeat (first | refine blk_drewN ?_ _ | refine blk_drew ?_ | refine blk_alloc ?_ _)); exact BK468.out⟩, ⟨tb HB⟩⟩
end Go.Proofs.YtopikhjcbcpiaaaGreat.Q
