/- Part 4 of the steps by which the law is shown: what each function of the program, of the reference and of the law computes. No condition. -/
import Derived.Test.YtopikhjcbcpiaaaBgn0
import Derived.Test.YtopikhjcbcpiaaaBgn2
import Derived.Test.YtopikhjcbcpiaaaBgn3
section
namespace Go.Proofs.Ytopikhjcbcpiaaa.Q
open Go.RowKit Go.Proofs.YtopikhjcbcpiaaaW.PrintWords Go.Proofs.YtopikhjcbcpiaaaX
structure S95 where
  f0 : List S143
  f1 : List S138
def k95 : Kd S95 := Kd.iso (Kd.pair (Kd.slice 143 k143) (Kd.slice 138 k138)) (fun x : S95 => (x.f0, x.f1))
theorem k95_open {w : World} {x : S95} {cs : List Value} (h : k95.K w x cs) : ∃ A0 c0 A1 c1, cs = [.slice A0 x.f0.length c0, .slice A1 x.f1.length c1] ∧ x.f0.length ≤ c0 ∧ k143.C w A0 x.f0.length x.f0 ∧ x.f1.length ≤ c1 ∧ k138.C w A1 x.f1.length x.f1 := by
  obtain ⟨_, _, rfl, ⟨A0, c0, rfl, l0, g0⟩, ⟨A1, c1, rfl, l1, g1⟩⟩ := h
  exact ⟨A0, c0, A1, c1, rfl, l0, g0, l1, g1⟩
def ok143 (x : S143) : Prop := (Lit.int .i64 x.f0).wf = true ∧ (Lit.int .i64 x.f1).wf = true ∧ (Lit.int .i64 x.f2).wf = true
theorem opens143 {H : Type} {enc : TypeId × Value → H} {W : World} : Opens enc Try.prog W k143 143 ok143 :=
  Opens.struct (g := fun a => ⟨a.1, a.2.1, a.2.2⟩) (fun a => rfl) Try.underlying143 (by kernel_rfl) (OpensFs.cons rfl (Opens.int Try.underlying3 (by kernel_rfl)) (OpensFs.cons rfl (Opens.int Try.underlying3 (by kernel_rfl)) (OpensFs.last rfl (Opens.int Try.underlying3 (by kernel_rfl)))))
def ok168 (x : S168) : Prop := (Lit.int .i64 x.f0).wf = true ∧ (Lit.int .i64 x.f1).wf = true ∧ (Lit.int .i64 x.f2).wf = true
theorem opens168 {H : Type} {enc : TypeId × Value → H} {W : World} : Opens enc Try.prog W k168 168 ok168 :=
  Opens.struct (g := fun a => ⟨a.1, a.2.1, a.2.2⟩) (fun a => rfl) Try.underlying168 (by kernel_rfl) (OpensFs.cons rfl (Opens.int Try.underlying3 (by kernel_rfl)) (OpensFs.cons rfl (Opens.int Try.underlying3 (by kernel_rfl)) (OpensFs.last rfl (Opens.int Try.underlying3 (by kernel_rfl)))))
def ok62 (x : S62) : Prop := (Lit.int .i64 x.f0).wf = true ∧ (x.f1.length ≤ 9223372036854775807 ∧ ∀ a ∈ x.f1, (Lit.int .i64 a).wf = true)
theorem opens62 {H : Type} {enc : TypeId × Value → H} {W : World} : Opens enc Try.prog W k62 62 ok62 :=
  Opens.struct (g := fun a => ⟨a.1, a.2⟩) (fun a => rfl) Try.underlying62 (by kernel_rfl) (OpensFs.cons rfl (Opens.int Try.underlying3 (by kernel_rfl)) (OpensFs.last rfl (Opens.slice Try.underlying22 (by kernel_rfl) (Opens.int Try.underlying3 (by kernel_rfl)))))
def ok138 (x : S138) : Prop := (Lit.int .i64 x.f0).wf = true ∧ (Lit.int .i64 x.f1).wf = true ∧ (x.f2.length ≤ 9223372036854775807 ∧ ∀ a ∈ x.f2, ok168 a) ∧ ok62 x.f3
theorem opens138 {H : Type} {enc : TypeId × Value → H} {W : World} : Opens enc Try.prog W k138 138 ok138 :=
  Opens.struct (g := fun a => ⟨a.1, a.2.1, a.2.2.1, a.2.2.2⟩) (fun a => rfl) Try.underlying138 (by kernel_rfl) (OpensFs.cons rfl (Opens.int Try.underlying3 (by kernel_rfl)) (OpensFs.cons rfl (Opens.int Try.underlying3 (by kernel_rfl)) (OpensFs.cons rfl (Opens.slice Try.underlying96 (by kernel_rfl) opens168) (OpensFs.last rfl opens62))))
def ok95 (x : S95) : Prop := (x.f0.length ≤ 9223372036854775807 ∧ ∀ a ∈ x.f0, ok143 a) ∧ (x.f1.length ≤ 9223372036854775807 ∧ ∀ a ∈ x.f1, ok138 a)
theorem opens95 {H : Type} {enc : TypeId × Value → H} {W : World} : Opens enc Try.prog W k95 95 ok95 :=
  Opens.struct (g := fun a => ⟨a.1, a.2⟩) (fun a => rfl) Try.underlying95 (by kernel_rfl) (OpensFs.cons rfl (Opens.slice Try.underlying42 (by kernel_rfl) opens143) (OpensFs.last rfl (Opens.slice Try.underlying43 (by kernel_rfl) opens138)))
end Go.Proofs.Ytopikhjcbcpiaaa.Q
end
namespace Go.Proofs.Ytopikhjcbcpiaaa.Q
open Go.RowKit Go.Proofs.YtopikhjcbcpiaaaW.PrintWords Go.Proofs.YtopikhjcbcpiaaaW.PrintLast Go.Proofs.YtopikhjcbcpiaaaW.PrintMore
attribute [local go_sem] max2_int min2_int max_two min_two max_three min_three max_four min_four   -- for this text's walks alone
set_option linter.unusedVariables false
set_option linter.unusedSimpArgs false
def laws_toWordS.l0 : Nat → List (S143) → List (S141) → Int → Option ((List (S141)))
 | 0, _, _, _ => none
 | k + 1, x0, x3, x4 => if x4 < (x0.length : Int) then (if 0 ≤ x4 then ((laws_toWord.f ((rd_T143 x0 x4).f0) ((rd_T143 x0 x4).f1) ((rd_T143 x0 x4).f2)).bind fun bt328 => (if x4 < (x3.length : Int) then (laws_toWordS.l0 k x0 (x3.set (x4 : Int).toNat (⟨bt328.1, bt328.2.1, bt328.2.2⟩ : S141)) (wrap64 (x4 + 1))) else (none))) else (none)) else (some x3)
def laws_toWordS.f (k : Nat) (l0 : List (S143)) : Option ((List (S141))) := if 0 ≤ (l0.length : Int) then (if ((l0.length : Int) : Int).toNat ≤ 11728124029610 then (laws_toWordS.l0 k l0 (List.replicate ((l0.length : Int) : Int).toNat z141) 0) else (none)) else (none)
set_option maxHeartbeats 8000000 in
set_option maxRecDepth 100000 in
theorem laws_toWordS.calls (k : Nat) (A0 : Option Addr) (c0 : Nat) (l0 : List (S143)) (r : List (S141)) (w : World) (hr0 : Kd.C k143 w A0 l0.length l0) (hc0 : l0.length ≤ c0) (h : laws_toWordS.f k l0 = some r) :
  Calls Try.prog 23 #[.slice A0 l0.length c0] w fun e w' => ∃ v0_ : Value, e = .returned (v0_) ∧ Kd.R k141 141 w' w.heap.size (fun _ => True) v0_ r ∧ Below w.heap.size w w' := by
 have hu143 := Try.underlying143
 have hu141 := Try.underlying141
 have HR0 := Aside0.mk hr0
 have HC0 := Aside0.mk hc0
 clear hr0 hc0
 have HB := Aside0.mk (Below.refl w.heap.size w)
 have H := h
 clear h
 unfold laws_toWordS.f at H
 obtain ⟨c2b0, c2b1, H⟩ := itb H
 obtain ⟨c3b0, c3b1, H⟩ := itb H
 obtain ⟨y324, hy324⟩ : ∃ y_ : List (S141), y_ = (List.replicate ((l0.length : Int) : Int).toNat z141) := ⟨_, rfl⟩
 replace H : (laws_toWordS.l0 k l0 y324 0) = some r := by first | (rw [hy324]; with_reducible exact H) | (have H2_ := (Option.bind_some _ _).symm.trans H; rw [hy324]; with_reducible exact H2_) | (have H2_ := (Option.bind_some _ _).symm.trans H; with_reducible exact H2_) | with_reducible exact H | (rw [hy324]; exact H) | exact H
 have Ny324 := Aside0.mk hy324
 clear hy324
 have H' := Aside0.mk H
 clear H
 go_enter Try.func23, Try.ntmps23
 go_wp2_with (first | ((with_reducible refine gq 7 rfl ?_); refine Kd.R_make k141 _ 141 rfl (N := 7) rfl 47 _ _ rfl (l0.length : Int) rfl rfl Try.underlying47 (.agg #[(.int .i64 0), (.int .i64 0), (.int .i64 0)]) 24 info141 rfl (by decide) (by omega) z141 (ok := fun _ => True) (okp := fun _ => True) (k141_mkM _ _ _ z141 ) (fun _ hk => hk) trivial (od) (Nat.le_trans (Nat.mul_le_mul_right _ (od : (l0.length : Int).toNat ≤ 11728124029610)) (by omega)) (Below.refl _ _) (Nat.le_refl _) ?_; intro v325 w4 ho5 hb hg_ hnew_; clear hg_ hnew_; (first | rw [← Ny324.out] at ho5 | (simp only [Int.reduceToNat] at ho5; rw [← Ny324.out] at ho5)); have HO326 := Aside0.mk (Kd.R_lower ho5 (below_size (tb HB))); replace HB := bs HB hb; clear hb ho5))
 go_loopg [4] k (fun kq v4 w' => ∃ (x3_1 : List (S141)) (x4_1 : Int), v4 = .int .i64 x4_1 ∧ Aside0 (laws_toWordS.l0 kq l0 x3_1 x4_1 = some r) ∧ Aside0 (kq ≤ k) ∧ Aside0 (Kd.R k141 141 w' w.heap.size (fun _ => True) v325 x3_1) ∧ Aside0 (Below w.heap.size w w'))
 case atStart => exact ⟨(y324), (0), rsd, H', ⟨Nat.le_refl _⟩, ⟨kr HO326.out⟩, ⟨tb HB⟩⟩
 case round =>
  clear H'
  obtain ⟨x3_1, x4_1, rfl, HA, HK1, HO_3, HB⟩ := hrel
  cases gk with
  | zero => exact absurd HA.out (by simp [laws_toWordS.l0])
  | succ k1 =>
   have H := HA.out
   clear HA
   simp only [laws_toWordS.l0] at H
   revert H; refine icd (fun c6b0 H => ?_) fun c6b0 H => ?neg
   case neg =>
    obtain rfl := oin H
    go_wp2
    go_ret
    exact ⟨_, er, kr HO_3.out, tb HB⟩
   obtain ⟨c7b0, H⟩ := itd H
   obtain ⟨⟨t328, t329, t330⟩, A8, H⟩ := bn H
   try dsimp only at H
   obtain ⟨c9b0, H⟩ := itd H
   obtain ⟨y331, hy331⟩ : ∃ y_ : List (S141), y_ = (x3_1.set (x4_1 : Int).toNat (⟨t328, t329, t330⟩ : S141)) := ⟨_, rfl⟩
   replace H : (laws_toWordS.l0 k1 l0 y331 (wrap64 (x4_1 + 1))) = some r := by first | (rw [hy331]; with_reducible exact H) | (have H2_ := (Option.bind_some _ _).symm.trans H; rw [hy331]; with_reducible exact H2_) | (have H2_ := (Option.bind_some _ _).symm.trans H; with_reducible exact H2_) | with_reducible exact H | (rw [hy331]; exact H) | exact H
   have Ny331 := Aside0.mk hy331
   clear hy331
   have H' := Aside0.mk H
   clear H
   have p327 : 0 ≤ (x4_1 : Int) := od
   have q327 : x4_1 < (l0.length : Int) := od
   obtain ⟨ad327, e327, hx327⟩ := att143 HR0.out x4_1 p327 q327
   cases e327
   replace hx327 := ox3 HB hx327
   replace p327 := eq_true p327
   replace q327 := eq_true q327
   go_wp2_with (first | ((with_reducible refine gf 97 rfl ?_); refine gL 20 Try.func97 #[.agg #[.int .i64 ((rd_T143 l0 x4_1).f0), .int .i64 ((rd_T143 l0 x4_1).f1), .int .i64 ((rd_T143 l0 x4_1).f2)]] ?_; (with_reducible refine (laws_toWord.calls ((rd_T143 l0 x4_1).f0) ((rd_T143 l0 x4_1).f1) ((rd_T143 l0 x4_1).f2) t328 t329 t330 _ A8.out).mono ?_); rintro e w11 ⟨rfl, hb⟩; refine ⟨_, rfl, ?_⟩; replace HO_3 := rb HO_3 hb; replace HB := bs HB hb; (try clear hb); have p10 : 0 ≤ (x4_1 : Int) := od; have q10 : (x4_1 : Int) < ((x3_1.length : Int) : Int) := od; obtain ⟨go10, co10, eo10, gb10, gl10, cl10, HG10⟩ := Kd.R_form HO_3.out (by omega); (first | cases eo10 | (injection eo10 with ea_ en_ ec_; (first | subst ea_ | (injection ea_ with ea_; subst ea_)); subst ec_; clear en_)); have GB10 := Aside0.mk gb10; have GG10 := Aside0.mk HG10; clear gb10 gl10 HG10; obtain ⟨ce10, hcl10, hM10, hcc10, hfr10⟩ := Kd.R_elem HO_3.out z141 (x4_1 : Int) p10 q10; obtain rfl := k141_openM hM10; have hx10_0 : w11.cell? ⟨go10, (x4_1 : Int).toNat * 3, none⟩ = some (.int .i64 ((rd_T141 x3_1 x4_1).f0)) := hcc10 0 _ rfl; have hx10_1 : w11.cell? ⟨go10, (x4_1 : Int).toNat * 3 + 1, none⟩ = some (.int .i64 ((rd_T141 x3_1 x4_1).f1)) := hcc10 1 _ rfl; have hx10_2 : w11.cell? ⟨go10, (x4_1 : Int).toNat * 3 + 2, none⟩ = some (.int .i64 ((rd_T141 x3_1 x4_1).f2)) := hcc10 2 _ rfl; have hf10_0 : w11.frozen? ⟨go10, (x4_1 : Int).toNat * 3, none⟩ = false := hfr10 0; have hf10_1 : w11.frozen? ⟨go10, (x4_1 : Int).toNat * 3 + 1, none⟩ = false := hfr10 1; have hf10_2 : w11.frozen? ⟨go10, (x4_1 : Int).toNat * 3 + 2, none⟩ = false := hfr10 2; clear hcl10 hcc10 hfr10 hM10; replace p10 := eq_true p10; replace q10 := eq_true q10; have HX12 := Aside0.mk (show Kd.R k141 141 w11 w.heap.size (fun _ => True) (.slice (some ⟨go10, 0, none⟩) x3_1.length co10) x3_1 from (kr HO_3.out)); obtain ⟨ce12, hcl12, hM12, hcc12, hfr12⟩ := Kd.R_elem HX12.out z141 (x4_1 : Int) (od) (by have h_ : (x4_1 : Int) < ((x3_1.length : Int) : Int) := od; first | exact h_ | (have e_ := (Kd.R_reads' HO_3.out).1; omega) | simpa using h_); obtain rfl := k141_openM hM12; have HP12 := Kd.R_seg HX12.out (x4_1 : Int) (od) (by have h_ : (x4_1 : Int) < ((x3_1.length : Int) : Int) := od; first | exact h_ | (have e_ := (Kd.R_reads' HO_3.out).1; omega) | simpa using h_) (seg := [.int .i64 t328, .int .i64 t329, .int .i64 t330]) (j := 0) hcl12 hcc12 (show 3 ≤ 3 from by decide) (x' := (⟨t328, t329, t330⟩ : S141)) (k141_mkM _ _ _ (⟨t328, t329, t330⟩ : S141) ) (fun _ hk => hk); have hx12_0 := hcc12 0 _ rfl; (try simp only [show (k141).sz = 3 from rfl, Nat.mul_one, Nat.add_zero] at hx12_0); have hf12_0 := hfr12 0; (try simp only [show (k141).sz = 3 from rfl, Nat.mul_one, Nat.add_zero] at hf12_0); have hx12_1 := hcc12 1 _ rfl; (try simp only [show (k141).sz = 3 from rfl, Nat.mul_one, Nat.add_zero] at hx12_1); have hf12_1 := hfr12 1; (try simp only [show (k141).sz = 3 from rfl, Nat.mul_one, Nat.add_zero] at hf12_1); have hx12_2 := hcc12 2 _ rfl; (try simp only [show (k141).sz = 3 from rfl, Nat.mul_one, Nat.add_zero] at hx12_2); have hf12_2 := hfr12 2; (try simp only [show (k141).sz = 3 from rfl, Nat.mul_one, Nat.add_zero] at hf12_2); clear hcl12 hcc12 hfr12 hM12) | ((with_reducible refine gate_store (t := 141) (p := 21) rfl ?_); refine store_event (t := 141) (p := 21) (v := ?vo_w13) (w1 := (((w11.setCell ⟨go10, (x4_1 : Int).toNat * 3, none⟩ (.int .i64 t328)).setCell ⟨go10, (x4_1 : Int).toNat * 3 + 1, none⟩ (.int .i64 t329)).setCell ⟨go10, (x4_1 : Int).toNat * 3 + 2, none⟩ (.int .i64 t330))) ?hg ?ho ?hn ?hr ?_; (case ho => rfl); (case hg => rfl); (case hn => rfl); (case hr => first | (go_simp; done) | (go_simp; rfl)); intro w13 hw; have hg : w11.grownBy w13 (some go10) := (by rw [hw]; exact HP12.2); have hp_ : Kd.R k141 141 w13 w.heap.size (fun _ => True) (.slice (some ⟨go10, 0, none⟩) x3_1.length co10) y331 := (by rw [hw, Ny331.out]; exact HP12.1); clear HP12; replace HO_3 := Aside0.mk (hp_); replace HB := Aside0.mk ((by rw [hw]; exact below_set (below_set (below_set (HB.out) GB10.out) GB10.out) GB10.out : Below w.heap.size w w13)); clear hg hw hp_))
   go_roundg k1
   case measure => have := HK1.out; omega
   case rel => exact ⟨(y331), (wrap64 (x4_1 + 1)), rsd, H', ⟨by have := HK1.out; omega⟩, ⟨kr HO_3.out⟩, ⟨tb HB⟩⟩
def laws_eqWordS.l0 : Nat → List (S141) → List (S141) → Int → Option (Bool)
 | 0, _, _, _ => none
 | k + 1, x0, x1, x5 => if x5 < (x0.length : Int) then (if 0 ≤ x5 then (if x5 < (x1.length : Int) then ((laws_eqWord.f ((rd_T141 x0 x5).f0) ((rd_T141 x0 x5).f1) ((rd_T141 x0 x5).f2) ((rd_T141 x1 x5).f0) ((rd_T141 x1 x5).f1) ((rd_T141 x1 x5).f2)).bind fun t399 => (if t399 = true then (laws_eqWordS.l0 k x0 x1 (wrap64 (x5 + 1))) else (some false))) else (none)) else (none)) else (some true)
def laws_eqWordS.f (k : Nat) (l0 : List (S141)) (l1 : List (S141)) : Option (Bool) := if (l0.length : Int) = (l1.length : Int) then (laws_eqWordS.l0 k l0 l1 0) else (some false)
def laws_eqWordS.T6 : Bool × List (List Nat × List Nat) := (true, [([], []), ([], []), ([0, 1], [0, 1]), ([2], [2]), ([], []), ([], []), ([4, 5], [4, 5]), ([6], [6]), ([3, 7], [3, 7]), ([8], [8])])
def laws_eqWordS.B6 : List Nat := [0, 0, 3, 7, 0, 0, 48, 112, 255, 511]
theorem laws_eqWordS.tab6 : rtab .any (opsOf Try.f26 6) = laws_eqWordS.T6 := by kernel_rfl
theorem laws_eqWordS.bits6 : waitsOk laws_eqWordS.T6.2 laws_eqWordS.B6 = true := by kernel_rfl
set_option maxHeartbeats 8000000 in
set_option maxRecDepth 100000 in
theorem laws_eqWordS.calls (k : Nat) (A0 : Option Addr) (c0 : Nat) (l0 : List (S141)) (A1 : Option Addr) (c1 : Nat) (l1 : List (S141)) (r : Bool) (w : World) (hr0 : Kd.C k141 w A0 l0.length l0) (hc0 : l0.length ≤ c0) (hr1 : Kd.C k141 w A1 l1.length l1) (hc1 : l1.length ≤ c1) (h : laws_eqWordS.f k l0 l1 = some r) :
  Calls Try.prog 26 #[.slice A0 l0.length c0, .slice A1 l1.length c1] w fun e w' => e = .returned (.bool r) ∧ Below w.heap.size w w' := by
 have hu141 := Try.underlying141
 have HR0 := Aside0.mk hr0
 have HC0 := Aside0.mk hc0
 clear hr0 hc0
 have HR1 := Aside0.mk hr1
 have HC1 := Aside0.mk hc1
 clear hr1 hc1
 have HB := Aside0.mk (Below.refl w.heap.size w)
 have H := h
 clear h
 unfold laws_eqWordS.f at H
 by_cases c3 : (l0.length : Int) = (l1.length : Int)
 case neg =>
  rw [if_neg c3] at H
  have c3b0 : ((l0.length : Int) == (l1.length : Int)) = false := beq_eq_false_iff_ne.mpr c3
  have c3b1 : ((l0.length : Int) != (l1.length : Int)) = true := bne_iff_ne.mpr c3
  have c3b2 : (l0.length == l1.length) = false := by first | simpa using c3 | (simp at c3 ⊢; omega)
  obtain rfl := oin H
  go_enter Try.func26, Try.ntmps26
  go_wp2
  go_ret
  exact ⟨er, tb HB⟩
 
 
 rw [if_pos c3] at H
 have c3b0 : ((l0.length : Int) == (l1.length : Int)) = true := beq_iff_eq.mpr c3
 have c3b1 : ((l0.length : Int) != (l1.length : Int)) = false := bne_eq_false_iff_eq.mpr c3
 have c3b2 : (l0.length == l1.length) = true := by first | simpa using c3 | (simp at c3 ⊢; omega)
 clear c3
 have H' := Aside0.mk H
 clear H
 go_enter Try.func26, Try.ntmps26
 go_wp2
 go_loopg [5] k (fun kq v5 w' => ∃ (x5_1 : Int), v5 = .int .i64 x5_1 ∧ Aside0 (laws_eqWordS.l0 kq l0 l1 x5_1 = some r) ∧ Aside0 (kq ≤ k) ∧ Aside0 (Below w.heap.size w w'))
 case atStart => exact ⟨(0), rsd, H', ⟨Nat.le_refl _⟩, ⟨tb HB⟩⟩
 case round =>
  clear H'
  obtain ⟨x5_1, rfl, HA, HK1, HB⟩ := hrel
  cases gk with
  | zero => exact absurd HA.out (by simp [laws_eqWordS.l0])
  | succ k1 =>
   have H := HA.out
   clear HA
   simp only [laws_eqWordS.l0] at H
   revert H; refine icd (fun c4b0 H => ?_) fun c4b0 H => ?neg
   case neg =>
    obtain rfl := oin H
    go_wp2
    go_ret
    exact ⟨er, tb HB⟩
   obtain ⟨c5b0, H⟩ := itd H
   obtain ⟨c6b0, H⟩ := itd H
   obtain ⟨t399, A7, H⟩ := bn H
   try dsimp only at H
   cases t399
   case false =>
    replace H := ipf H
    obtain rfl := oin H
    try go_wp2
    replace HB := Aside0.mk (below_drew1 HB.out)
    have p397 : 0 ≤ (x5_1 : Int) := od
    have q397 : x5_1 < (l0.length : Int) := od
    obtain ⟨ad397, e397, hx397⟩ := att141 HR0.out x5_1 p397 q397
    have hw397 := hx397
    cases e397
    replace hx397 := ox3 HB hx397
    replace p397 := eq_true p397
    replace q397 := eq_true q397
    have p398 : 0 ≤ (x5_1 : Int) := od
    have q398 : x5_1 < (l1.length : Int) := od
    obtain ⟨ad398, e398, hx398⟩ := att141 HR1.out x5_1 p398 q398
    have hw398 := hx398
    cases e398
    replace hx398 := ox3 HB hx398
    replace p398 := eq_true p398
    replace q398 := eq_true q398
    refine start_ (n := 10) (S := fun w' => eT141 (ad397.add ((x5_1).toNat * 3)) (rd_T141 l0 x5_1) w' ∧ eT141 (ad398.add ((x5_1).toNat * 3)) (rd_T141 l1 x5_1) w') (ds := []) #[false, false, false, false, false, false, false, false, false, false] (by kernel_rfl) rfl rfl ⟨(ox3 HB hw397 :), (ox3 HB hw398 :)⟩ (fun hHeld => ?_); refine with_tabW laws_eqWordS.tab6 laws_eqWordS.bits6 (fun HT_ HW_ => ?_)
    generalize wr.drew = w11 at HB hx397 hx398 hHeld ⊢
    refine pu 0 17 ?_; refine pu 1 18 ?_; refine pu 2 19 ?_; refine pu 4 21 ?_; refine pu 5 22 ?_; refine pu 6 23 ?_; refine ta 3 20 ?_; refine ta 7 24 ?_
    refine on1 8 (some 25) (fun K hK => ?_)
    refine gS Try.func100 #[.agg #[.int .i64 ((rd_T141 l0 x5_1).f0), .int .i64 ((rd_T141 l0 x5_1).f1), .int .i64 ((rd_T141 l0 x5_1).f2)], .agg #[.int .i64 ((rd_T141 l1 x5_1).f0), .int .i64 ((rd_T141 l1 x5_1).f1), .int .i64 ((rd_T141 l1 x5_1).f2)]] ?_
    with_reducible refine (laws_eqWord.calls ((rd_T141 l0 x5_1).f0) ((rd_T141 l0 x5_1).f1) ((rd_T141 l0 x5_1).f2) ((rd_T141 l1 x5_1).f0) ((rd_T141 l1 x5_1).f1) ((rd_T141 l1 x5_1).f2) false _ A7.out).mono ?_
    rintro e w12 ⟨rfl, hb⟩
    refine ⟨_, rfl, ?_⟩
    replace HB := bs HB hb
    (try clear hb)
    (try clear hb2)
    (try clear hk)
    (try clear hi)
    refine hK.out _ _ ⟨(ox3 HB hw397 :), (ox3 HB hw398 :)⟩ (fun hHeld => ?_)
    clear hK K
    refine nm 25 ?_
    refine pu 9 26 ?_
    refine done_ (done_of HT_.out (by kernel_rfl)) ?_
    try go_wp2
    go_ret
    exact ⟨er, tb HB⟩
   replace H := ipt H
   have H' := Aside0.mk H
   clear H
   try go_wp2
   replace HB := Aside0.mk (below_drew1 HB.out)
   have p397 : 0 ≤ (x5_1 : Int) := od
   have q397 : x5_1 < (l0.length : Int) := od
   obtain ⟨ad397, e397, hx397⟩ := att141 HR0.out x5_1 p397 q397
   have hw397 := hx397
   cases e397
   replace hx397 := ox3 HB hx397
   replace p397 := eq_true p397
   replace q397 := eq_true q397
   have p398 : 0 ≤ (x5_1 : Int) := od
   have q398 : x5_1 < (l1.length : Int) := od
   obtain ⟨ad398, e398, hx398⟩ := att141 HR1.out x5_1 p398 q398
   have hw398 := hx398
   cases e398
   replace hx398 := ox3 HB hx398
   replace p398 := eq_true p398
   replace q398 := eq_true q398
   refine start_ (n := 10) (S := fun w' => eT141 (ad397.add ((x5_1).toNat * 3)) (rd_T141 l0 x5_1) w' ∧ eT141 (ad398.add ((x5_1).toNat * 3)) (rd_T141 l1 x5_1) w') (ds := []) #[false, false, false, false, false, false, false, false, false, false] (by kernel_rfl) rfl rfl ⟨(ox3 HB hw397 :), (ox3 HB hw398 :)⟩ (fun hHeld => ?_); refine with_tabW laws_eqWordS.tab6 laws_eqWordS.bits6 (fun HT_ HW_ => ?_)
   generalize wr.drew = w9 at HB hx397 hx398 hHeld ⊢
   refine pu 0 17 ?_; refine pu 1 18 ?_; refine pu 2 19 ?_; refine pu 4 21 ?_; refine pu 5 22 ?_; refine pu 6 23 ?_; refine ta 3 20 ?_; refine ta 7 24 ?_
   refine on1 8 (some 25) (fun K hK => ?_)
   refine gS Try.func100 #[.agg #[.int .i64 ((rd_T141 l0 x5_1).f0), .int .i64 ((rd_T141 l0 x5_1).f1), .int .i64 ((rd_T141 l0 x5_1).f2)], .agg #[.int .i64 ((rd_T141 l1 x5_1).f0), .int .i64 ((rd_T141 l1 x5_1).f1), .int .i64 ((rd_T141 l1 x5_1).f2)]] ?_
   with_reducible refine (laws_eqWord.calls ((rd_T141 l0 x5_1).f0) ((rd_T141 l0 x5_1).f1) ((rd_T141 l0 x5_1).f2) ((rd_T141 l1 x5_1).f0) ((rd_T141 l1 x5_1).f1) ((rd_T141 l1 x5_1).f2) true _ A7.out).mono ?_
   rintro e w10 ⟨rfl, hb⟩
   refine ⟨_, rfl, ?_⟩
   replace HB := bs HB hb
   (try clear hb)
   (try clear hb2)
   (try clear hk)
   (try clear hi)
   refine hK.out _ _ ⟨(ox3 HB hw397 :), (ox3 HB hw398 :)⟩ (fun hHeld => ?_)
   clear hK K
   refine nm 25 ?_
   refine pu 9 26 ?_
   refine done_ (done_of HT_.out (by kernel_rfl)) ?_
   try go_wp2
   go_roundg k1
   case measure => have := HK1.out; omega
   case rel => exact ⟨(wrap64 (x5_1 + 1)), rsd, H', ⟨by have := HK1.out; omega⟩, ⟨tb HB⟩⟩
def laws_toEntryS.l0 : Nat → List (S168) → List (S166) → Int → Option ((List (S166)))
 | 0, _, _, _ => none
 | k + 1, x0, x3, x4 => if x4 < (x0.length : Int) then (if 0 ≤ x4 then ((laws_toEntry.f ((rd_T168 x0 x4).f0) ((rd_T168 x0 x4).f1) ((rd_T168 x0 x4).f2)).bind fun bt345 => (if x4 < (x3.length : Int) then (laws_toEntryS.l0 k x0 (x3.set (x4 : Int).toNat (⟨bt345.1, bt345.2.1, bt345.2.2⟩ : S166)) (wrap64 (x4 + 1))) else (none))) else (none)) else (some x3)
def laws_toEntryS.f (k : Nat) (l0 : List (S168)) : Option ((List (S166))) := if 0 ≤ (l0.length : Int) then (if ((l0.length : Int) : Int).toNat ≤ 11728124029610 then (laws_toEntryS.l0 k l0 (List.replicate ((l0.length : Int) : Int).toNat z166) 0) else (none)) else (none)
set_option maxHeartbeats 8000000 in
set_option maxRecDepth 100000 in
theorem laws_toEntryS.calls (k : Nat) (A0 : Option Addr) (c0 : Nat) (l0 : List (S168)) (r : List (S166)) (w : World) (hr0 : Kd.C k168 w A0 l0.length l0) (hc0 : l0.length ≤ c0) (h : laws_toEntryS.f k l0 = some r) :
  Calls Try.prog 65 #[.slice A0 l0.length c0] w fun e w' => ∃ v0_ : Value, e = .returned (v0_) ∧ Kd.R k166 166 w' w.heap.size (fun _ => True) v0_ r ∧ Below w.heap.size w w' := by
 have hu168 := Try.underlying168
 have hu166 := Try.underlying166
 have HR0 := Aside0.mk hr0
 have HC0 := Aside0.mk hc0
 clear hr0 hc0
 have HB := Aside0.mk (Below.refl w.heap.size w)
 have H := h
 clear h
 unfold laws_toEntryS.f at H
 obtain ⟨c2b0, c2b1, H⟩ := itb H
 obtain ⟨c3b0, c3b1, H⟩ := itb H
 obtain ⟨y341, hy341⟩ : ∃ y_ : List (S166), y_ = (List.replicate ((l0.length : Int) : Int).toNat z166) := ⟨_, rfl⟩
 replace H : (laws_toEntryS.l0 k l0 y341 0) = some r := by first | (rw [hy341]; with_reducible exact H) | (have H2_ := (Option.bind_some _ _).symm.trans H; rw [hy341]; with_reducible exact H2_) | (have H2_ := (Option.bind_some _ _).symm.trans H; with_reducible exact H2_) | with_reducible exact H | (rw [hy341]; exact H) | exact H
 have Ny341 := Aside0.mk hy341
 clear hy341
 have H' := Aside0.mk H
 clear H
 go_enter Try.func65, Try.ntmps65
 go_wp2_with (first | ((with_reducible refine gq 7 rfl ?_); refine Kd.R_make k166 _ 166 rfl (N := 7) rfl 104 _ _ rfl (l0.length : Int) rfl rfl Try.underlying104 (.agg #[(.int .i64 0), (.int .i64 0), (.int .i64 0)]) 24 info166 rfl (by decide) (by omega) z166 (ok := fun _ => True) (okp := fun _ => True) (k166_mkM _ _ _ z166 ) (fun _ hk => hk) trivial (od) (Nat.le_trans (Nat.mul_le_mul_right _ (od : (l0.length : Int).toNat ≤ 11728124029610)) (by omega)) (Below.refl _ _) (Nat.le_refl _) ?_; intro v342 w4 ho5 hb hg_ hnew_; clear hg_ hnew_; (first | rw [← Ny341.out] at ho5 | (simp only [Int.reduceToNat] at ho5; rw [← Ny341.out] at ho5)); have HO343 := Aside0.mk (Kd.R_lower ho5 (below_size (tb HB))); replace HB := bs HB hb; clear hb ho5))
 go_loopg [4] k (fun kq v4 w' => ∃ (x3_1 : List (S166)) (x4_1 : Int), v4 = .int .i64 x4_1 ∧ Aside0 (laws_toEntryS.l0 kq l0 x3_1 x4_1 = some r) ∧ Aside0 (kq ≤ k) ∧ Aside0 (Kd.R k166 166 w' w.heap.size (fun _ => True) v342 x3_1) ∧ Aside0 (Below w.heap.size w w'))
 case atStart => exact ⟨(y341), (0), rsd, H', ⟨Nat.le_refl _⟩, ⟨kr HO343.out⟩, ⟨tb HB⟩⟩
 case round =>
  clear H'
  obtain ⟨x3_1, x4_1, rfl, HA, HK1, HO_3, HB⟩ := hrel
  cases gk with
  | zero => exact absurd HA.out (by simp [laws_toEntryS.l0])
  | succ k1 =>
   have H := HA.out
   clear HA
   simp only [laws_toEntryS.l0] at H
   revert H; refine icd (fun c6b0 H => ?_) fun c6b0 H => ?neg
   case neg =>
    obtain rfl := oin H
    go_wp2
    go_ret
    exact ⟨_, er, kr HO_3.out, tb HB⟩
   obtain ⟨c7b0, H⟩ := itd H
   obtain ⟨⟨t345, t346, t347⟩, A8, H⟩ := bn H
   try dsimp only at H
   obtain ⟨c9b0, H⟩ := itd H
   obtain ⟨y348, hy348⟩ : ∃ y_ : List (S166), y_ = (x3_1.set (x4_1 : Int).toNat (⟨t345, t346, t347⟩ : S166)) := ⟨_, rfl⟩
   replace H : (laws_toEntryS.l0 k1 l0 y348 (wrap64 (x4_1 + 1))) = some r := by first | (rw [hy348]; with_reducible exact H) | (have H2_ := (Option.bind_some _ _).symm.trans H; rw [hy348]; with_reducible exact H2_) | (have H2_ := (Option.bind_some _ _).symm.trans H; with_reducible exact H2_) | with_reducible exact H | (rw [hy348]; exact H) | exact H
   have Ny348 := Aside0.mk hy348
   clear hy348
   have H' := Aside0.mk H
   clear H
   have p344 : 0 ≤ (x4_1 : Int) := od
   have q344 : x4_1 < (l0.length : Int) := od
   obtain ⟨ad344, e344, hx344⟩ := att168 HR0.out x4_1 p344 q344
   cases e344
   replace hx344 := ox3 HB hx344
   replace p344 := eq_true p344
   replace q344 := eq_true q344
   go_wp2_with (first | ((with_reducible refine gf 136 rfl ?_); refine gL 20 Try.func136 #[.agg #[.int .i64 ((rd_T168 l0 x4_1).f0), .int .i64 ((rd_T168 l0 x4_1).f1), .int .i64 ((rd_T168 l0 x4_1).f2)]] ?_; (with_reducible refine (laws_toEntry.calls ((rd_T168 l0 x4_1).f0) ((rd_T168 l0 x4_1).f1) ((rd_T168 l0 x4_1).f2) t345 t346 t347 _ A8.out).mono ?_); rintro e w11 ⟨rfl, hb⟩; refine ⟨_, rfl, ?_⟩; replace HO_3 := rb HO_3 hb; replace HB := bs HB hb; (try clear hb); have p10 : 0 ≤ (x4_1 : Int) := od; have q10 : (x4_1 : Int) < ((x3_1.length : Int) : Int) := od; obtain ⟨go10, co10, eo10, gb10, gl10, cl10, HG10⟩ := Kd.R_form HO_3.out (by omega); (first | cases eo10 | (injection eo10 with ea_ en_ ec_; (first | subst ea_ | (injection ea_ with ea_; subst ea_)); subst ec_; clear en_)); have GB10 := Aside0.mk gb10; have GG10 := Aside0.mk HG10; clear gb10 gl10 HG10; obtain ⟨ce10, hcl10, hM10, hcc10, hfr10⟩ := Kd.R_elem HO_3.out z166 (x4_1 : Int) p10 q10; obtain rfl := k166_openM hM10; have hx10_0 : w11.cell? ⟨go10, (x4_1 : Int).toNat * 3, none⟩ = some (.int .i64 ((rd_T166 x3_1 x4_1).f0)) := hcc10 0 _ rfl; have hx10_1 : w11.cell? ⟨go10, (x4_1 : Int).toNat * 3 + 1, none⟩ = some (.int .i64 ((rd_T166 x3_1 x4_1).f1)) := hcc10 1 _ rfl; have hx10_2 : w11.cell? ⟨go10, (x4_1 : Int).toNat * 3 + 2, none⟩ = some (.int .i64 ((rd_T166 x3_1 x4_1).f2)) := hcc10 2 _ rfl; have hf10_0 : w11.frozen? ⟨go10, (x4_1 : Int).toNat * 3, none⟩ = false := hfr10 0; have hf10_1 : w11.frozen? ⟨go10, (x4_1 : Int).toNat * 3 + 1, none⟩ = false := hfr10 1; have hf10_2 : w11.frozen? ⟨go10, (x4_1 : Int).toNat * 3 + 2, none⟩ = false := hfr10 2; clear hcl10 hcc10 hfr10 hM10; replace p10 := eq_true p10; replace q10 := eq_true q10; have HX12 := Aside0.mk (show Kd.R k166 166 w11 w.heap.size (fun _ => True) (.slice (some ⟨go10, 0, none⟩) x3_1.length co10) x3_1 from (kr HO_3.out)); obtain ⟨ce12, hcl12, hM12, hcc12, hfr12⟩ := Kd.R_elem HX12.out z166 (x4_1 : Int) (od) (by have h_ : (x4_1 : Int) < ((x3_1.length : Int) : Int) := od; first | exact h_ | (have e_ := (Kd.R_reads' HO_3.out).1; omega) | simpa using h_); obtain rfl := k166_openM hM12; have HP12 := Kd.R_seg HX12.out (x4_1 : Int) (od) (by have h_ : (x4_1 : Int) < ((x3_1.length : Int) : Int) := od; first | exact h_ | (have e_ := (Kd.R_reads' HO_3.out).1; omega) | simpa using h_) (seg := [.int .i64 t345, .int .i64 t346, .int .i64 t347]) (j := 0) hcl12 hcc12 (show 3 ≤ 3 from by decide) (x' := (⟨t345, t346, t347⟩ : S166)) (k166_mkM _ _ _ (⟨t345, t346, t347⟩ : S166) ) (fun _ hk => hk); have hx12_0 := hcc12 0 _ rfl; (try simp only [show (k166).sz = 3 from rfl, Nat.mul_one, Nat.add_zero] at hx12_0); have hf12_0 := hfr12 0; (try simp only [show (k166).sz = 3 from rfl, Nat.mul_one, Nat.add_zero] at hf12_0); have hx12_1 := hcc12 1 _ rfl; (try simp only [show (k166).sz = 3 from rfl, Nat.mul_one, Nat.add_zero] at hx12_1); have hf12_1 := hfr12 1; (try simp only [show (k166).sz = 3 from rfl, Nat.mul_one, Nat.add_zero] at hf12_1); have hx12_2 := hcc12 2 _ rfl; (try simp only [show (k166).sz = 3 from rfl, Nat.mul_one, Nat.add_zero] at hx12_2); have hf12_2 := hfr12 2; (try simp only [show (k166).sz = 3 from rfl, Nat.mul_one, Nat.add_zero] at hf12_2); clear hcl12 hcc12 hfr12 hM12) | ((with_reducible refine gate_store (t := 166) (p := 21) rfl ?_); refine store_event (t := 166) (p := 21) (v := ?vo_w13) (w1 := (((w11.setCell ⟨go10, (x4_1 : Int).toNat * 3, none⟩ (.int .i64 t345)).setCell ⟨go10, (x4_1 : Int).toNat * 3 + 1, none⟩ (.int .i64 t346)).setCell ⟨go10, (x4_1 : Int).toNat * 3 + 2, none⟩ (.int .i64 t347))) ?hg ?ho ?hn ?hr ?_; (case ho => rfl); (case hg => rfl); (case hn => rfl); (case hr => first | (go_simp; done) | (go_simp; rfl)); intro w13 hw; have hg : w11.grownBy w13 (some go10) := (by rw [hw]; exact HP12.2); have hp_ : Kd.R k166 166 w13 w.heap.size (fun _ => True) (.slice (some ⟨go10, 0, none⟩) x3_1.length co10) y348 := (by rw [hw, Ny348.out]; exact HP12.1); clear HP12; replace HO_3 := Aside0.mk (hp_); replace HB := Aside0.mk ((by rw [hw]; exact below_set (below_set (below_set (HB.out) GB10.out) GB10.out) GB10.out : Below w.heap.size w w13)); clear hg hw hp_))
   go_roundg k1
   case measure => have := HK1.out; omega
   case rel => exact ⟨(y348), (wrap64 (x4_1 + 1)), rsd, H', ⟨by have := HK1.out; omega⟩, ⟨kr HO_3.out⟩, ⟨tb HB⟩⟩
def laws_eqEntryS.l0 : Nat → List (S166) → List (S166) → Int → Option (Bool)
 | 0, _, _, _ => none
 | k + 1, x0, x1, x5 => if x5 < (x0.length : Int) then (if 0 ≤ x5 then (if x5 < (x1.length : Int) then ((laws_eqEntry.f ((rd_T166 x0 x5).f0) ((rd_T166 x0 x5).f1) ((rd_T166 x0 x5).f2) ((rd_T166 x1 x5).f0) ((rd_T166 x1 x5).f1) ((rd_T166 x1 x5).f2)).bind fun t407 => (if t407 = true then (laws_eqEntryS.l0 k x0 x1 (wrap64 (x5 + 1))) else (some false))) else (none)) else (none)) else (some true)
def laws_eqEntryS.f (k : Nat) (l0 : List (S166)) (l1 : List (S166)) : Option (Bool) := if (l0.length : Int) = (l1.length : Int) then (laws_eqEntryS.l0 k l0 l1 0) else (some false)
def laws_eqEntryS.T6 : Bool × List (List Nat × List Nat) := (true, [([], []), ([], []), ([0, 1], [0, 1]), ([2], [2]), ([], []), ([], []), ([4, 5], [4, 5]), ([6], [6]), ([3, 7], [3, 7]), ([8], [8])])
def laws_eqEntryS.B6 : List Nat := [0, 0, 3, 7, 0, 0, 48, 112, 255, 511]
theorem laws_eqEntryS.tab6 : rtab .any (opsOf Try.f68 6) = laws_eqEntryS.T6 := by kernel_rfl
theorem laws_eqEntryS.bits6 : waitsOk laws_eqEntryS.T6.2 laws_eqEntryS.B6 = true := by kernel_rfl
set_option maxHeartbeats 8000000 in
set_option maxRecDepth 100000 in
theorem laws_eqEntryS.calls (k : Nat) (A0 : Option Addr) (c0 : Nat) (l0 : List (S166)) (A1 : Option Addr) (c1 : Nat) (l1 : List (S166)) (r : Bool) (w : World) (hr0 : Kd.C k166 w A0 l0.length l0) (hc0 : l0.length ≤ c0) (hr1 : Kd.C k166 w A1 l1.length l1) (hc1 : l1.length ≤ c1) (h : laws_eqEntryS.f k l0 l1 = some r) :
  Calls Try.prog 68 #[.slice A0 l0.length c0, .slice A1 l1.length c1] w fun e w' => e = .returned (.bool r) ∧ Below w.heap.size w w' := by
 have hu166 := Try.underlying166
 have HR0 := Aside0.mk hr0
 have HC0 := Aside0.mk hc0
 clear hr0 hc0
 have HR1 := Aside0.mk hr1
 have HC1 := Aside0.mk hc1
 clear hr1 hc1
 have HB := Aside0.mk (Below.refl w.heap.size w)
 have H := h
 clear h
 unfold laws_eqEntryS.f at H
 by_cases c3 : (l0.length : Int) = (l1.length : Int)
 case neg =>
  rw [if_neg c3] at H
  have c3b0 : ((l0.length : Int) == (l1.length : Int)) = false := beq_eq_false_iff_ne.mpr c3
  have c3b1 : ((l0.length : Int) != (l1.length : Int)) = true := bne_iff_ne.mpr c3
  have c3b2 : (l0.length == l1.length) = false := by first | simpa using c3 | (simp at c3 ⊢; omega)
  obtain rfl := oin H
  go_enter Try.func68, Try.ntmps68
  go_wp2
  go_ret
  exact ⟨er, tb HB⟩
 
 
 rw [if_pos c3] at H
 have c3b0 : ((l0.length : Int) == (l1.length : Int)) = true := beq_iff_eq.mpr c3
 have c3b1 : ((l0.length : Int) != (l1.length : Int)) = false := bne_eq_false_iff_eq.mpr c3
 have c3b2 : (l0.length == l1.length) = true := by first | simpa using c3 | (simp at c3 ⊢; omega)
 clear c3
 have H' := Aside0.mk H
 clear H
 go_enter Try.func68, Try.ntmps68
 go_wp2
 go_loopg [5] k (fun kq v5 w' => ∃ (x5_1 : Int), v5 = .int .i64 x5_1 ∧ Aside0 (laws_eqEntryS.l0 kq l0 l1 x5_1 = some r) ∧ Aside0 (kq ≤ k) ∧ Aside0 (Below w.heap.size w w'))
 case atStart => exact ⟨(0), rsd, H', ⟨Nat.le_refl _⟩, ⟨tb HB⟩⟩
 case round =>
  clear H'
  obtain ⟨x5_1, rfl, HA, HK1, HB⟩ := hrel
  cases gk with
  | zero => exact absurd HA.out (by simp [laws_eqEntryS.l0])
  | succ k1 =>
   have H := HA.out
   clear HA
   simp only [laws_eqEntryS.l0] at H
   revert H; refine icd (fun c4b0 H => ?_) fun c4b0 H => ?neg
   case neg =>
    obtain rfl := oin H
    go_wp2
    go_ret
    exact ⟨er, tb HB⟩
   obtain ⟨c5b0, H⟩ := itd H
   obtain ⟨c6b0, H⟩ := itd H
   obtain ⟨t407, A7, H⟩ := bn H
   try dsimp only at H
   cases t407
   case false =>
    replace H := ipf H
    obtain rfl := oin H
    try go_wp2
    replace HB := Aside0.mk (below_drew1 HB.out)
    have p405 : 0 ≤ (x5_1 : Int) := od
    have q405 : x5_1 < (l0.length : Int) := od
    obtain ⟨ad405, e405, hx405⟩ := att166 HR0.out x5_1 p405 q405
    have hw405 := hx405
    cases e405
    replace hx405 := ox3 HB hx405
    replace p405 := eq_true p405
    replace q405 := eq_true q405
    have p406 : 0 ≤ (x5_1 : Int) := od
    have q406 : x5_1 < (l1.length : Int) := od
    obtain ⟨ad406, e406, hx406⟩ := att166 HR1.out x5_1 p406 q406
    have hw406 := hx406
    cases e406
    replace hx406 := ox3 HB hx406
    replace p406 := eq_true p406
    replace q406 := eq_true q406
    refine start_ (n := 10) (S := fun w' => eT166 (ad405.add ((x5_1).toNat * 3)) (rd_T166 l0 x5_1) w' ∧ eT166 (ad406.add ((x5_1).toNat * 3)) (rd_T166 l1 x5_1) w') (ds := []) #[false, false, false, false, false, false, false, false, false, false] (by kernel_rfl) rfl rfl ⟨(ox3 HB hw405 :), (ox3 HB hw406 :)⟩ (fun hHeld => ?_); refine with_tabW laws_eqEntryS.tab6 laws_eqEntryS.bits6 (fun HT_ HW_ => ?_)
    generalize wr.drew = w11 at HB hx405 hx406 hHeld ⊢
    refine pu 0 17 ?_; refine pu 1 18 ?_; refine pu 2 19 ?_; refine pu 4 21 ?_; refine pu 5 22 ?_; refine pu 6 23 ?_; refine ta 3 20 ?_; refine ta 7 24 ?_
    refine on1 8 (some 25) (fun K hK => ?_)
    refine gS Try.func142 #[.agg #[.int .i64 ((rd_T166 l0 x5_1).f0), .int .i64 ((rd_T166 l0 x5_1).f1), .int .i64 ((rd_T166 l0 x5_1).f2)], .agg #[.int .i64 ((rd_T166 l1 x5_1).f0), .int .i64 ((rd_T166 l1 x5_1).f1), .int .i64 ((rd_T166 l1 x5_1).f2)]] ?_
    with_reducible refine (laws_eqEntry.calls ((rd_T166 l0 x5_1).f0) ((rd_T166 l0 x5_1).f1) ((rd_T166 l0 x5_1).f2) ((rd_T166 l1 x5_1).f0) ((rd_T166 l1 x5_1).f1) ((rd_T166 l1 x5_1).f2) false _ A7.out).mono ?_
    rintro e w12 ⟨rfl, hb⟩
    refine ⟨_, rfl, ?_⟩
    replace HB := bs HB hb
    (try clear hb)
    (try clear hb2)
    (try clear hk)
    (try clear hi)
    refine hK.out _ _ ⟨(ox3 HB hw405 :), (ox3 HB hw406 :)⟩ (fun hHeld => ?_)
    clear hK K
    refine nm 25 ?_
    refine pu 9 26 ?_
    refine done_ (done_of HT_.out (by kernel_rfl)) ?_
    try go_wp2
    go_ret
    exact ⟨er, tb HB⟩
   replace H := ipt H
   have H' := Aside0.mk H
   clear H
   try go_wp2
   replace HB := Aside0.mk (below_drew1 HB.out)
   have p405 : 0 ≤ (x5_1 : Int) := od
   have q405 : x5_1 < (l0.length : Int) := od
   obtain ⟨ad405, e405, hx405⟩ := att166 HR0.out x5_1 p405 q405
   have hw405 := hx405
   cases e405
   replace hx405 := ox3 HB hx405
   replace p405 := eq_true p405
   replace q405 := eq_true q405
   have p406 : 0 ≤ (x5_1 : Int) := od
   have q406 : x5_1 < (l1.length : Int) := od
   obtain ⟨ad406, e406, hx406⟩ := att166 HR1.out x5_1 p406 q406
   have hw406 := hx406
   cases e406
   replace hx406 := ox3 HB hx406
   replace p406 := eq_true p406
   replace q406 := eq_true q406
   refine start_ (n := 10) (S := fun w' => eT166 (ad405.add ((x5_1).toNat * 3)) (rd_T166 l0 x5_1) w' ∧ eT166 (ad406.add ((x5_1).toNat * 3)) (rd_T166 l1 x5_1) w') (ds := []) #[false, false, false, false, false, false, false, false, false, false] (by kernel_rfl) rfl rfl ⟨(ox3 HB hw405 :), (ox3 HB hw406 :)⟩ (fun hHeld => ?_); refine with_tabW laws_eqEntryS.tab6 laws_eqEntryS.bits6 (fun HT_ HW_ => ?_)
   generalize wr.drew = w9 at HB hx405 hx406 hHeld ⊢
   refine pu 0 17 ?_; refine pu 1 18 ?_; refine pu 2 19 ?_; refine pu 4 21 ?_; refine pu 5 22 ?_; refine pu 6 23 ?_; refine ta 3 20 ?_; refine ta 7 24 ?_
   refine on1 8 (some 25) (fun K hK => ?_)
   refine gS Try.func142 #[.agg #[.int .i64 ((rd_T166 l0 x5_1).f0), .int .i64 ((rd_T166 l0 x5_1).f1), .int .i64 ((rd_T166 l0 x5_1).f2)], .agg #[.int .i64 ((rd_T166 l1 x5_1).f0), .int .i64 ((rd_T166 l1 x5_1).f1), .int .i64 ((rd_T166 l1 x5_1).f2)]] ?_
   with_reducible refine (laws_eqEntry.calls ((rd_T166 l0 x5_1).f0) ((rd_T166 l0 x5_1).f1) ((rd_T166 l0 x5_1).f2) ((rd_T166 l1 x5_1).f0) ((rd_T166 l1 x5_1).f1) ((rd_T166 l1 x5_1).f2) true _ A7.out).mono ?_
   rintro e w10 ⟨rfl, hb⟩
   refine ⟨_, rfl, ?_⟩
   replace HB := bs HB hb
   (try clear hb)
   (try clear hb2)
   (try clear hk)
   (try clear hi)
   refine hK.out _ _ ⟨(ox3 HB hw405 :), (ox3 HB hw406 :)⟩ (fun hHeld => ?_)
   clear hK K
   refine nm 25 ?_
   refine pu 9 26 ?_
   refine done_ (done_of HT_.out (by kernel_rfl)) ?_
   try go_wp2
   go_roundg k1
   case measure => have := HK1.out; omega
   case rel => exact ⟨(wrap64 (x5_1 + 1)), rsd, H', ⟨by have := HK1.out; omega⟩, ⟨tb HB⟩⟩
end Go.Proofs.Ytopikhjcbcpiaaa.Q
section
namespace Go.Proofs.Ytopikhjcbcpiaaa.Q
open Go.RowKit Go.Proofs.YtopikhjcbcpiaaaW.PrintWords Go.Proofs.YtopikhjcbcpiaaaX
theorem szIntS (l : List Int) (a : Int) (h0 : 0 ≤ a) (h1 : a ≤ 1048576) (hl : l.length ≤ 9223372036854775807) : laws_szIntS.f l a = some (if a < l.length then -1 else a - l.length) := by
  unfold laws_szIntS.f
  rw [wrap_in (by omega) (by omega)]
  by_cases h : a < l.length
  · rw [if_pos (by omega), if_pos h]
  · rw [if_neg (by omega), if_neg h]
theorem ev_toIntS (l : List Int) (hl : l.length ≤ 1048576) : Ev (fun k => laws_toIntS.f k l) l := by
  unfold laws_toIntS.f
  refine ev_pos (by omega) (ev_pos (by omega) ?_)
  refine ev_to (ev_fill (g := fun k acc i => laws_toIntS.l0 k l acc i) (l := l) (cv := fun x => x) (za := 0) ?_ ?_ _ (by simp)) (by simp)
  · intro acc i r hi hacc h
    refine Ev.step (fun k => ?_) h
    simp only [laws_toIntS.l0]
    rw [if_pos (by omega), if_pos (by omega), if_pos (by omega), wrap_succ hi (by omega)]
    rfl
  · intro acc hacc
    refine ev_succ (fun k => ?_)
    simp only [laws_toIntS.l0]
    rw [if_neg (by omega)]
theorem ev_eqIntS (l : List Int) (hl : l.length ≤ 1048576) : Ev (fun k => laws_eqIntS.f k l l) true := by
  unfold laws_eqIntS.f
  refine ev_pos rfl ?_
  refine ev_down (g := fun k i => laws_eqIntS.l0 k l l i) (R := fun _ => true) (n := l.length) ?_ 0 (by omega)
  intro i hi h
  by_cases hlt : i < l.length
  · refine Ev.step (fun k => ?_) (h hlt)
    simp only [laws_eqIntS.l0]
    rw [if_pos (by omega), if_pos (by omega), if_pos (by omega), if_pos trivial, wrap_succ hlt (by omega)]
  · refine ev_succ (fun k => ?_)
    simp only [laws_eqIntS.l0]
    rw [if_neg (by omega)]
def marks (m : Int) (i n : Nat) : List Int := (List.range' i n).map fun j => m + ((j : Nat) : Int)
theorem marks_length (m : Int) (i n : Nat) : (marks m i n).length = n := by simp [marks]
theorem ev_markIntS (l : List Int) (m : Int) (h0 : 0 ≤ m) (h1 : m ≤ 4503599627370496) (hl : l.length ≤ 1048576) : Ev (fun k => laws_markIntS.f k l m) (m + l.length, marks m 0 l.length) := by
  have key : ∀ (d i : Nat) (acc : List Int), acc.length = l.length → i + d = l.length → Ev (fun k => laws_markIntS.l0 k acc (m + (i : Int)) (i : Int)) (m + l.length, acc.take i ++ marks m i d) := by
    intro d
    induction d with
    | zero =>
      intro i acc ha hi
      obtain rfl : i = l.length := by omega
      refine ev_succ (fun k => ?_)
      simp only [laws_markIntS.l0]
      rw [if_neg (by omega)]
      simp [marks, ← ha]
    | succ d ih =>
      intro i acc ha hi
      have e1 : wrap64 (m + (i : Int) + 1) = m + ((i + 1 : Nat) : Int) := by rw [wrap_in (by omega) (by omega)]; omega
      refine ev_to (Ev.step (fun k => ?_) (ih (i + 1) (acc.set i (m + (i : Int))) (by simpa using ha) (by omega))) ?_
      · simp only [laws_markIntS.l0]
        rw [if_pos (by omega), if_pos (by omega), wrap_succ (show i < l.length by omega) (by omega), e1]
        rfl
      · have h2 : (acc.set i (m + (i : Int))).take (i + 1) = acc.take i ++ [m + (i : Int)] := by
          rw [List.take_succ_eq_append_getElem (by simp; omega)]
          simp [List.take_set_of_le]
        rw [h2, List.append_assoc]
        simp [marks, List.range'_succ]
  refine ev_to (q := (m + l.length, marks m 0 l.length)) (ev_to (key l.length 0 l rfl (by omega)) (by simp)) rfl |> fun h => ?_
  simpa [laws_markIntS.f] using h
theorem ev_heldIntS (m : Int) (n : Nat) (h0 : 0 ≤ m) (h1 : m ≤ 4503599627370496) (hn : n ≤ 1048576) : Ev (fun k => laws_heldIntS.f k (marks m 0 n) m) (m + n) := by
  have key := ev_down (g := fun k i => laws_heldIntS.l0 k (marks m 0 n) (m + i) i) (R := fun _ => m + n) (n := n) (fun i hi h => ?_) 0 (by omega)
  · simpa [laws_heldIntS.f] using key
  · have hlen := marks_length m 0 n
    by_cases hlt : i < n
    · have e1 : wrap64 (m + (i : Int) + 1) = m + ((i + 1 : Nat) : Int) := by rw [wrap_in (by omega) (by omega)]; omega
      have e2 : rd (marks m 0 n) (i : Int) = m + (i : Int) := by
        simp [rd, marks, List.getD_eq_getElem?_getD, hlt]
      refine Ev.step (fun k => ?_) (h hlt)
      simp only [laws_heldIntS.l0]
      rw [if_pos (by omega), if_pos (by omega), if_pos e2, wrap_succ hlt (by omega), e1]
    · obtain rfl : i = n := by omega
      refine ev_succ (fun k => ?_)
      simp only [laws_heldIntS.l0]
      rw [if_neg (by omega)]
end Go.Proofs.Ytopikhjcbcpiaaa.Q
end
section
namespace Go.Proofs.Ytopikhjcbcpiaaa.Q
open Go.RowKit Go.Proofs.YtopikhjcbcpiaaaW.PrintWords Go.Proofs.YtopikhjcbcpiaaaW.PrintLast Go.Proofs.YtopikhjcbcpiaaaW.PrintMore
attribute [local go_sem] max2_int min2_int max_two min_two max_three min_three max_four min_four
set_option linter.unusedVariables false
set_option linter.unusedSimpArgs false
def El (okS : Nat → Prop) (base : Nat) (W : World) (g n cap : Nat) (xs : List S145) (i : Int) (A2 : Option Addr) (c2 : Nat) (A4 : Option Addr) (c4 : Nat) (oki : Nat → Prop) (x : S145) : Prop :=
  Kd.H k145 145 W base okS (.slice (some ⟨g, 0, none⟩) n cap) xs i oki [.int .i64 x.f0, .int .i64 x.f1, .slice A2 x.f2.length c2, .int .i64 x.f3.f0, .slice A4 x.f3.f1.length c4] ∧
  Kd.R k166 166 W base oki (.slice A2 x.f2.length c2) x.f2 ∧ Kd.R (Kd.int .i64) 3 W base oki (.slice A4 x.f3.f1.length c4) x.f3.f1 ∧ (∀ k, oki k → okS k ∧ k ≠ g)
section
variable {okS oki : Nat → Prop} {base : Nat} {W W2 : World} {g n cap : Nat} {xs : List S145} {i : Int} {A2 A4 : Option Addr} {c2 c4 : Nat} {x : S145}
theorem El_open (h : Kd.S k145 145 W base okS (.slice (some ⟨g, 0, none⟩) n cap) xs) (h0 : 0 ≤ i) (h1 : i < n) : ∃ A2 c2 A4 c4 oki, El okS base W g n cap xs i A2 c2 A4 c4 oki (rd_T145 xs i) := by
  obtain ⟨oki, c, hcl, hM, hcc, hoki, hH⟩ := Kd.S_lend h z145 i h0 h1
  obtain ⟨v2, v4, rfl, g2, g4⟩ := k145_openM hM
  obtain ⟨A2, c2, rfl⟩ := Kd.R_slice g2
  obtain ⟨A4, c4, rfl⟩ := Kd.R_slice g4
  exact ⟨A2, c2, A4, c4, oki, hH, g2, g4, hoki⟩
theorem El_cells (h : El okS base W g n cap xs i A2 c2 A4 c4 oki x) (h0 : 0 ≤ i) (h1 : i < n) :
    (W.cell? ⟨g, i.toNat * 5, none⟩ = some (.int .i64 x.f0) ∧ W.cell? ⟨g, i.toNat * 5 + 1, none⟩ = some (.int .i64 x.f1) ∧ W.cell? ⟨g, i.toNat * 5 + 2, none⟩ = some (.slice A2 x.f2.length c2) ∧ W.cell? ⟨g, i.toNat * 5 + 3, none⟩ = some (.int .i64 x.f3.f0) ∧ W.cell? ⟨g, i.toNat * 5 + 4, none⟩ = some (.slice A4 x.f3.f1.length c4)) ∧
    (W.frozen? ⟨g, i.toNat * 5, none⟩ = false ∧ W.frozen? ⟨g, i.toNat * 5 + 1, none⟩ = false ∧ W.frozen? ⟨g, i.toNat * 5 + 2, none⟩ = false ∧ W.frozen? ⟨g, i.toNat * 5 + 3, none⟩ = false ∧ W.frozen? ⟨g, i.toNat * 5 + 4, none⟩ = false) := by
  obtain ⟨hc, hf⟩ := Kd.H_at h.1 h0 h1
  exact ⟨⟨hc 0 _ rfl, hc 1 _ rfl, hc 2 _ rfl, hc 3 _ rfl, hc 4 _ rfl⟩, hf 0, hf 1, hf 2, hf 3, hf 4⟩
theorem El_seg (h : El okS base W g n cap xs i A2 c2 A4 c4 oki x) (h0 : 0 ≤ i) (h1 : i < n) (j : Nat) (u : Value) (x' : S145) (hj : j + 1 ≤ 5) (hu : u.oneCell' = true) (e2 : x'.f2 = x.f2) (e4 : x'.f3.f1 = x.f3.f1)
    (hc : ([.int .i64 x.f0, .int .i64 x.f1, .slice A2 x.f2.length c2, .int .i64 x.f3.f0, .slice A4 x.f3.f1.length c4] : List Value).take j ++ [u] ++ ([.int .i64 x.f0, .int .i64 x.f1, .slice A2 x.f2.length c2, .int .i64 x.f3.f0, .slice A4 x.f3.f1.length c4] : List Value).drop (j + 1) = [.int .i64 x'.f0, .int .i64 x'.f1, .slice A2 x'.f2.length c2, .int .i64 x'.f3.f0, .slice A4 x'.f3.f1.length c4]) :
    El okS base (W.setCell ⟨g, i.toNat * 5 + j, none⟩ u) g n cap xs i A2 c2 A4 c4 oki x' ∧ W.grownBy (W.setCell ⟨g, i.toNat * 5 + j, none⟩ u) (some g) := by
  obtain ⟨hH, g2, g4, ho⟩ := h
  obtain ⟨hH', hg⟩ := Kd.H_seg hH h0 h1 (seg := [u]) (j := j) hj (fun q hq => by simp only [List.mem_singleton] at hq; subst hq; exact hu)
  have hg' : W.grownBy (W.setCell ⟨g, i.toNat * 5 + j, none⟩ u) (some g) := hg
  refine ⟨⟨?_, ?_, ?_, ho⟩, hg'⟩
  · rw [← hc]; exact hH'
  · rw [e2]; exact Kd.R_grown g2 hg' (fun k hk e => (ho k hk).2 (Option.some.inj e))
  · rw [e4]; exact Kd.R_grown g4 hg' (fun k hk e => (ho k hk).2 (Option.some.inj e))
theorem El_row2 (h : El okS base W g n cap xs i A2 c2 A4 c4 oki x) {l : List S166} {ok' : Nat → Prop} (hk : Kept W W2 (fun k => some k = (Value.slice A2 x.f2.length c2).ownBlock)) (hl : Kd.R k166 166 W2 base ok' (.slice A2 x.f2.length c2) l) :
    El okS base W2 g n cap xs i A2 c2 A4 c4 oki ⟨x.f0, x.f1, l, x.f3⟩ := by
  obtain ⟨hH, g2, g4, ho⟩ := h
  have hlen := (Kd.R_reads' hl).1
  have h4 := Kd.R_apart' (e' := 166) g4 (Kd.R_typed g2) (by decide)
  refine ⟨?_, ?_, Kd.R_mono (Kd.R_kept h4 hk (fun k hk2 e => hk2.2 e)) (fun k hk2 => hk2.1), ho⟩
  · show Kd.H k145 145 W2 base okS _ xs i oki [_, _, .slice A2 l.length c2, _, _]
    rw [← hlen]
    exact Kd.H_kept hH hk (fun k _ hn e => hn (g2.1 k e.symm))
  · show Kd.R k166 166 W2 base oki (.slice A2 l.length c2) l
    rw [← hlen]
    exact Kd.R_mono (Kd.R_tight rfl hl) (fun k e => g2.1 k e.symm)
theorem El_row4 (h : El okS base W g n cap xs i A2 c2 A4 c4 oki x) {l : List Int} {ok' : Nat → Prop} (hk : Kept W W2 (fun k => some k = (Value.slice A4 x.f3.f1.length c4).ownBlock)) (hl : Kd.R (Kd.int .i64) 3 W2 base ok' (.slice A4 x.f3.f1.length c4) l) :
    El okS base W2 g n cap xs i A2 c2 A4 c4 oki ⟨x.f0, x.f1, x.f2, ⟨x.f3.f0, l⟩⟩ := by
  obtain ⟨hH, g2, g4, ho⟩ := h
  have hlen := (Kd.R_reads' hl).1
  have h2 := Kd.R_apart' (e' := 3) g2 (Kd.R_typed g4) (by decide)
  refine ⟨?_, Kd.R_mono (Kd.R_kept h2 hk (fun k hk2 e => hk2.2 e)) (fun k hk2 => hk2.1), ?_, ho⟩
  · show Kd.H k145 145 W2 base okS _ xs i oki [_, _, _, _, .slice A4 l.length c4]
    rw [← hlen]
    exact Kd.H_kept hH hk (fun k _ hn e => hn (g4.1 k e.symm))
  · show Kd.R (Kd.int .i64) 3 W2 base oki (.slice A4 l.length c4) l
    rw [← hlen]
    exact Kd.R_mono (Kd.R_tight rfl hl) (fun k e => g4.1 k e.symm)
theorem El_back (h : El okS base W g n cap xs i A2 c2 A4 c4 oki x) : Kd.S k145 145 W base okS (.slice (some ⟨g, 0, none⟩) n cap) (xs.set i.toNat x) :=
  Kd.H_back h.1 (k145_mkM W base oki x h.2.1 h.2.2.1) (fun _ hk => hk)
theorem El_r2 (h : El okS base W g n cap xs i A2 c2 A4 c4 oki x) : Kd.R k166 166 W base oki (.slice A2 x.f2.length c2) x.f2 := h.2.1
theorem El_r4 (h : El okS base W g n cap xs i A2 c2 A4 c4 oki x) : Kd.R (Kd.int .i64) 3 W base oki (.slice A4 x.f3.f1.length c4) x.f3.f1 := h.2.2.1
theorem El_ok2 (h : El okS base W g n cap xs i A2 c2 A4 c4 oki x) : ∀ k, some k = (Value.slice A2 x.f2.length c2).ownBlock → okS k := fun k e => (h.2.2.2 k (h.2.1.1 k e.symm)).1
theorem El_ok4 (h : El okS base W g n cap xs i A2 c2 A4 c4 oki x) : ∀ k, some k = (Value.slice A4 x.f3.f1.length c4).ownBlock → okS k := fun k e => (h.2.2.2 k (h.2.2.1.1 k e.symm)).1
end
def laws_markDescSX.l0 : Nat → List S145 → Int → Int → Option (Int × List S145)
  | 0, _, _, _ => none
  | k + 1, x0, x1, x5 => if x5 < (x0.length : Int) then (if 0 ≤ x5 then ((laws_markEntryS.f k (rd_T145 x0 x5).f2 (wrap64 ((wrap64 (x1 + 1)) + 1))).bind fun b2 => ((laws_markIntS.f k (rd_T145 x0 x5).f3.f1 (wrap64 (b2.1 + 1))).bind fun b4 => (laws_markDescSX.l0 k (x0.set (x5 : Int).toNat (⟨x1, wrap64 (x1 + 1), b2.2, ⟨b2.1, b4.2⟩⟩ : S145)) b4.1 (wrap64 (x5 + 1))))) else none) else (some (x1, x0))
def laws_markDescSX.f (k : Nat) (l0 : List S145) (a1 : Int) : Option (Int × List S145) := laws_markDescSX.l0 k l0 a1 0
theorem laws_markDescSX.mono_l : ∀ k, (∀ y0 y1 y2, LeO (laws_markDescSX.l0 k y0 y1 y2) (laws_markDescSX.l0 (k + 1) y0 y1 y2))
  | 0 => fun _ _ _ r h => by simp [laws_markDescSX.l0] at h
  | k + 1 => by
    have ih0 := laws_markDescSX.mono_l k
    · intro y0 y1 y2
      unfold laws_markDescSX.l0
      repeat' first
      | (with_reducible exact ih0 _ _ _)
      | (with_reducible exact laws_markEntryS.mono _ _ _)
      | (with_reducible exact laws_markIntS.mono _ _ _)
      | (with_reducible exact LeO.refl _)
      | (with_reducible exact LeO.none _)
      | (with_reducible refine LeO.ite ?_ ?_)
      | (with_reducible refine LeO.bind ?_ (fun _ => ?_))
theorem laws_markDescSX.mono : ∀ a0 a1 k, LeO (laws_markDescSX.f k a0 a1) (laws_markDescSX.f (k + 1) a0 a1) := by
  intro a0 a1 k
  exact laws_markDescSX.mono_l k a0 a1 0
set_option maxHeartbeats 8000000 in
set_option maxRecDepth 100000 in
theorem laws_markDescSX.calls (k : Nat) (P0_ : Nat → Prop) (u9000_ : Value) (l0 : List S145) (a1 : Int) (r1 : Int) (r2 : List S145) (w0 w : World) (hB : Below w0.heap.size w0 w) (ho0 : Kd.S k145 145 w w0.heap.size P0_ u9000_ l0) (h : laws_markDescSX.f k l0 a1 = some (r1, r2)) :
    Calls Try.prog 29 #[u9000_, .int .i64 a1] w fun e w' => e = .returned (.int .i64 r1) ∧ Kd.S k145 145 w' w0.heap.size (fun k_ => (P0_ k_ ∨ w.heap.size ≤ k_)) u9000_ r2 ∧ Below w0.heap.size w0 w' ∧ Kept w w' (fun k_ => P0_ k_) := by
  have HO0 := Aside0.mk (show Kd.S k145 145 w w0.heap.size (fun k_ => (P0_ k_ ∨ w.heap.size ≤ k_)) u9000_ l0 from Kd.S_mono ho0 (fun k_ hk => (.inl hk)))
  clear ho0
  have HK := Aside0.mk (Kept.refl w (fun k_ => P0_ k_))
  have HW0 := Aside0.mk hB.size
  have HB := Aside0.mk hB
  clear hB
  have H' := Aside0.mk (show (laws_markDescSX.l0 k l0 a1 0) = some (r1, r2) from h)
  clear h
  go_enter Try.func29, Try.ntmps29
  go_wp2
  go_loopg [1, 5] k (fun kq v1 v5 w' => ∃ (x0_1 : List S145) (x1_1 : Int) (x5_1 : Int), v1 = .int .i64 x1_1 ∧ v5 = .int .i64 x5_1 ∧ Aside0 (laws_markDescSX.l0 kq x0_1 x1_1 x5_1 = some (r1, r2)) ∧ Aside0 (kq ≤ k) ∧ Aside0 (Kd.S k145 145 w' w0.heap.size (fun k_ => (P0_ k_ ∨ w.heap.size ≤ k_)) u9000_ x0_1) ∧ Aside0 (Kept w w' (fun k_ => P0_ k_)) ∧ Aside0 (Below w0.heap.size w0 w'))
  case atStart => exact ⟨l0, a1, 0, (by first | rfl | (simp; done) | (simp [*]; done)), (by first | rfl | (simp; done) | (simp [*]; done)), H', ⟨Nat.le_refl _⟩, ⟨HO0.out⟩, ⟨HK.out⟩, ⟨HB.out⟩⟩
  case round =>
    clear H'
    try clear p2
    obtain ⟨x0_1, x1_1, x5_1, rfl, rfl, HA, HK1, HO_0, HK, HB⟩ := hrel
    cases gk with
    | zero => exact absurd HA.out (by simp [laws_markDescSX.l0])
    | succ k1 =>
      have H := HA.out
      clear HA
      simp only [laws_markDescSX.l0] at H
      by_cases c3 : x5_1 < (x0_1.length : Int)
      · rw [if_pos c3] at H
        have c3b0 := decide_eq_true c3
        by_cases c4 : 0 ≤ x5_1
        · rw [if_pos c4] at H
          have c4b0 := decide_eq_true c4
          obtain ⟨⟨t2, l2⟩, A2, H⟩ := Option.bind_eq_some_iff.mp H
          obtain ⟨⟨t4, l4⟩, A4, H⟩ := Option.bind_eq_some_iff.mp H
          dsimp only at A4 H
          have H' := Aside0.mk H
          have B2 := Aside0.mk A2
          have B4 := Aside0.mk A4
          clear H A2 A4
          obtain ⟨go5, co5, rfl, gb5, gl5, cl5, HG5⟩ := Kd.S_form HO_0.out (by omega)
          have GB5 := Aside0.mk gb5
          have HM5 := Aside0.mk (show (P0_ go5 ∨ w.heap.size ≤ go5) from ((Kd.S_R HO_0.out).1 _ rfl))
          obtain ⟨E2, d2, E4, d4, oki, E⟩ := El_open HO_0.out c4 c3
          clear gb5 gl5 HG5 HO_0 c3 c4
          have p5 : 0 ≤ (x5_1 : Int) := od
          have q5 : (x5_1 : Int) < ((x0_1.length : Int) : Int) := od
          obtain ⟨⟨hx5_0, hx5_1, hx5_2, hx5_3, hx5_4⟩, hf5_0, hf5_1, hf5_2, hf5_3, hf5_4⟩ := El_cells E p5 q5
          have HP5 := El_seg E p5 q5 0 (.int .i64 x1_1) ⟨x1_1, (rd_T145 x0_1 x5_1).f1, (rd_T145 x0_1 x5_1).f2, (rd_T145 x0_1 x5_1).f3⟩ (by decide) rfl rfl rfl rfl
          clear E
          replace p5 := eq_true p5
          replace q5 := eq_true q5
          go_wp2_with (first
            | ((with_reducible refine gate_store (t := 3) (p := 16) rfl ?_); refine store_event (t := 3) (p := 16) (v := ?vo_w10) (w1 := (wr.setCell ⟨go5, (x5_1 : Int).toNat * 5, none⟩ (.int .i64 x1_1))) ?hg ?ho ?hn ?hr ?_; (case ho => rfl); (case hg => rfl); (case hn => rfl); (case hr => first | (go_simp; done) | (go_simp; rfl)); intro w10 hw
               have hg : wr.grownBy w10 (some go5) := (by rw [hw]; exact HP5.2)
               have E := (show El _ w0.heap.size w10 go5 _ co5 x0_1 x5_1 E2 d2 E4 d4 oki _ from (by rw [hw]; exact HP5.1))
               clear HP5
               replace HB := Aside0.mk ((by rw [hw]; exact below_set (HB.out) GB5.out : Below w0.heap.size w0 w10))
               replace HK := Aside0.mk (Kept.of_grown (S := (fun k_ => P0_ k_)) hg HK.out (fun k_ e_ => by cases e_; exact HM5.out))
               clear hg hw
               have p5 : 0 ≤ (x5_1 : Int) := od
               have q5 : (x5_1 : Int) < ((x0_1.length : Int) : Int) := od
               obtain ⟨⟨hx5_0, hx5_1, hx5_2, hx5_3, hx5_4⟩, hf5_0, hf5_1, hf5_2, hf5_3, hf5_4⟩ := El_cells E p5 q5
               have HP6 := El_seg E p5 q5 1 (.int .i64 (wrap64 (x1_1 + 1))) ⟨x1_1, wrap64 (x1_1 + 1), (rd_T145 x0_1 x5_1).f2, (rd_T145 x0_1 x5_1).f3⟩ (by decide) rfl rfl rfl rfl
               clear E
               replace p5 := eq_true p5
               replace q5 := eq_true q5)
            | ((with_reducible refine gate_store (t := 3) (p := 23) rfl ?_); refine store_event (t := 3) (p := 23) (v := ?vo_w11) (w1 := (w10.setCell ⟨go5, (x5_1 : Int).toNat * 5 + 1, none⟩ (.int .i64 (wrap64 (x1_1 + 1))))) ?hg ?ho ?hn ?hr ?_; (case ho => rfl); (case hg => rfl); (case hn => rfl); (case hr => first | (go_simp; done) | (go_simp; rfl)); intro w11 hw
               have hg : w10.grownBy w11 (some go5) := (by rw [hw]; exact HP6.2)
               have E := (show El _ w0.heap.size w11 go5 _ co5 x0_1 x5_1 E2 d2 E4 d4 oki _ from (by rw [hw]; exact HP6.1))
               clear HP6
               replace HB := Aside0.mk ((by rw [hw]; exact below_set (HB.out) GB5.out : Below w0.heap.size w0 w11))
               replace HK := Aside0.mk (Kept.of_grown (S := (fun k_ => P0_ k_)) hg HK.out (fun k_ e_ => by cases e_; exact HM5.out))
               clear hg hw
               have p5 : 0 ≤ (x5_1 : Int) := od
               have q5 : (x5_1 : Int) < ((x0_1.length : Int) : Int) := od
               obtain ⟨⟨hx5_0, hx5_1, hx5_2, hx5_3, hx5_4⟩, hf5_0, hf5_1, hf5_2, hf5_3, hf5_4⟩ := El_cells E p5 q5
               have E6 := Aside0.mk E
               clear E
               replace p5 := eq_true p5
               replace q5 := eq_true q5)
            | (go_at_call 69; (with_reducible refine (laws_markEntryS.calls k1 _ _ _ _ t2 l2 w0 _ HB.out (Kd.R_tight rfl (El_r2 E6.out)) B2.out).mono ?_); rintro e w12 ⟨rfl, hy, hb, hkp⟩
               have E := El_row2 E6.out hkp hy
               replace HK := Aside0.mk (Kept.then_ HK.out hkp (El_ok2 E6.out))
               replace HB := Aside0.mk hb
               clear E6 hkp hy hb
               have p5 : 0 ≤ (x5_1 : Int) := od
               have q5 : (x5_1 : Int) < ((x0_1.length : Int) : Int) := od
               obtain ⟨⟨hx5_0, hx5_1, hx5_2, hx5_3, hx5_4⟩, hf5_0, hf5_1, hf5_2, hf5_3, hf5_4⟩ := El_cells E p5 q5
               have HP7 := El_seg E p5 q5 3 (.int .i64 t2) ⟨x1_1, wrap64 (x1_1 + 1), l2, ⟨t2, (rd_T145 x0_1 x5_1).f3.f1⟩⟩ (by decide) rfl rfl rfl rfl
               clear E
               replace p5 := eq_true p5
               replace q5 := eq_true q5)
            | ((with_reducible refine gate_store (t := 3) (p := 38) rfl ?_); refine store_event (t := 3) (p := 38) (v := ?vo_w13) (w1 := (w12.setCell ⟨go5, (x5_1 : Int).toNat * 5 + 3, none⟩ (.int .i64 t2))) ?hg ?ho ?hn ?hr ?_; (case ho => rfl); (case hg => rfl); (case hn => rfl); (case hr => first | (go_simp; done) | (go_simp; rfl)); intro w13 hw
               have hg : w12.grownBy w13 (some go5) := (by rw [hw]; exact HP7.2)
               have E := (show El _ w0.heap.size w13 go5 _ co5 x0_1 x5_1 E2 d2 E4 d4 oki _ from (by rw [hw]; exact HP7.1))
               clear HP7
               replace HB := Aside0.mk ((by rw [hw]; exact below_set (HB.out) GB5.out : Below w0.heap.size w0 w13))
               replace HK := Aside0.mk (Kept.of_grown (S := (fun k_ => P0_ k_)) hg HK.out (fun k_ e_ => by cases e_; exact HM5.out))
               clear hg hw
               have p5 : 0 ≤ (x5_1 : Int) := od
               have q5 : (x5_1 : Int) < ((x0_1.length : Int) : Int) := od
               obtain ⟨⟨hx5_0, hx5_1, hx5_2, hx5_3, hx5_4⟩, hf5_0, hf5_1, hf5_2, hf5_3, hf5_4⟩ := El_cells E p5 q5
               have E7 := Aside0.mk E
               clear E
               replace p5 := eq_true p5
               replace q5 := eq_true q5)
            | (go_at_call 30; (with_reducible refine (laws_markIntS.calls k1 _ _ _ _ t4 l4 w0 _ HB.out (Kd.R_tight rfl (El_r4 E7.out)) B4.out).mono ?_); rintro e w14 ⟨rfl, hy, hb, hkp⟩
               have E := El_row4 E7.out hkp hy
               replace HK := Aside0.mk (Kept.then_ HK.out hkp (El_ok4 E7.out))
               replace HB := Aside0.mk hb
               clear E7 hkp hy hb
               have HO_0 := Aside0.mk (El_back E)
               clear E))
          go_roundg k1
          case measure => have := HK1.out; omega
          case rel => exact ⟨_, t4, (wrap64 (x5_1 + 1)), (by first | rfl | (simp; done) | (simp [*]; done)), (by first | rfl | (simp; done) | (simp [*]; done)), H', ⟨by have := HK1.out; omega⟩, ⟨HO_0.out⟩, ⟨HK.out⟩, ⟨HB.out⟩⟩
        · rw [if_neg c4] at H
          exact absurd H (by simp)
      · rw [if_neg c3] at H
        have c3b0 := decide_eq_false c3
        clear c3
        simp only [Option.some.injEq, Prod.mk.injEq] at H
        obtain ⟨rfl, rfl⟩ := H
        obtain ⟨Ao15, co15, eo15⟩ := Kd.S_slice HO_0.out
        subst eo15
        go_wp2
        go_ret
        exact ⟨er, HO_0.out, HB.out, HK.out⟩
def laws_markDescS.f (k : Nat) (l0 : List S145) (a1 : Int) : Option Int := (laws_markDescSX.f k l0 a1).bind fun r => some r.1
theorem laws_markDescS.mono : ∀ a0 a1 k, LeO (laws_markDescS.f k a0 a1) (laws_markDescS.f (k + 1) a0 a1) := by
  intro a0 a1 k
  exact LeO.bind (laws_markDescSX.mono a0 a1 k) (fun _ => LeO.refl _)
theorem laws_markDescS.calls (k : Nat) (P0_ : Nat → Prop) (u9000_ : Value) (l0 : List S145) (a1 : Int) (r : Int) (w0 w : World) (hB : Below w0.heap.size w0 w) (ho0 : Kd.S k145 145 w w0.heap.size P0_ u9000_ l0) (h : laws_markDescS.f k l0 a1 = some r) :
    Calls Try.prog 29 #[u9000_, .int .i64 a1] w fun e w' => e = .returned (.int .i64 r) ∧ Below w0.heap.size w0 w' ∧ Kept w w' (fun k_ => P0_ k_) := by
  unfold laws_markDescS.f at h
  obtain ⟨⟨r1, r2⟩, h1, h2⟩ := Option.bind_eq_some_iff.mp h
  obtain rfl := Option.some.inj h2
  exact (laws_markDescSX.calls k P0_ u9000_ l0 a1 r1 r2 w0 w hB ho0 h1).mono (fun e w' hh => ⟨hh.1, hh.2.2.1, hh.2.2.2⟩)
theorem S_not_typed {ok : Prop} {b : Nat} {w : World} {k : Nat} {L : List TypeId} {t : TypeId} (h : ok ∧ b ≤ k ∧ k < w.heap.size ∧ ∃ q, q ∈ L ∧ ∃ cells, w.heap[k]? = some (.cells cells q (0, 0))) (h2 : ∃ cells, w.heap[k]? = some (.cells cells t (0, 0))) (ht : ∀ q, q ∈ L → q ≠ t) : False := by
  obtain ⟨_, _, _, q, hq, c, hc⟩ := h
  obtain ⟨c2, hc2⟩ := h2
  rw [hc] at hc2
  injection hc2 with hc2
  injection hc2 with _ e
  exact ht q hq e
end Go.Proofs.Ytopikhjcbcpiaaa.Q
end
namespace Go.Proofs.Ytopikhjcbcpiaaa.Q
open Go.RowKit Go.Proofs.YtopikhjcbcpiaaaW.PrintWords Go.Proofs.YtopikhjcbcpiaaaW.PrintLast Go.Proofs.YtopikhjcbcpiaaaW.PrintMore
attribute [local go_sem] max2_int min2_int max_two min_two max_three min_three max_four min_four   -- for this text's walks alone
set_option linter.unusedVariables false
set_option linter.unusedSimpArgs false
def laws_szRes.f (a0_0 : Int) (l0_1 : List Int) (a1 : Int) : Option (Int) := (laws_szIntS.f l0_1 a1).bind fun t293 => (if t293 < 0 then (some (-1)) else (some t293))
set_option maxHeartbeats 8000000 in
set_option maxRecDepth 100000 in
theorem laws_szRes.calls (a0_0 : Int) (A0_1 : Option Addr) (c0_1 : Nat) (l0_1 : List Int) (a1 : Int) (r : Int) (w : World) (hr0_1 : Kd.C (Kd.int .i64) w A0_1 l0_1.length l0_1) (hc0_1 : l0_1.length ≤ c0_1) (h : laws_szRes.f a0_0 l0_1 a1 = some r) :
  Calls Try.prog 33 #[.agg #[.int .i64 a0_0, .slice A0_1 l0_1.length c0_1], .int .i64 a1] w fun e w' => e = .returned (.int .i64 r) ∧ Below w.heap.size w w' := by
 have hu62 := Try.underlying62
 have HR0_1 := Aside0.mk hr0_1
 have HC0_1 := Aside0.mk hc0_1
 clear hr0_1 hc0_1
 have HB := Aside0.mk (Below.refl w.heap.size w)
 have H := h
 clear h
 unfold laws_szRes.f at H
 obtain ⟨t293, A3, H⟩ := bn H
 try dsimp only at H
 revert H; refine icd (fun c4b0 H => ?pos) fun c4b0 H => ?_
 case pos =>
  obtain rfl := oin H
  go_enter Try.func33, Try.ntmps33
  go_wp2_with (first | ((with_reducible refine gq 2 rfl ?_); refine bx0 HB (N := 2) (t := 62) ?_; clear HB; intro gb292 w5 BK292 GE292 HB; have hz6 := cs2_ BK292) | ((with_reducible refine gf 102 rfl ?_); refine gL 8 Try.func102 #[.slice A0_1 l0_1.length c0_1, .int .i64 a1] ?_; (with_reducible refine (laws_szIntS.calls _ _ l0_1 a1 t293 _ (kc HR0_1 HB) HC0_1.out A3.out).mono ?_); rintro e w' ⟨rfl, ⟨nd, rfl⟩⟩; refine ⟨_, rfl, ?_⟩))
  go_ret
  exact ⟨er, tb HB⟩
 obtain rfl := oin H
 go_enter Try.func33, Try.ntmps33
 go_wp2_with (first | ((with_reducible refine gq 2 rfl ?_); refine bx0 HB (N := 2) (t := 62) ?_; clear HB; intro gb292 w7 BK292 GE292 HB; have hz8 := cs2_ BK292) | ((with_reducible refine gf 102 rfl ?_); refine gL 8 Try.func102 #[.slice A0_1 l0_1.length c0_1, .int .i64 a1] ?_; (with_reducible refine (laws_szIntS.calls _ _ l0_1 a1 t293 _ (kc HR0_1 HB) HC0_1.out A3.out).mono ?_); rintro e w' ⟨rfl, ⟨nd, rfl⟩⟩; refine ⟨_, rfl, ?_⟩))
 go_ret
 exact ⟨er, tb HB⟩
def laws_toRes.f (k : Nat) (a0_0 : Int) (l0_1 : List Int) : Option (Int × List Int) := (laws_toIntS.f k l0_1).bind fun t335 => (some (a0_0, t335))
set_option maxHeartbeats 8000000 in
set_option maxRecDepth 100000 in
theorem laws_toRes.calls (k : Nat) (a0_0 : Int) (A0_1 : Option Addr) (c0_1 : Nat) (l0_1 : List Int) (r1 : Int) (r2 : List Int) (w : World) (hr0_1 : Kd.C (Kd.int .i64) w A0_1 l0_1.length l0_1) (hc0_1 : l0_1.length ≤ c0_1) (h : laws_toRes.f k a0_0 l0_1 = some (r1, r2)) :
  Calls Try.prog 37 #[.agg #[.int .i64 a0_0, .slice A0_1 l0_1.length c0_1]] w fun e w' => ∃ v1_ : Value, e = .returned (.agg #[.int .i64 r1, v1_]) ∧ Kd.R (Kd.int .i64) 3 w' w.heap.size (fun _ => True) v1_ r2 ∧ Below w.heap.size w w' := by
 have hu62 := Try.underlying62
 have hu70 := Try.underlying70
 have HR0_1 := Aside0.mk hr0_1
 have HC0_1 := Aside0.mk hc0_1
 clear hr0_1 hc0_1
 have HB := Aside0.mk (Below.refl w.heap.size w)
 have H := h
 clear h
 unfold laws_toRes.f at H
 obtain ⟨t335, A2, H⟩ := bn H
 try dsimp only at H
 simp only [Option.some.injEq, Prod.mk.injEq] at H
 obtain ⟨rfl, rfl⟩ := H
 go_enter Try.func37, Try.ntmps37
 go_wp2_with (first | ((with_reducible refine gq 1 rfl ?_); refine bx0 HB (N := 1) (t := 62) ?_; clear HB; intro gb332 w3 BK332 GE332 HB) | ((with_reducible refine gq 2 rfl ?_); refine bx1 HB BK332 (N := 2) (cs := #[.int .i64 0, .slice none 0 0]) (t := 70) ?_; clear HB BK332; intro gb333 w4 BK333 GE333 HB NB332_333 NB333_332 BK332) | ((with_reducible refine gq 3 rfl ?_); refine bx2 HB BK332 BK333 (N := 3) (cs := #[.int .i64 0, .slice none 0 0]) (t := 70) ?_; clear HB BK332 BK333; intro gb334 w5 BK334 GE334 HB NB332_334 NB334_332 BK332 NB333_334 NB334_333 BK333; have hnb6 := NB332_333.out; have hnc6 := NB333_332.out; have hnb7 := NB332_334.out; have hnc7 := NB334_332.out; have hz8 := cs2_ BK332; have hnb9 := NB334_333.out; have hnc9 := NB333_334.out; have hz10 := cs2_ BK334) | ((with_reducible refine gf 12 rfl ?_); refine gL 9 Try.func12 #[.slice A0_1 l0_1.length c0_1] ?_; (with_reducible refine (laws_toIntS.calls k _ _ l0_1 t335 _ ?side1 HC0_1.out A2.out).mono ?_); (case side1 => exact Kd.C_below HR0_1.out (tb HB)); rintro e w11 ⟨v336, rfl, ho0, hb⟩; refine ⟨_, rfl, ?_⟩; have HO337 := Aside0.mk (Kd.R_lower ho0 (below_size (tb HB))); replace BK332 := bbf BK332 hb; replace BK333 := bbf BK333 hb; replace BK334 := Aside0.mk (blk_below (g := gb334) (o := .cells #[.int .i64 a0_0, .slice none 0 0] 70 (0, 0)) (by (with_reducible repeat (first | refine blk_drewN ?_ _ | refine blk_drew ?_ | refine blk_alloc ?_ _)); refine blk_put (cs := #[.int .i64 0, .slice none 0 0]) ?_ 0 _ rfl; (with_reducible repeat (first | refine blk_drewN ?_ _ | refine blk_drew ?_ | refine blk_alloc ?_ _)); exact BK334.out) hb); replace HB := bs HB hb; (try clear hb); (try clear ho0); obtain ⟨Ao12, co12, eo12⟩ := Kd.R_slice HO337.out; subst eo12; have hz13 := cs2_ BK334; have hz14 := cs2_ BK333))
 refine bodyPost_ret (results_cell_row rfl _ _ gb333 70 #[.int .i64 a0_0, .slice Ao12 t335.length co12] (0, 0) _ rfl (bfp2 BK333) Try.underlying70 rfl (by kernel_rfl)) rfl ?_
 exact ⟨_, er, by (with_reducible repeat (first | apply Kd.R_alloc | apply Kd.R_drewN | apply Kd.R_drew)); exact Kd.R_mono (Kd.R_far (p := ⟨gb333, 1, none⟩) (Kd.R_far (p := ⟨gb333, 0, none⟩) (Kd.R_far (p := ⟨gb334, 1, none⟩) (Kd.R_types (Kd.R_types HO337.out BK334.out (by decide)) BK333.out (by decide)) (fun _ hk => hk.1.2) (.slice Ao12 t335.length co12)) (fun _ hk => hk.2) (.int .i64 a0_0)) (fun _ hk => hk.2) (.slice Ao12 t335.length co12)) (fun _ hk => trivial), tb HB⟩
def laws_eqRes.f (k : Nat) (a0_0 : Int) (l0_1 : List Int) (a1_0 : Int) (l1_1 : List Int) : Option (Bool) := if a0_0 = a1_0 then ((laws_eqIntS.f k l0_1 l1_1).bind fun t402 => (if t402 = true then (some true) else (some false))) else (some false)
set_option maxHeartbeats 8000000 in
set_option maxRecDepth 100000 in
theorem laws_eqRes.calls (k : Nat) (a0_0 : Int) (A0_1 : Option Addr) (c0_1 : Nat) (l0_1 : List Int) (a1_0 : Int) (A1_1 : Option Addr) (c1_1 : Nat) (l1_1 : List Int) (r : Bool) (w : World) (hr0_1 : Kd.C (Kd.int .i64) w A0_1 l0_1.length l0_1) (hc0_1 : l0_1.length ≤ c0_1) (hr1_1 : Kd.C (Kd.int .i64) w A1_1 l1_1.length l1_1) (hc1_1 : l1_1.length ≤ c1_1) (h : laws_eqRes.f k a0_0 l0_1 a1_0 l1_1 = some r) :
  Calls Try.prog 40 #[.agg #[.int .i64 a0_0, .slice A0_1 l0_1.length c0_1], .agg #[.int .i64 a1_0, .slice A1_1 l1_1.length c1_1]] w fun e w' => e = .returned (.bool r) ∧ Below w.heap.size w w' := by
 have hu70 := Try.underlying70
 have HR0_1 := Aside0.mk hr0_1
 have HC0_1 := Aside0.mk hc0_1
 clear hr0_1 hc0_1
 have HR1_1 := Aside0.mk hr1_1
 have HC1_1 := Aside0.mk hc1_1
 clear hr1_1 hc1_1
 have HB := Aside0.mk (Below.refl w.heap.size w)
 have H := h
 clear h
 unfold laws_eqRes.f at H
 by_cases c3 : a0_0 = a1_0
 case neg =>
  rw [if_neg c3] at H
  have c3b0 : (a0_0 == a1_0) = false := beq_eq_false_iff_ne.mpr c3
  have c3b1 : (a0_0 != a1_0) = true := bne_iff_ne.mpr c3
  obtain rfl := oin H
  go_enter Try.func40, Try.ntmps40
  go_wp2_with (first | ((with_reducible refine gq 2 rfl ?_); refine bx0 HB (N := 2) (t := 70) ?_; clear HB; intro gb400 w16 BK400 GE400 HB) | ((with_reducible refine gq 3 rfl ?_); refine bx1 HB BK400 (N := 3) (t := 70) ?_; clear HB BK400; intro gb401 w17 BK401 GE401 HB NB400_401 NB401_400 BK400; have hnb18 := NB400_401.out; have hnc18 := NB401_400.out; have hz19 := cs2_ BK400; have hz20 := cs2_ BK401))
  go_ret
  exact ⟨er, tb HB⟩
 
 
 rw [if_pos c3] at H
 have c3b0 : (a0_0 == a1_0) = true := beq_iff_eq.mpr c3
 have c3b1 : (a0_0 != a1_0) = false := bne_eq_false_iff_eq.mpr c3
 clear c3
 obtain ⟨t402, A4, H⟩ := bn H
 try dsimp only at H
 cases t402
 case true =>
  replace H := ipt H
  obtain rfl := oin H
  go_enter Try.func40, Try.ntmps40
  go_wp2_with (first | ((with_reducible refine gq 2 rfl ?_); refine bx0 HB (N := 2) (t := 70) ?_; clear HB; intro gb400 w6 BK400 GE400 HB) | ((with_reducible refine gq 3 rfl ?_); refine bx1 HB BK400 (N := 3) (t := 70) ?_; clear HB BK400; intro gb401 w7 BK401 GE401 HB NB400_401 NB401_400 BK400; have hnb8 := NB400_401.out; have hnc8 := NB401_400.out; have hz9 := cs2_ BK400; have hz10 := cs2_ BK401) | ((with_reducible refine gf 14 rfl ?_); refine gL 14 Try.func14 #[.slice A0_1 l0_1.length c0_1, .slice A1_1 l1_1.length c1_1] ?_; (with_reducible refine (laws_eqIntS.calls k _ _ l0_1 _ _ l1_1 true _ (kc HR0_1 HB) HC0_1.out (kc HR1_1 HB) HC1_1.out A4.out).mono ?_); rintro e w' ⟨rfl, ⟨nd, rfl⟩⟩; refine ⟨_, rfl, ?_⟩))
  go_ret
  exact ⟨er, tb HB⟩
 replace H := ipf H
 obtain rfl := oin H
 go_enter Try.func40, Try.ntmps40
 go_wp2_with (first | ((with_reducible refine gq 2 rfl ?_); refine bx0 HB (N := 2) (t := 70) ?_; clear HB; intro gb400 w11 BK400 GE400 HB) | ((with_reducible refine gq 3 rfl ?_); refine bx1 HB BK400 (N := 3) (t := 70) ?_; clear HB BK400; intro gb401 w12 BK401 GE401 HB NB400_401 NB401_400 BK400; have hnb13 := NB400_401.out; have hnc13 := NB401_400.out; have hz14 := cs2_ BK400; have hz15 := cs2_ BK401) | ((with_reducible refine gf 14 rfl ?_); refine gL 14 Try.func14 #[.slice A0_1 l0_1.length c0_1, .slice A1_1 l1_1.length c1_1] ?_; (with_reducible refine (laws_eqIntS.calls k _ _ l0_1 _ _ l1_1 false _ (kc HR0_1 HB) HC0_1.out (kc HR1_1 HB) HC1_1.out A4.out).mono ?_); rintro e w' ⟨rfl, ⟨nd, rfl⟩⟩; refine ⟨_, rfl, ?_⟩))
 go_ret
 exact ⟨er, tb HB⟩
def laws_heldDescS.l0 : Nat → List (S145) → Int → Int → Option (Int)
 | 0, _, _, _ => none
 | k + 1, x0, x1, x5 => if x5 < (x0.length : Int) then (if 0 ≤ x5 then (if ((rd_T145 x0 x5).f0) = x1 then (if ((rd_T145 x0 x5).f1) = (wrap64 (x1 + 1)) then ((laws_heldEntryS.f k ((rd_T145 x0 x5).f2) (wrap64 ((wrap64 (x1 + 1)) + 1))).bind fun t1154 => (if t1154 < 0 then (some (-1)) else (if ((rd_T145 x0 x5).f3.f0) = t1154 then ((laws_heldIntS.f k ((rd_T145 x0 x5).f3.f1) (wrap64 (t1154 + 1))).bind fun t1157 => (if t1157 < 0 then (some (-1)) else (laws_heldDescS.l0 k x0 t1157 (wrap64 (x5 + 1))))) else (some (-1))))) else (some (-1))) else (some (-1))) else (none)) else (some x1)
def laws_heldDescS.f (k : Nat) (l0 : List (S145)) (a1 : Int) : Option (Int) := laws_heldDescS.l0 k l0 a1 0
set_option maxHeartbeats 8000000 in
set_option maxRecDepth 100000 in
theorem laws_heldDescS.calls (k : Nat) (A0 : Option Addr) (c0 : Nat) (l0 : List (S145)) (a1 : Int) (r : Int) (w : World) (hr0 : Kd.C k145 w A0 l0.length l0) (hc0 : l0.length ≤ c0) (h : laws_heldDescS.f k l0 a1 = some r) :
  Calls Try.prog 132 #[.slice A0 l0.length c0, .int .i64 a1] w fun e w' => e = .returned (.int .i64 r) ∧ Drawn0 w w' := by
 have HR0 := Aside0.mk hr0
 have HC0 := Aside0.mk hc0
 clear hr0 hc0
 have H := h
 clear h
 unfold laws_heldDescS.f at H
 have H' := Aside0.mk H
 clear H
 go_enter Try.func132, Try.ntmps132
 go_wp2
 go_loopg [1, 5] k (fun kq v1 v5 w' => ∃ (x1_1 : Int) (x5_1 : Int), v1 = .int .i64 x1_1 ∧ v5 = .int .i64 x5_1 ∧ Aside0 (laws_heldDescS.l0 kq l0 x1_1 x5_1 = some r) ∧ Aside0 (kq ≤ k) ∧ Drawn0 w w')
 case atStart => exact ⟨(a1), (0), rsd, rsd, H', ⟨Nat.le_refl _⟩, by repeat (first | exact Drawn0.refl _ | apply Drawn0.step)⟩
 case round =>
  clear H'
  obtain ⟨x1_1, x5_1, rfl, rfl, HA, HK1, ⟨m1, rfl⟩⟩ := hrel
  cases gk with
  | zero => exact absurd HA.out (by simp [laws_heldDescS.l0])
  | succ k1 =>
   have H := HA.out
   clear HA
   simp only [laws_heldDescS.l0] at H
   revert H; refine icd (fun c3b0 H => ?_) fun c3b0 H => ?neg
   case neg =>
    obtain rfl := oin H
    go_wp2
    go_ret
    exact ⟨rsd, by repeat (first | exact Drawn0.refl _ | apply Drawn0.step)⟩
   obtain ⟨c4b0, H⟩ := itd H
   by_cases c5 : ((rd_T145 l0 x5_1).f0) = x1_1
   case neg =>
    rw [if_neg c5] at H
    have c5b0 : (((rd_T145 l0 x5_1).f0) == x1_1) = false := beq_eq_false_iff_ne.mpr c5
    have c5b1 : (((rd_T145 l0 x5_1).f0) != x1_1) = true := bne_iff_ne.mpr c5
    obtain rfl := oin H
    have p1151 : 0 ≤ (x5_1 : Int) := od
    have q1151 : x5_1 < (l0.length : Int) := od
    obtain ⟨ad1151, A1151_2, c1151_2, A1151_4, c1151_4, e1151, hx1151, hl1151_2, hi1151_2, hl1151_4, hi1151_4⟩ := att145 HR0.out x5_1 p1151 q1151
    cases e1151
    have HR1151_2 := Aside0.mk hi1151_2
    have HC1151_2 := Aside0.mk hl1151_2
    clear hi1151_2 hl1151_2
    have HR1151_4 := Aside0.mk hi1151_4
    have HC1151_4 := Aside0.mk hl1151_4
    clear hi1151_4 hl1151_4
    replace p1151 := eq_true p1151
    replace q1151 := eq_true q1151
    go_wp2
    go_ret
    exact ⟨rsd, by repeat (first | exact Drawn0.refl _ | apply Drawn0.step)⟩
   rw [if_pos c5] at H
   have c5b0 : (((rd_T145 l0 x5_1).f0) == x1_1) = true := beq_iff_eq.mpr c5
   have c5b1 : (((rd_T145 l0 x5_1).f0) != x1_1) = false := bne_eq_false_iff_eq.mpr c5
   clear c5
   by_cases c6 : ((rd_T145 l0 x5_1).f1) = (wrap64 (x1_1 + 1))
   case neg =>
    rw [if_neg c6] at H
    have c6b0 : (((rd_T145 l0 x5_1).f1) == (wrap64 (x1_1 + 1))) = false := beq_eq_false_iff_ne.mpr c6
    have c6b1 : (((rd_T145 l0 x5_1).f1) != (wrap64 (x1_1 + 1))) = true := bne_iff_ne.mpr c6
    obtain rfl := oin H
    have p1151 : 0 ≤ (x5_1 : Int) := od
    have q1151 : x5_1 < (l0.length : Int) := od
    obtain ⟨ad1151, A1151_2, c1151_2, A1151_4, c1151_4, e1151, hx1151_0, hx1151_1, hx1151_2, hx1151_3, hx1151_4, hl1151_2, hi1151_2, hl1151_4, hi1151_4⟩ := at_T145 HR0.out x5_1 p1151 q1151
    cases e1151
    have HR1151_2 := Aside0.mk hi1151_2
    have HC1151_2 := Aside0.mk hl1151_2
    clear hi1151_2 hl1151_2
    have HR1151_4 := Aside0.mk hi1151_4
    have HC1151_4 := Aside0.mk hl1151_4
    clear hi1151_4 hl1151_4
    replace p1151 := eq_true p1151
    replace q1151 := eq_true q1151
    have p1152 : 0 ≤ (x5_1 : Int) := od
    have q1152 : x5_1 < (l0.length : Int) := od
    obtain ⟨ad1152, A1152_2, c1152_2, A1152_4, c1152_4, e1152, hx1152_0, hx1152_1, hx1152_2, hx1152_3, hx1152_4, hl1152_2, hi1152_2, hl1152_4, hi1152_4⟩ := at_T145 HR0.out x5_1 p1152 q1152
    obtain rfl : ad1151 = ad1152 := (by injection e1152)
    have HR1152_2 := Aside0.mk hi1152_2
    have HC1152_2 := Aside0.mk hl1152_2
    clear hi1152_2 hl1152_2
    have HR1152_4 := Aside0.mk hi1152_4
    have HC1152_4 := Aside0.mk hl1152_4
    clear hi1152_4 hl1152_4
    replace p1152 := eq_true p1152
    replace q1152 := eq_true q1152
    have ea_ := Option.some.inj (hx1151_2.symm.trans hx1152_2)
    injection ea_ with ea_ en_ ec_
    subst ea_
    subst ec_
    clear en_
    have ea_ := Option.some.inj (hx1151_4.symm.trans hx1152_4)
    injection ea_ with ea_ en_ ec_
    subst ea_
    subst ec_
    clear en_
    go_wp2
    go_ret
    exact ⟨rsd, by repeat (first | exact Drawn0.refl _ | apply Drawn0.step)⟩
   rw [if_pos c6] at H
   have c6b0 : (((rd_T145 l0 x5_1).f1) == (wrap64 (x1_1 + 1))) = true := beq_iff_eq.mpr c6
   have c6b1 : (((rd_T145 l0 x5_1).f1) != (wrap64 (x1_1 + 1))) = false := bne_eq_false_iff_eq.mpr c6
   clear c6
   obtain ⟨t1154, A7, H⟩ := bn H
   try dsimp only at H
   revert H; refine icd (fun c8b0 H => ?pos) fun c8b0 H => ?_
   case pos =>
    obtain rfl := oin H
    have p1151 : 0 ≤ (x5_1 : Int) := od
    have q1151 : x5_1 < (l0.length : Int) := od
    obtain ⟨ad1151, A1151_2, c1151_2, A1151_4, c1151_4, e1151, hx1151_0, hx1151_1, hx1151_2, hx1151_3, hx1151_4, hl1151_2, hi1151_2, hl1151_4, hi1151_4⟩ := at_T145 HR0.out x5_1 p1151 q1151
    cases e1151
    have HR1151_2 := Aside0.mk hi1151_2
    have HC1151_2 := Aside0.mk hl1151_2
    clear hi1151_2 hl1151_2
    have HR1151_4 := Aside0.mk hi1151_4
    have HC1151_4 := Aside0.mk hl1151_4
    clear hi1151_4 hl1151_4
    replace p1151 := eq_true p1151
    replace q1151 := eq_true q1151
    have p1152 : 0 ≤ (x5_1 : Int) := od
    have q1152 : x5_1 < (l0.length : Int) := od
    obtain ⟨ad1152, A1152_2, c1152_2, A1152_4, c1152_4, e1152, hx1152_0, hx1152_1, hx1152_2, hx1152_3, hx1152_4, hl1152_2, hi1152_2, hl1152_4, hi1152_4⟩ := at_T145 HR0.out x5_1 p1152 q1152
    obtain rfl : ad1151 = ad1152 := (by injection e1152)
    have HR1152_2 := Aside0.mk hi1152_2
    have HC1152_2 := Aside0.mk hl1152_2
    clear hi1152_2 hl1152_2
    have HR1152_4 := Aside0.mk hi1152_4
    have HC1152_4 := Aside0.mk hl1152_4
    clear hi1152_4 hl1152_4
    replace p1152 := eq_true p1152
    replace q1152 := eq_true q1152
    have ea_ := Option.some.inj (hx1151_2.symm.trans hx1152_2)
    injection ea_ with ea_ en_ ec_
    subst ea_
    subst ec_
    clear en_
    have ea_ := Option.some.inj (hx1151_4.symm.trans hx1152_4)
    injection ea_ with ea_ en_ ec_
    subst ea_
    subst ec_
    clear en_
    have p1153 : 0 ≤ (x5_1 : Int) := od
    have q1153 : x5_1 < (l0.length : Int) := od
    obtain ⟨ad1153, A1153_2, c1153_2, A1153_4, c1153_4, e1153, hx1153_0, hx1153_1, hx1153_2, hx1153_3, hx1153_4, hl1153_2, hi1153_2, hl1153_4, hi1153_4⟩ := at_T145 HR0.out x5_1 p1153 q1153
    obtain rfl : ad1151 = ad1153 := (by injection e1153)
    have HR1153_2 := Aside0.mk hi1153_2
    have HC1153_2 := Aside0.mk hl1153_2
    clear hi1153_2 hl1153_2
    have HR1153_4 := Aside0.mk hi1153_4
    have HC1153_4 := Aside0.mk hl1153_4
    clear hi1153_4 hl1153_4
    replace p1153 := eq_true p1153
    replace q1153 := eq_true q1153
    have ea_ := Option.some.inj (hx1151_2.symm.trans hx1153_2)
    injection ea_ with ea_ en_ ec_
    subst ea_
    subst ec_
    clear en_
    have ea_ := Option.some.inj (hx1151_4.symm.trans hx1153_4)
    injection ea_ with ea_ en_ ec_
    subst ea_
    subst ec_
    clear en_
    go_wp2_with (first | ((with_reducible refine gf 184 rfl ?_); refine gL 36 Try.func184 #[.slice A1151_2 ((rd_T145 l0 x5_1).f2).length c1151_2, .int .i64 (wrap64 ((wrap64 (x1_1 + 1)) + 1))] ?_; (with_reducible refine (laws_heldEntryS.calls k1 _ _ ((rd_T145 l0 x5_1).f2) (wrap64 ((wrap64 (x1_1 + 1)) + 1)) t1154 _ ?side1 HC1153_2.out A7.out).mono ?_); (case side1 => repeat (first | exact HR1153_2.out | (with_reducible refine Kd.C_alloc ?_ _) | (with_reducible refine Kd.C_drewN ?_ _) | (with_reducible refine Kd.C_drew ?_))); rintro e w' ⟨rfl, ⟨nd, rfl⟩⟩; refine ⟨_, rfl, ?_⟩))
    go_ret
    exact ⟨rsd, by repeat (first | exact Drawn0.refl _ | apply Drawn0.step)⟩
   by_cases c9 : ((rd_T145 l0 x5_1).f3.f0) = t1154
   case neg =>
    rw [if_neg c9] at H
    have c9b0 : (((rd_T145 l0 x5_1).f3.f0) == t1154) = false := beq_eq_false_iff_ne.mpr c9
    have c9b1 : (((rd_T145 l0 x5_1).f3.f0) != t1154) = true := bne_iff_ne.mpr c9
    obtain rfl := oin H
    have p1151 : 0 ≤ (x5_1 : Int) := od
    have q1151 : x5_1 < (l0.length : Int) := od
    obtain ⟨ad1151, A1151_2, c1151_2, A1151_4, c1151_4, e1151, hx1151_0, hx1151_1, hx1151_2, hx1151_3, hx1151_4, hl1151_2, hi1151_2, hl1151_4, hi1151_4⟩ := at_T145 HR0.out x5_1 p1151 q1151
    cases e1151
    have HR1151_2 := Aside0.mk hi1151_2
    have HC1151_2 := Aside0.mk hl1151_2
    clear hi1151_2 hl1151_2
    have HR1151_4 := Aside0.mk hi1151_4
    have HC1151_4 := Aside0.mk hl1151_4
    clear hi1151_4 hl1151_4
    replace p1151 := eq_true p1151
    replace q1151 := eq_true q1151
    have p1152 : 0 ≤ (x5_1 : Int) := od
    have q1152 : x5_1 < (l0.length : Int) := od
    obtain ⟨ad1152, A1152_2, c1152_2, A1152_4, c1152_4, e1152, hx1152_0, hx1152_1, hx1152_2, hx1152_3, hx1152_4, hl1152_2, hi1152_2, hl1152_4, hi1152_4⟩ := at_T145 HR0.out x5_1 p1152 q1152
    obtain rfl : ad1151 = ad1152 := (by injection e1152)
    have HR1152_2 := Aside0.mk hi1152_2
    have HC1152_2 := Aside0.mk hl1152_2
    clear hi1152_2 hl1152_2
    have HR1152_4 := Aside0.mk hi1152_4
    have HC1152_4 := Aside0.mk hl1152_4
    clear hi1152_4 hl1152_4
    replace p1152 := eq_true p1152
    replace q1152 := eq_true q1152
    have ea_ := Option.some.inj (hx1151_2.symm.trans hx1152_2)
    injection ea_ with ea_ en_ ec_
    subst ea_
    subst ec_
    clear en_
    have ea_ := Option.some.inj (hx1151_4.symm.trans hx1152_4)
    injection ea_ with ea_ en_ ec_
    subst ea_
    subst ec_
    clear en_
    have p1153 : 0 ≤ (x5_1 : Int) := od
    have q1153 : x5_1 < (l0.length : Int) := od
    obtain ⟨ad1153, A1153_2, c1153_2, A1153_4, c1153_4, e1153, hx1153_0, hx1153_1, hx1153_2, hx1153_3, hx1153_4, hl1153_2, hi1153_2, hl1153_4, hi1153_4⟩ := at_T145 HR0.out x5_1 p1153 q1153
    obtain rfl : ad1151 = ad1153 := (by injection e1153)
    have HR1153_2 := Aside0.mk hi1153_2
    have HC1153_2 := Aside0.mk hl1153_2
    clear hi1153_2 hl1153_2
    have HR1153_4 := Aside0.mk hi1153_4
    have HC1153_4 := Aside0.mk hl1153_4
    clear hi1153_4 hl1153_4
    replace p1153 := eq_true p1153
    replace q1153 := eq_true q1153
    have ea_ := Option.some.inj (hx1151_2.symm.trans hx1153_2)
    injection ea_ with ea_ en_ ec_
    subst ea_
    subst ec_
    clear en_
    have ea_ := Option.some.inj (hx1151_4.symm.trans hx1153_4)
    injection ea_ with ea_ en_ ec_
    subst ea_
    subst ec_
    clear en_
    go_wp2_with (first | ((with_reducible refine gf 184 rfl ?_); refine gL 36 Try.func184 #[.slice A1151_2 ((rd_T145 l0 x5_1).f2).length c1151_2, .int .i64 (wrap64 ((wrap64 (x1_1 + 1)) + 1))] ?_; (with_reducible refine (laws_heldEntryS.calls k1 _ _ ((rd_T145 l0 x5_1).f2) (wrap64 ((wrap64 (x1_1 + 1)) + 1)) t1154 _ ?side1 HC1153_2.out A7.out).mono ?_); (case side1 => repeat (first | exact HR1153_2.out | (with_reducible refine Kd.C_alloc ?_ _) | (with_reducible refine Kd.C_drewN ?_ _) | (with_reducible refine Kd.C_drew ?_))); rintro e w' ⟨rfl, ⟨nd, rfl⟩⟩; refine ⟨_, rfl, ?_⟩; have p1155 : 0 ≤ (x5_1 : Int) := od; have q1155 : x5_1 < (l0.length : Int) := od; obtain ⟨ad1155, A1155_2, c1155_2, A1155_4, c1155_4, e1155, hx1155_0, hx1155_1, hx1155_2, hx1155_3, hx1155_4, hl1155_2, hi1155_2, hl1155_4, hi1155_4⟩ := at_T145 HR0.out x5_1 p1155 q1155; obtain rfl : ad1151 = ad1155 := (by injection e1155); have HR1155_2 := Aside0.mk hi1155_2; have HC1155_2 := Aside0.mk hl1155_2; clear hi1155_2 hl1155_2; have HR1155_4 := Aside0.mk hi1155_4; have HC1155_4 := Aside0.mk hl1155_4; clear hi1155_4 hl1155_4; replace p1155 := eq_true p1155; replace q1155 := eq_true q1155; have ea_ := Option.some.inj (hx1151_2.symm.trans hx1155_2); injection ea_ with ea_ en_ ec_; subst ea_; subst ec_; clear en_; have ea_ := Option.some.inj (hx1151_4.symm.trans hx1155_4); injection ea_ with ea_ en_ ec_; subst ea_; subst ec_; clear en_))
    go_ret
    exact ⟨rsd, by repeat (first | exact Drawn0.refl _ | apply Drawn0.step)⟩
   rw [if_pos c9] at H
   have c9b0 : (((rd_T145 l0 x5_1).f3.f0) == t1154) = true := beq_iff_eq.mpr c9
   have c9b1 : (((rd_T145 l0 x5_1).f3.f0) != t1154) = false := bne_eq_false_iff_eq.mpr c9
   clear c9
   obtain ⟨t1157, A10, H⟩ := bn H
   try dsimp only at H
   revert H; refine icd (fun c11b0 H => ?pos) fun c11b0 H => ?_
   case pos =>
    obtain rfl := oin H
    have p1151 : 0 ≤ (x5_1 : Int) := od
    have q1151 : x5_1 < (l0.length : Int) := od
    obtain ⟨ad1151, A1151_2, c1151_2, A1151_4, c1151_4, e1151, hx1151_0, hx1151_1, hx1151_2, hx1151_3, hx1151_4, hl1151_2, hi1151_2, hl1151_4, hi1151_4⟩ := at_T145 HR0.out x5_1 p1151 q1151
    cases e1151
    have HR1151_2 := Aside0.mk hi1151_2
    have HC1151_2 := Aside0.mk hl1151_2
    clear hi1151_2 hl1151_2
    have HR1151_4 := Aside0.mk hi1151_4
    have HC1151_4 := Aside0.mk hl1151_4
    clear hi1151_4 hl1151_4
    replace p1151 := eq_true p1151
    replace q1151 := eq_true q1151
    have p1152 : 0 ≤ (x5_1 : Int) := od
    have q1152 : x5_1 < (l0.length : Int) := od
    obtain ⟨ad1152, A1152_2, c1152_2, A1152_4, c1152_4, e1152, hx1152_0, hx1152_1, hx1152_2, hx1152_3, hx1152_4, hl1152_2, hi1152_2, hl1152_4, hi1152_4⟩ := at_T145 HR0.out x5_1 p1152 q1152
    obtain rfl : ad1151 = ad1152 := (by injection e1152)
    have HR1152_2 := Aside0.mk hi1152_2
    have HC1152_2 := Aside0.mk hl1152_2
    clear hi1152_2 hl1152_2
    have HR1152_4 := Aside0.mk hi1152_4
    have HC1152_4 := Aside0.mk hl1152_4
    clear hi1152_4 hl1152_4
    replace p1152 := eq_true p1152
    replace q1152 := eq_true q1152
    have ea_ := Option.some.inj (hx1151_2.symm.trans hx1152_2)
    injection ea_ with ea_ en_ ec_
    subst ea_
    subst ec_
    clear en_
    have ea_ := Option.some.inj (hx1151_4.symm.trans hx1152_4)
    injection ea_ with ea_ en_ ec_
    subst ea_
    subst ec_
    clear en_
    have p1153 : 0 ≤ (x5_1 : Int) := od
    have q1153 : x5_1 < (l0.length : Int) := od
    obtain ⟨ad1153, A1153_2, c1153_2, A1153_4, c1153_4, e1153, hx1153_0, hx1153_1, hx1153_2, hx1153_3, hx1153_4, hl1153_2, hi1153_2, hl1153_4, hi1153_4⟩ := at_T145 HR0.out x5_1 p1153 q1153
    obtain rfl : ad1151 = ad1153 := (by injection e1153)
    have HR1153_2 := Aside0.mk hi1153_2
    have HC1153_2 := Aside0.mk hl1153_2
    clear hi1153_2 hl1153_2
    have HR1153_4 := Aside0.mk hi1153_4
    have HC1153_4 := Aside0.mk hl1153_4
    clear hi1153_4 hl1153_4
    replace p1153 := eq_true p1153
    replace q1153 := eq_true q1153
    have ea_ := Option.some.inj (hx1151_2.symm.trans hx1153_2)
    injection ea_ with ea_ en_ ec_
    subst ea_
    subst ec_
    clear en_
    have ea_ := Option.some.inj (hx1151_4.symm.trans hx1153_4)
    injection ea_ with ea_ en_ ec_
    subst ea_
    subst ec_
    clear en_
    go_wp2_with (first | ((with_reducible refine gf 184 rfl ?_); refine gL 36 Try.func184 #[.slice A1151_2 ((rd_T145 l0 x5_1).f2).length c1151_2, .int .i64 (wrap64 ((wrap64 (x1_1 + 1)) + 1))] ?_; (with_reducible refine (laws_heldEntryS.calls k1 _ _ ((rd_T145 l0 x5_1).f2) (wrap64 ((wrap64 (x1_1 + 1)) + 1)) t1154 _ ?side1 HC1153_2.out A7.out).mono ?_); (case side1 => repeat (first | exact HR1153_2.out | (with_reducible refine Kd.C_alloc ?_ _) | (with_reducible refine Kd.C_drewN ?_ _) | (with_reducible refine Kd.C_drew ?_))); rintro e w' ⟨rfl, ⟨nd, rfl⟩⟩; refine ⟨_, rfl, ?_⟩; have p1155 : 0 ≤ (x5_1 : Int) := od; have q1155 : x5_1 < (l0.length : Int) := od; obtain ⟨ad1155, A1155_2, c1155_2, A1155_4, c1155_4, e1155, hx1155_0, hx1155_1, hx1155_2, hx1155_3, hx1155_4, hl1155_2, hi1155_2, hl1155_4, hi1155_4⟩ := at_T145 HR0.out x5_1 p1155 q1155; obtain rfl : ad1151 = ad1155 := (by injection e1155); have HR1155_2 := Aside0.mk hi1155_2; have HC1155_2 := Aside0.mk hl1155_2; clear hi1155_2 hl1155_2; have HR1155_4 := Aside0.mk hi1155_4; have HC1155_4 := Aside0.mk hl1155_4; clear hi1155_4 hl1155_4; replace p1155 := eq_true p1155; replace q1155 := eq_true q1155; have ea_ := Option.some.inj (hx1151_2.symm.trans hx1155_2); injection ea_ with ea_ en_ ec_; subst ea_; subst ec_; clear en_; have ea_ := Option.some.inj (hx1151_4.symm.trans hx1155_4); injection ea_ with ea_ en_ ec_; subst ea_; subst ec_; clear en_; have p1156 : 0 ≤ (x5_1 : Int) := od; have q1156 : x5_1 < (l0.length : Int) := od; obtain ⟨ad1156, A1156_2, c1156_2, A1156_4, c1156_4, e1156, hx1156_0, hx1156_1, hx1156_2, hx1156_3, hx1156_4, hl1156_2, hi1156_2, hl1156_4, hi1156_4⟩ := at_T145 HR0.out x5_1 p1156 q1156; obtain rfl : ad1151 = ad1156 := (by injection e1156); have HR1156_2 := Aside0.mk hi1156_2; have HC1156_2 := Aside0.mk hl1156_2; clear hi1156_2 hl1156_2; have HR1156_4 := Aside0.mk hi1156_4; have HC1156_4 := Aside0.mk hl1156_4; clear hi1156_4 hl1156_4; replace p1156 := eq_true p1156; replace q1156 := eq_true q1156; have ea_ := Option.some.inj (hx1151_2.symm.trans hx1156_2); injection ea_ with ea_ en_ ec_; subst ea_; subst ec_; clear en_; have ea_ := Option.some.inj (hx1151_4.symm.trans hx1156_4); injection ea_ with ea_ en_ ec_; subst ea_; subst ec_; clear en_) | ((with_reducible refine gf 31 rfl ?_); refine gL 56 Try.func31 #[.slice A1151_4 ((rd_T145 l0 x5_1).f3.f1).length c1151_4, .int .i64 (wrap64 (t1154 + 1))] ?_; (with_reducible refine (laws_heldIntS.calls k1 _ _ ((rd_T145 l0 x5_1).f3.f1) (wrap64 (t1154 + 1)) t1157 _ ?side1 HC1156_4.out A10.out).mono ?_); (case side1 => repeat (first | exact HR1156_4.out | (with_reducible refine Kd.C_alloc ?_ _) | (with_reducible refine Kd.C_drewN ?_ _) | (with_reducible refine Kd.C_drew ?_))); rintro e w' ⟨rfl, ⟨nd, rfl⟩⟩; refine ⟨_, rfl, ?_⟩))
    go_ret
    exact ⟨rsd, by repeat (first | exact Drawn0.refl _ | apply Drawn0.step)⟩
   have H' := Aside0.mk H
   clear H
   have p1151 : 0 ≤ (x5_1 : Int) := od
   have q1151 : x5_1 < (l0.length : Int) := od
   obtain ⟨ad1151, A1151_2, c1151_2, A1151_4, c1151_4, e1151, hx1151_0, hx1151_1, hx1151_2, hx1151_3, hx1151_4, hl1151_2, hi1151_2, hl1151_4, hi1151_4⟩ := at_T145 HR0.out x5_1 p1151 q1151
   cases e1151
   have HR1151_2 := Aside0.mk hi1151_2
   have HC1151_2 := Aside0.mk hl1151_2
   clear hi1151_2 hl1151_2
   have HR1151_4 := Aside0.mk hi1151_4
   have HC1151_4 := Aside0.mk hl1151_4
   clear hi1151_4 hl1151_4
   replace p1151 := eq_true p1151
   replace q1151 := eq_true q1151
   have p1152 : 0 ≤ (x5_1 : Int) := od
   have q1152 : x5_1 < (l0.length : Int) := od
   obtain ⟨ad1152, A1152_2, c1152_2, A1152_4, c1152_4, e1152, hx1152_0, hx1152_1, hx1152_2, hx1152_3, hx1152_4, hl1152_2, hi1152_2, hl1152_4, hi1152_4⟩ := at_T145 HR0.out x5_1 p1152 q1152
   obtain rfl : ad1151 = ad1152 := (by injection e1152)
   have HR1152_2 := Aside0.mk hi1152_2
   have HC1152_2 := Aside0.mk hl1152_2
   clear hi1152_2 hl1152_2
   have HR1152_4 := Aside0.mk hi1152_4
   have HC1152_4 := Aside0.mk hl1152_4
   clear hi1152_4 hl1152_4
   replace p1152 := eq_true p1152
   replace q1152 := eq_true q1152
   have ea_ := Option.some.inj (hx1151_2.symm.trans hx1152_2)
   injection ea_ with ea_ en_ ec_
   subst ea_
   subst ec_
   clear en_
   have ea_ := Option.some.inj (hx1151_4.symm.trans hx1152_4)
   injection ea_ with ea_ en_ ec_
   subst ea_
   subst ec_
   clear en_
   have p1153 : 0 ≤ (x5_1 : Int) := od
   have q1153 : x5_1 < (l0.length : Int) := od
   obtain ⟨ad1153, A1153_2, c1153_2, A1153_4, c1153_4, e1153, hx1153_0, hx1153_1, hx1153_2, hx1153_3, hx1153_4, hl1153_2, hi1153_2, hl1153_4, hi1153_4⟩ := at_T145 HR0.out x5_1 p1153 q1153
   obtain rfl : ad1151 = ad1153 := (by injection e1153)
   have HR1153_2 := Aside0.mk hi1153_2
   have HC1153_2 := Aside0.mk hl1153_2
   clear hi1153_2 hl1153_2
   have HR1153_4 := Aside0.mk hi1153_4
   have HC1153_4 := Aside0.mk hl1153_4
   clear hi1153_4 hl1153_4
   replace p1153 := eq_true p1153
   replace q1153 := eq_true q1153
   have ea_ := Option.some.inj (hx1151_2.symm.trans hx1153_2)
   injection ea_ with ea_ en_ ec_
   subst ea_
   subst ec_
   clear en_
   have ea_ := Option.some.inj (hx1151_4.symm.trans hx1153_4)
   injection ea_ with ea_ en_ ec_
   subst ea_
   subst ec_
   clear en_
   go_wp2_with (first | ((with_reducible refine gf 184 rfl ?_); refine gL 36 Try.func184 #[.slice A1151_2 ((rd_T145 l0 x5_1).f2).length c1151_2, .int .i64 (wrap64 ((wrap64 (x1_1 + 1)) + 1))] ?_; (with_reducible refine (laws_heldEntryS.calls k1 _ _ ((rd_T145 l0 x5_1).f2) (wrap64 ((wrap64 (x1_1 + 1)) + 1)) t1154 _ ?side1 HC1153_2.out A7.out).mono ?_); (case side1 => repeat (first | exact HR1153_2.out | (with_reducible refine Kd.C_alloc ?_ _) | (with_reducible refine Kd.C_drewN ?_ _) | (with_reducible refine Kd.C_drew ?_))); rintro e w' ⟨rfl, ⟨nd, rfl⟩⟩; refine ⟨_, rfl, ?_⟩; have p1155 : 0 ≤ (x5_1 : Int) := od; have q1155 : x5_1 < (l0.length : Int) := od; obtain ⟨ad1155, A1155_2, c1155_2, A1155_4, c1155_4, e1155, hx1155_0, hx1155_1, hx1155_2, hx1155_3, hx1155_4, hl1155_2, hi1155_2, hl1155_4, hi1155_4⟩ := at_T145 HR0.out x5_1 p1155 q1155; obtain rfl : ad1151 = ad1155 := (by injection e1155); have HR1155_2 := Aside0.mk hi1155_2; have HC1155_2 := Aside0.mk hl1155_2; clear hi1155_2 hl1155_2; have HR1155_4 := Aside0.mk hi1155_4; have HC1155_4 := Aside0.mk hl1155_4; clear hi1155_4 hl1155_4; replace p1155 := eq_true p1155; replace q1155 := eq_true q1155; have ea_ := Option.some.inj (hx1151_2.symm.trans hx1155_2); injection ea_ with ea_ en_ ec_; subst ea_; subst ec_; clear en_; have ea_ := Option.some.inj (hx1151_4.symm.trans hx1155_4); injection ea_ with ea_ en_ ec_; subst ea_; subst ec_; clear en_; have p1156 : 0 ≤ (x5_1 : Int) := od; have q1156 : x5_1 < (l0.length : Int) := od; obtain ⟨ad1156, A1156_2, c1156_2, A1156_4, c1156_4, e1156, hx1156_0, hx1156_1, hx1156_2, hx1156_3, hx1156_4, hl1156_2, hi1156_2, hl1156_4, hi1156_4⟩ := at_T145 HR0.out x5_1 p1156 q1156; obtain rfl : ad1151 = ad1156 := (by injection e1156); have HR1156_2 := Aside0.mk hi1156_2; have HC1156_2 := Aside0.mk hl1156_2; clear hi1156_2 hl1156_2; have HR1156_4 := Aside0.mk hi1156_4; have HC1156_4 := Aside0.mk hl1156_4; clear hi1156_4 hl1156_4; replace p1156 := eq_true p1156; replace q1156 := eq_true q1156; have ea_ := Option.some.inj (hx1151_2.symm.trans hx1156_2); injection ea_ with ea_ en_ ec_; subst ea_; subst ec_; clear en_; have ea_ := Option.some.inj (hx1151_4.symm.trans hx1156_4); injection ea_ with ea_ en_ ec_; subst ea_; subst ec_; clear en_) | ((with_reducible refine gf 31 rfl ?_); refine gL 56 Try.func31 #[.slice A1151_4 ((rd_T145 l0 x5_1).f3.f1).length c1151_4, .int .i64 (wrap64 (t1154 + 1))] ?_; (with_reducible refine (laws_heldIntS.calls k1 _ _ ((rd_T145 l0 x5_1).f3.f1) (wrap64 (t1154 + 1)) t1157 _ ?side1 HC1156_4.out A10.out).mono ?_); (case side1 => repeat (first | exact HR1156_4.out | (with_reducible refine Kd.C_alloc ?_ _) | (with_reducible refine Kd.C_drewN ?_ _) | (with_reducible refine Kd.C_drew ?_))); rintro e w' ⟨rfl, ⟨nd, rfl⟩⟩; refine ⟨_, rfl, ?_⟩))
   go_roundg k1
   case measure => have := HK1.out; omega
   case rel => exact ⟨(t1157), (wrap64 (x5_1 + 1)), rsd, rsd, H', ⟨by have := HK1.out; omega⟩, by repeat (first | exact Drawn0.refl _ | apply Drawn0.step)⟩
def spec_l4Key.f (a0 : Int) : Option (Bool) := (spec_l1In.f a0 1 4).bind fun t143 => (some t143)
set_option maxHeartbeats 8000000 in
set_option maxRecDepth 100000 in
theorem spec_l4Key.calls (a0 : Int) (r : Bool) (w : World) (h : spec_l4Key.f a0 = some r) :
  Calls Try.prog 122 #[.int .i64 a0] w fun e w' => e = .returned (.bool r) ∧ Drawn0 w w' := by
 have H := h
 clear h
 unfold spec_l4Key.f at H
 obtain ⟨t143, A2, H⟩ := bn H
 try dsimp only at H
 obtain rfl := oin H
 go_enter Try.func122, Try.ntmps122
 go_wp2_with (first | ((with_reducible refine gf 79 rfl ?_); refine gL 4 Try.func79 #[.int .i64 a0, .int .i64 1, .int .i64 4] ?_; (with_reducible refine (spec_l1In.calls a0 1 4 t143 _ A2.out).mono ?_); rintro e w' ⟨rfl, ⟨nd, rfl⟩⟩; refine ⟨_, rfl, ?_⟩))
 go_ret
 exact ⟨rsd, by repeat (first | exact Drawn0.refl _ | apply Drawn0.step)⟩
def spec_KeyOk.f (a0 : Int) : Option (Bool) := (spec_l1In.f a0 0 3).bind fun t144 => (some t144)
set_option maxHeartbeats 8000000 in
set_option maxRecDepth 100000 in
theorem spec_KeyOk.calls (a0 : Int) (r : Bool) (w : World) (h : spec_KeyOk.f a0 = some r) :
  Calls Try.prog 123 #[.int .i64 a0] w fun e w' => e = .returned (.bool r) ∧ Drawn0 w w' := by
 have H := h
 clear h
 unfold spec_KeyOk.f at H
 obtain ⟨t144, A2, H⟩ := bn H
 try dsimp only at H
 obtain rfl := oin H
 go_enter Try.func123, Try.ntmps123
 go_wp2_with (first | ((with_reducible refine gf 79 rfl ?_); refine gL 4 Try.func79 #[.int .i64 a0, .int .i64 0, .int .i64 3] ?_; (with_reducible refine (spec_l1In.calls a0 0 3 t144 _ A2.out).mono ?_); rintro e w' ⟨rfl, ⟨nd, rfl⟩⟩; refine ⟨_, rfl, ?_⟩))
 go_ret
 exact ⟨rsd, by repeat (first | exact Drawn0.refl _ | apply Drawn0.step)⟩
def spec_ValOk.f (a0 : Int) : Option (Bool) := (spec_l1In.f a0 1 6).bind fun t145 => (some t145)
set_option maxHeartbeats 8000000 in
set_option maxRecDepth 100000 in
theorem spec_ValOk.calls (a0 : Int) (r : Bool) (w : World) (h : spec_ValOk.f a0 = some r) :
  Calls Try.prog 125 #[.int .i64 a0] w fun e w' => e = .returned (.bool r) ∧ Drawn0 w w' := by
 have H := h
 clear h
 unfold spec_ValOk.f at H
 obtain ⟨t145, A2, H⟩ := bn H
 try dsimp only at H
 obtain rfl := oin H
 go_enter Try.func125, Try.ntmps125
 go_wp2_with (first | ((with_reducible refine gf 79 rfl ?_); refine gL 4 Try.func79 #[.int .i64 a0, .int .i64 1, .int .i64 6] ?_; (with_reducible refine (spec_l1In.calls a0 1 6 t145 _ A2.out).mono ?_); rintro e w' ⟨rfl, ⟨nd, rfl⟩⟩; refine ⟨_, rfl, ?_⟩))
 go_ret
 exact ⟨rsd, by repeat (first | exact Drawn0.refl _ | apply Drawn0.step)⟩
def impl_KeyOk.f (a0 : Int) : Option (Bool) := (impl_from.f a0 0 3).bind fun t211 => (some t211)
set_option maxHeartbeats 8000000 in
set_option maxRecDepth 100000 in
theorem impl_KeyOk.calls (a0 : Int) (r : Bool) (w : World) (h : impl_KeyOk.f a0 = some r) :
  Calls Try.prog 119 #[.int .i64 a0] w fun e w' => e = .returned (.bool r) ∧ Drawn0 w w' := by
 have H := h
 clear h
 unfold impl_KeyOk.f at H
 obtain ⟨t211, A2, H⟩ := bn H
 try dsimp only at H
 obtain rfl := oin H
 go_enter Try.func119, Try.ntmps119
 go_wp2_with (first | ((with_reducible refine gf 85 rfl ?_); refine gL 4 Try.func85 #[.int .i64 a0, .int .i64 0, .int .i64 3] ?_; (with_reducible refine (impl_from.calls a0 0 3 t211 _ A2.out).mono ?_); rintro e w' ⟨rfl, ⟨nd, rfl⟩⟩; refine ⟨_, rfl, ?_⟩))
 go_ret
 exact ⟨rsd, by repeat (first | exact Drawn0.refl _ | apply Drawn0.step)⟩
def impl_ValOk.f (a0 : Int) : Option (Bool) := (impl_from.f a0 1 6).bind fun t212 => (some t212)
set_option maxHeartbeats 8000000 in
set_option maxRecDepth 100000 in
theorem impl_ValOk.calls (a0 : Int) (r : Bool) (w : World) (h : impl_ValOk.f a0 = some r) :
  Calls Try.prog 120 #[.int .i64 a0] w fun e w' => e = .returned (.bool r) ∧ Drawn0 w w' := by
 have H := h
 clear h
 unfold impl_ValOk.f at H
 obtain ⟨t212, A2, H⟩ := bn H
 try dsimp only at H
 obtain rfl := oin H
 go_enter Try.func120, Try.ntmps120
 go_wp2_with (first | ((with_reducible refine gf 85 rfl ?_); refine gL 4 Try.func85 #[.int .i64 a0, .int .i64 1, .int .i64 6] ?_; (with_reducible refine (impl_from.calls a0 1 6 t212 _ A2.out).mono ?_); rintro e w' ⟨rfl, ⟨nd, rfl⟩⟩; refine ⟨_, rfl, ?_⟩))
 go_ret
 exact ⟨rsd, by repeat (first | exact Drawn0.refl _ | apply Drawn0.step)⟩
def impl_isClass.f (a0 : Int) : Option (Bool) := (impl_from.f a0 0 2).bind fun t213 => (some t213)
set_option maxHeartbeats 8000000 in
set_option maxRecDepth 100000 in
theorem impl_isClass.calls (a0 : Int) (r : Bool) (w : World) (h : impl_isClass.f a0 = some r) :
  Calls Try.prog 121 #[.int .i64 a0] w fun e w' => e = .returned (.bool r) ∧ Drawn0 w w' := by
 have H := h
 clear h
 unfold impl_isClass.f at H
 obtain ⟨t213, A2, H⟩ := bn H
 try dsimp only at H
 obtain rfl := oin H
 go_enter Try.func121, Try.ntmps121
 go_wp2_with (first | ((with_reducible refine gf 85 rfl ?_); refine gL 4 Try.func85 #[.int .i64 a0, .int .i64 0, .int .i64 2] ?_; (with_reducible refine (impl_from.calls a0 0 2 t213 _ A2.out).mono ?_); rintro e w' ⟨rfl, ⟨nd, rfl⟩⟩; refine ⟨_, rfl, ?_⟩))
 go_ret
 exact ⟨rsd, by repeat (first | exact Drawn0.refl _ | apply Drawn0.step)⟩
def impl_isPlace.f (a0 : Int) : Option (Bool) := (impl_from.f a0 0 19).bind fun t222 => (some t222)
set_option maxHeartbeats 8000000 in
set_option maxRecDepth 100000 in
theorem impl_isPlace.calls (a0 : Int) (r : Bool) (w : World) (h : impl_isPlace.f a0 = some r) :
  Calls Try.prog 88 #[.int .i64 a0] w fun e w' => e = .returned (.bool r) ∧ Drawn0 w w' := by
 have H := h
 clear h
 unfold impl_isPlace.f at H
 obtain ⟨t222, A2, H⟩ := bn H
 try dsimp only at H
 obtain rfl := oin H
 go_enter Try.func88, Try.ntmps88
 go_wp2_with (first | ((with_reducible refine gf 85 rfl ?_); refine gL 4 Try.func85 #[.int .i64 a0, .int .i64 0, .int .i64 19] ?_; (with_reducible refine (impl_from.calls a0 0 19 t222 _ A2.out).mono ?_); rintro e w' ⟨rfl, ⟨nd, rfl⟩⟩; refine ⟨_, rfl, ?_⟩))
 go_ret
 exact ⟨rsd, by repeat (first | exact Drawn0.refl _ | apply Drawn0.step)⟩
def impl_isWordNum.f (a0 : Int) : Option (Bool) := (impl_from.f a0 0 1000).bind fun t223 => (some t223)
set_option maxHeartbeats 8000000 in
set_option maxRecDepth 100000 in
theorem impl_isWordNum.calls (a0 : Int) (r : Bool) (w : World) (h : impl_isWordNum.f a0 = some r) :
  Calls Try.prog 89 #[.int .i64 a0] w fun e w' => e = .returned (.bool r) ∧ Drawn0 w w' := by
 have H := h
 clear h
 unfold impl_isWordNum.f at H
 obtain ⟨t223, A2, H⟩ := bn H
 try dsimp only at H
 obtain rfl := oin H
 go_enter Try.func89, Try.ntmps89
 go_wp2_with (first | ((with_reducible refine gf 85 rfl ?_); refine gL 4 Try.func85 #[.int .i64 a0, .int .i64 0, .int .i64 1000] ?_; (with_reducible refine (impl_from.calls a0 0 1000 t223 _ A2.out).mono ?_); rintro e w' ⟨rfl, ⟨nd, rfl⟩⟩; refine ⟨_, rfl, ?_⟩))
 go_ret
 exact ⟨rsd, by repeat (first | exact Drawn0.refl _ | apply Drawn0.step)⟩
end Go.Proofs.Ytopikhjcbcpiaaa.Q
section
namespace Go.Proofs.Ytopikhjcbcpiaaa.Q
open Go.RowKit Go.Proofs.YtopikhjcbcpiaaaW.PrintWords Go.Proofs.YtopikhjcbcpiaaaW.PrintLast Go.Proofs.YtopikhjcbcpiaaaW.PrintMore
def impl_ThreadOk_3.f (x0 x1 x2 x3 a1 : Int) : Option Bool := (impl_from.f x0 0 (wrap64 (a1 - 1))).bind fun t1 => if t1 = true then (impl_from.f x1 1 1000000).bind fun t2 => if t2 = true then (impl_from.f x2 0 20).bind fun t3 => if t3 = true then (impl_from.f x3 0 20).bind fun t4 => some (!t4) else some true else some true else some true
set_option maxHeartbeats 4000000 in
set_option maxRecDepth 100000 in
theorem impl_ThreadOk_3_test (g1 : Nat) (x0 x1 x2 x3 a1 : Int) (b : Bool) (w : World) (hg1 : w.heap[g1]? = some (.cells #[.int .i64 a1] 3 (0, 0))) (h : impl_ThreadOk_3.f x0 x1 x2 x3 a1 = some b) :
    Calls Try.prog 91 #[.agg #[.int .i64 x0, .int .i64 x1, .int .i64 x2, .int .i64 x3], .pointer (some ⟨g1, 0, none⟩)] w fun e w' => e = .returned (.bool b) ∧ Below w.heap.size w w' := by
  have huE := Try.underlying100
  have HG := Aside0.mk hg1
  clear hg1
  unfold impl_ThreadOk_3.f at h
  obtain ⟨t1, e1, h⟩ := Option.bind_eq_some_iff.mp h
  have E1 := Aside0.mk e1
  clear e1
  cases t1 with
  | false =>
    simp only [Bool.false_eq_true, if_false, Option.some.injEq] at h
    subst h
    go_enter Try.func91, Try.ntmps91
    go_wp2_with (first | ((with_reducible refine gate_dst (N := 2) rfl ?_); refine box_event ?hg (N := 2) ?hd (cs := #[.int .i64 x0, .int .i64 x1, .int .i64 x2, .int .i64 x3]) (t := 100) ?hr ?_; (case hd => rfl); (case hg => rfl); (case hr => first | (go_simp; done) | (go_simp; rfl)); intro gb hg_ w2 hbox hb; have HB := Aside0.mk hb; have hc_ : w2.cell? ⟨g1, 0, none⟩ = some (.int .i64 a1) := (blk_cell (blk_below HG.out hb) 0).trans rfl; have hz0 : w2.cell? ⟨gb, 0, none⟩ = some (.int .i64 x0) := (blk_cell hbox 0).trans rfl; have hz1 : w2.cell? ⟨gb, 1, none⟩ = some (.int .i64 x1) := (blk_cell hbox 1).trans rfl; have hz2 : w2.cell? ⟨gb, 2, none⟩ = some (.int .i64 x2) := (blk_cell hbox 2).trans rfl; have hz3 : w2.cell? ⟨gb, 3, none⟩ = some (.int .i64 x3) := (blk_cell hbox 3).trans rfl; clear hb hg_ hbox) | (go_at_call 85; (with_reducible refine (impl_from.calls x0 0 (wrap64 (a1 - 1)) false _ E1.out).mono ?_); rintro e w' ⟨rfl, ⟨nd, rfl⟩⟩))
    go_ret
    exact ⟨by first | rfl | (simp; done) | (simp [*]; done), by repeat (first | (with_reducible first | exact HB.out | apply below_alloc | apply pw_below_drewN | apply below_drew1) | exact HB.out)⟩
  | true =>
    simp only [if_true] at h
    obtain ⟨t2, e2, h⟩ := Option.bind_eq_some_iff.mp h
    have E2 := Aside0.mk e2
    clear e2
    cases t2 with
    | false =>
      simp only [Bool.false_eq_true, if_false, Option.some.injEq] at h
      subst h
      go_enter Try.func91, Try.ntmps91
      go_wp2_with (first | ((with_reducible refine gate_dst (N := 2) rfl ?_); refine box_event ?hg (N := 2) ?hd (cs := #[.int .i64 x0, .int .i64 x1, .int .i64 x2, .int .i64 x3]) (t := 100) ?hr ?_; (case hd => rfl); (case hg => rfl); (case hr => first | (go_simp; done) | (go_simp; rfl)); intro gb hg_ w2 hbox hb; have HB := Aside0.mk hb; have hc_ : w2.cell? ⟨g1, 0, none⟩ = some (.int .i64 a1) := (blk_cell (blk_below HG.out hb) 0).trans rfl; have hz0 : w2.cell? ⟨gb, 0, none⟩ = some (.int .i64 x0) := (blk_cell hbox 0).trans rfl; have hz1 : w2.cell? ⟨gb, 1, none⟩ = some (.int .i64 x1) := (blk_cell hbox 1).trans rfl; have hz2 : w2.cell? ⟨gb, 2, none⟩ = some (.int .i64 x2) := (blk_cell hbox 2).trans rfl; have hz3 : w2.cell? ⟨gb, 3, none⟩ = some (.int .i64 x3) := (blk_cell hbox 3).trans rfl; clear hb hg_ hbox) | (go_at_call 85; (with_reducible refine (impl_from.calls x0 0 (wrap64 (a1 - 1)) true _ E1.out).mono ?_); rintro e w' ⟨rfl, ⟨nd, rfl⟩⟩) | (go_at_call 85; (with_reducible refine (impl_from.calls x1 1 1000000 false _ E2.out).mono ?_); rintro e w' ⟨rfl, ⟨nd, rfl⟩⟩))
      go_ret
      exact ⟨by first | rfl | (simp; done) | (simp [*]; done), by repeat (first | (with_reducible first | exact HB.out | apply below_alloc | apply pw_below_drewN | apply below_drew1) | exact HB.out)⟩
    | true =>
      simp only [if_true] at h
      obtain ⟨t3, e3, h⟩ := Option.bind_eq_some_iff.mp h
      have E3 := Aside0.mk e3
      clear e3
      cases t3 with
      | false =>
        simp only [Bool.false_eq_true, if_false, Option.some.injEq] at h
        subst h
        go_enter Try.func91, Try.ntmps91
        go_wp2_with (first | ((with_reducible refine gate_dst (N := 2) rfl ?_); refine box_event ?hg (N := 2) ?hd (cs := #[.int .i64 x0, .int .i64 x1, .int .i64 x2, .int .i64 x3]) (t := 100) ?hr ?_; (case hd => rfl); (case hg => rfl); (case hr => first | (go_simp; done) | (go_simp; rfl)); intro gb hg_ w2 hbox hb; have HB := Aside0.mk hb; have hc_ : w2.cell? ⟨g1, 0, none⟩ = some (.int .i64 a1) := (blk_cell (blk_below HG.out hb) 0).trans rfl; have hz0 : w2.cell? ⟨gb, 0, none⟩ = some (.int .i64 x0) := (blk_cell hbox 0).trans rfl; have hz1 : w2.cell? ⟨gb, 1, none⟩ = some (.int .i64 x1) := (blk_cell hbox 1).trans rfl; have hz2 : w2.cell? ⟨gb, 2, none⟩ = some (.int .i64 x2) := (blk_cell hbox 2).trans rfl; have hz3 : w2.cell? ⟨gb, 3, none⟩ = some (.int .i64 x3) := (blk_cell hbox 3).trans rfl; clear hb hg_ hbox) | (go_at_call 85; (with_reducible refine (impl_from.calls x0 0 (wrap64 (a1 - 1)) true _ E1.out).mono ?_); rintro e w' ⟨rfl, ⟨nd, rfl⟩⟩) | (go_at_call 85; (with_reducible refine (impl_from.calls x1 1 1000000 true _ E2.out).mono ?_); rintro e w' ⟨rfl, ⟨nd, rfl⟩⟩) | (go_at_call 85; (with_reducible refine (impl_from.calls x2 0 20 false _ E3.out).mono ?_); rintro e w' ⟨rfl, ⟨nd, rfl⟩⟩))
        go_ret
        exact ⟨by first | rfl | (simp; done) | (simp [*]; done), by repeat (first | (with_reducible first | exact HB.out | apply below_alloc | apply pw_below_drewN | apply below_drew1) | exact HB.out)⟩
      | true =>
        simp only [if_true] at h
        obtain ⟨t4, e4, h⟩ := Option.bind_eq_some_iff.mp h
        have E4 := Aside0.mk e4
        clear e4
        cases t4 with
        | true =>
          obtain rfl := Option.some.inj h
          clear h
          go_enter Try.func91, Try.ntmps91
          go_wp2_with (first | ((with_reducible refine gate_dst (N := 2) rfl ?_); refine box_event ?hg (N := 2) ?hd (cs := #[.int .i64 x0, .int .i64 x1, .int .i64 x2, .int .i64 x3]) (t := 100) ?hr ?_; (case hd => rfl); (case hg => rfl); (case hr => first | (go_simp; done) | (go_simp; rfl)); intro gb hg_ w2 hbox hb; have HB := Aside0.mk hb; have hc_ : w2.cell? ⟨g1, 0, none⟩ = some (.int .i64 a1) := (blk_cell (blk_below HG.out hb) 0).trans rfl; have hz0 : w2.cell? ⟨gb, 0, none⟩ = some (.int .i64 x0) := (blk_cell hbox 0).trans rfl; have hz1 : w2.cell? ⟨gb, 1, none⟩ = some (.int .i64 x1) := (blk_cell hbox 1).trans rfl; have hz2 : w2.cell? ⟨gb, 2, none⟩ = some (.int .i64 x2) := (blk_cell hbox 2).trans rfl; have hz3 : w2.cell? ⟨gb, 3, none⟩ = some (.int .i64 x3) := (blk_cell hbox 3).trans rfl; clear hb hg_ hbox) | (go_at_call 85; (with_reducible refine (impl_from.calls x0 0 (wrap64 (a1 - 1)) true _ E1.out).mono ?_); rintro e w' ⟨rfl, ⟨nd, rfl⟩⟩) | (go_at_call 85; (with_reducible refine (impl_from.calls x1 1 1000000 true _ E2.out).mono ?_); rintro e w' ⟨rfl, ⟨nd, rfl⟩⟩) | (go_at_call 85; (with_reducible refine (impl_from.calls x2 0 20 true _ E3.out).mono ?_); rintro e w' ⟨rfl, ⟨nd, rfl⟩⟩) | (go_at_call 85; (with_reducible refine (impl_from.calls x3 0 20 true _ E4.out).mono ?_); rintro e w' ⟨rfl, ⟨nd, rfl⟩⟩))
          go_ret
          exact ⟨by first | rfl | (simp; done) | (simp [*]; done), by repeat (first | (with_reducible first | exact HB.out | apply below_alloc | apply pw_below_drewN | apply below_drew1) | exact HB.out)⟩
        | false =>
          obtain rfl := Option.some.inj h
          clear h
          go_enter Try.func91, Try.ntmps91
          go_wp2_with (first | ((with_reducible refine gate_dst (N := 2) rfl ?_); refine box_event ?hg (N := 2) ?hd (cs := #[.int .i64 x0, .int .i64 x1, .int .i64 x2, .int .i64 x3]) (t := 100) ?hr ?_; (case hd => rfl); (case hg => rfl); (case hr => first | (go_simp; done) | (go_simp; rfl)); intro gb hg_ w2 hbox hb; have HB := Aside0.mk hb; have hc_ : w2.cell? ⟨g1, 0, none⟩ = some (.int .i64 a1) := (blk_cell (blk_below HG.out hb) 0).trans rfl; have hz0 : w2.cell? ⟨gb, 0, none⟩ = some (.int .i64 x0) := (blk_cell hbox 0).trans rfl; have hz1 : w2.cell? ⟨gb, 1, none⟩ = some (.int .i64 x1) := (blk_cell hbox 1).trans rfl; have hz2 : w2.cell? ⟨gb, 2, none⟩ = some (.int .i64 x2) := (blk_cell hbox 2).trans rfl; have hz3 : w2.cell? ⟨gb, 3, none⟩ = some (.int .i64 x3) := (blk_cell hbox 3).trans rfl; clear hb hg_ hbox) | (go_at_call 85; (with_reducible refine (impl_from.calls x0 0 (wrap64 (a1 - 1)) true _ E1.out).mono ?_); rintro e w' ⟨rfl, ⟨nd, rfl⟩⟩) | (go_at_call 85; (with_reducible refine (impl_from.calls x1 1 1000000 true _ E2.out).mono ?_); rintro e w' ⟨rfl, ⟨nd, rfl⟩⟩) | (go_at_call 85; (with_reducible refine (impl_from.calls x2 0 20 true _ E3.out).mono ?_); rintro e w' ⟨rfl, ⟨nd, rfl⟩⟩) | (go_at_call 85; (with_reducible refine (impl_from.calls x3 0 20 false _ E4.out).mono ?_); rintro e w' ⟨rfl, ⟨nd, rfl⟩⟩))
          go_ret
          exact ⟨by first | rfl | (simp; done) | (simp [*]; done), by repeat (first | (with_reducible first | exact HB.out | apply below_alloc | apply pw_below_drewN | apply below_drew1) | exact HB.out)⟩
def impl_Begin_1.f (_x0 x1 _x2 a1 : Int) : Option Bool := some (x1 == wrap64 (a1 + 1))
set_option maxHeartbeats 4000000 in
set_option maxRecDepth 100000 in
theorem impl_Begin_1_test (g1 : Nat) (x0 x1 x2 a1 : Int) (b : Bool) (w : World) (hg1 : w.heap[g1]? = some (.cells #[.int .i64 a1] 3 (0, 0))) (h : impl_Begin_1.f x0 x1 x2 a1 = some b) :
    Calls Try.prog 139 #[.agg #[.int .i64 x0, .int .i64 x1, .int .i64 x2], .pointer (some ⟨g1, 0, none⟩)] w fun e w' => e = .returned (.bool b) ∧ Below w.heap.size w w' := by
  have huE := Try.underlying141
  have HG := Aside0.mk hg1
  clear hg1
  unfold impl_Begin_1.f at h
  obtain rfl := Option.some.inj h
  clear h
  go_enter Try.func139, Try.ntmps139
  go_wp2_with (first | ((with_reducible refine gate_dst (N := 2) rfl ?_); refine box_event ?hg (N := 2) ?hd (cs := #[.int .i64 x0, .int .i64 x1, .int .i64 x2]) (t := 141) ?hr ?_; (case hd => rfl); (case hg => rfl); (case hr => first | (go_simp; done) | (go_simp; rfl)); intro gb hg_ w2 hbox hb; have HB := Aside0.mk hb; have hc_ : w2.cell? ⟨g1, 0, none⟩ = some (.int .i64 a1) := (blk_cell (blk_below HG.out hb) 0).trans rfl; have hz0 : w2.cell? ⟨gb, 0, none⟩ = some (.int .i64 x0) := (blk_cell hbox 0).trans rfl; have hz1 : w2.cell? ⟨gb, 1, none⟩ = some (.int .i64 x1) := (blk_cell hbox 1).trans rfl; have hz2 : w2.cell? ⟨gb, 2, none⟩ = some (.int .i64 x2) := (blk_cell hbox 2).trans rfl; clear hb hg_ hbox))
  go_ret
  exact ⟨by first | rfl | (simp; done) | (simp [*]; done), by repeat (first | (with_reducible first | exact HB.out | apply below_alloc | apply pw_below_drewN | apply below_drew1) | exact HB.out)⟩
end Go.Proofs.Ytopikhjcbcpiaaa.Q
end
