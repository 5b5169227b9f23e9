/- Part 2 of the steps by which the law is shown: what each function of the program, of the reference and of the law computes. No condition. -/
import Derived.Deep.Slices
import Derived.DataReads
import Derived.Test.YtopikhjcbcpiaaaGreatFin0
import Derived.Test.YtopikhjcbcpiaaaGreatFin1
namespace Go.Proofs.YtopikhjcbcpiaaaGreat.Q
open Go.RowKit Go.Proofs.YtopikhjcbcpiaaaGreatW.PrintWords Go.Proofs.YtopikhjcbcpiaaaGreatW.PrintLast Go.Proofs.YtopikhjcbcpiaaaGreatW.PrintMore
attribute [local go_sem] max2_int min2_int max_two min_two max_three min_three max_four min_four   -- for this text's walks alone
set_option linter.unusedVariables false
set_option linter.unusedSimpArgs false
def laws_szIntS.f (l0 : List Int) (a1 : Int) : Option (Int) := if (wrap64 (a1 - (l0.length : Int))) < 0 then (some (-1)) else (some (wrap64 (a1 - (l0.length : Int))))
set_option maxHeartbeats 8000000 in
set_option maxRecDepth 100000 in
theorem laws_szIntS.calls (A0 : Option Addr) (c0 : Nat) (l0 : List Int) (a1 : Int) (r : Int) (w : World) (hr0 : Kd.C (Kd.int .i64) w A0 l0.length l0) (hc0 : l0.length ≤ c0) (h : laws_szIntS.f l0 a1 = some r) :
  Calls Tryz.prog 83 #[.slice A0 l0.length c0, .int .i64 a1] w fun e w' => e = .returned (.int .i64 r) ∧ Drawn0 w w' := by
 have HR0 := Aside0.mk hr0
 have HC0 := Aside0.mk hc0
 clear hr0 hc0
 have H := h
 clear h
 unfold laws_szIntS.f at H
 revert H; refine icd (fun c3b0 H => ?pos) fun c3b0 H => ?_
 case pos =>
  obtain rfl := oin H
  go_enter Tryz.func83, Tryz.ntmps83
  go_wp2
  go_ret
  exact ⟨rsd, by repeat (first | exact Drawn0.refl _ | apply Drawn0.step)⟩
 obtain rfl := oin H
 go_enter Tryz.func83, Tryz.ntmps83
 go_wp2
 go_ret
 exact ⟨rsd, by repeat (first | exact Drawn0.refl _ | apply Drawn0.step)⟩
def laws_szWordS.f (l0 : List (S207)) (a1 : Int) : Option (Int) := if (wrap64 (a1 - (l0.length : Int))) < 0 then (some (-1)) else (some (wrap64 (a1 - (l0.length : Int))))
set_option maxHeartbeats 8000000 in
set_option maxRecDepth 100000 in
theorem laws_szWordS.calls (A0 : Option Addr) (c0 : Nat) (l0 : List (S207)) (a1 : Int) (r : Int) (w : World) (hr0 : Kd.C k207 w A0 l0.length l0) (hc0 : l0.length ≤ c0) (h : laws_szWordS.f l0 a1 = some r) :
  Calls Tryz.prog 135 #[.slice A0 l0.length c0, .int .i64 a1] w fun e w' => e = .returned (.int .i64 r) ∧ Drawn0 w w' := by
 have HR0 := Aside0.mk hr0
 have HC0 := Aside0.mk hc0
 clear hr0 hc0
 have H := h
 clear h
 unfold laws_szWordS.f at H
 revert H; refine icd (fun c3b0 H => ?pos) fun c3b0 H => ?_
 case pos =>
  obtain rfl := oin H
  go_enter Tryz.func135, Tryz.ntmps135
  go_wp2
  go_ret
  exact ⟨rsd, by repeat (first | exact Drawn0.refl _ | apply Drawn0.step)⟩
 obtain rfl := oin H
 go_enter Tryz.func135, Tryz.ntmps135
 go_wp2
 go_ret
 exact ⟨rsd, by repeat (first | exact Drawn0.refl _ | apply Drawn0.step)⟩
def laws_szEntryS.f (l0 : List (S236)) (a1 : Int) : Option (Int) := if (wrap64 (a1 - (l0.length : Int))) < 0 then (some (-1)) else (some (wrap64 (a1 - (l0.length : Int))))
set_option maxHeartbeats 8000000 in
set_option maxRecDepth 100000 in
theorem laws_szEntryS.calls (A0 : Option Addr) (c0 : Nat) (l0 : List (S236)) (a1 : Int) (r : Int) (w : World) (hr0 : Kd.C k236 w A0 l0.length l0) (hc0 : l0.length ≤ c0) (h : laws_szEntryS.f l0 a1 = some r) :
  Calls Tryz.prog 190 #[.slice A0 l0.length c0, .int .i64 a1] w fun e w' => e = .returned (.int .i64 r) ∧ Drawn0 w w' := by
 have HR0 := Aside0.mk hr0
 have HC0 := Aside0.mk hc0
 clear hr0 hc0
 have H := h
 clear h
 unfold laws_szEntryS.f at H
 revert H; refine icd (fun c3b0 H => ?pos) fun c3b0 H => ?_
 case pos =>
  obtain rfl := oin H
  go_enter Tryz.func190, Tryz.ntmps190
  go_wp2
  go_ret
  exact ⟨rsd, by repeat (first | exact Drawn0.refl _ | apply Drawn0.step)⟩
 obtain rfl := oin H
 go_enter Tryz.func190, Tryz.ntmps190
 go_wp2
 go_ret
 exact ⟨rsd, by repeat (first | exact Drawn0.refl _ | apply Drawn0.step)⟩
def laws_szOpS.f (l0 : List (S173)) (a1 : Int) : Option (Int) := if (wrap64 (a1 - (l0.length : Int))) < 0 then (some (-1)) else (some (wrap64 (a1 - (l0.length : Int))))
set_option maxHeartbeats 8000000 in
set_option maxRecDepth 100000 in
theorem laws_szOpS.calls (A0 : Option Addr) (c0 : Nat) (l0 : List (S173)) (a1 : Int) (r : Int) (w : World) (hr0 : Kd.C k173 w A0 l0.length l0) (hc0 : l0.length ≤ c0) (h : laws_szOpS.f l0 a1 = some r) :
  Calls Tryz.prog 170 #[.slice A0 l0.length c0, .int .i64 a1] w fun e w' => e = .returned (.int .i64 r) ∧ Drawn0 w w' := by
 have HR0 := Aside0.mk hr0
 have HC0 := Aside0.mk hc0
 clear hr0 hc0
 have H := h
 clear h
 unfold laws_szOpS.f at H
 revert H; refine icd (fun c3b0 H => ?pos) fun c3b0 H => ?_
 case pos =>
  obtain rfl := oin H
  go_enter Tryz.func170, Tryz.ntmps170
  go_wp2
  go_ret
  exact ⟨rsd, by repeat (first | exact Drawn0.refl _ | apply Drawn0.step)⟩
 obtain rfl := oin H
 go_enter Tryz.func170, Tryz.ntmps170
 go_wp2
 go_ret
 exact ⟨rsd, by repeat (first | exact Drawn0.refl _ | apply Drawn0.step)⟩
def laws_szPairS.f (l0 : List (S224)) (a1 : Int) : Option (Int) := if (wrap64 (a1 - (l0.length : Int))) < 0 then (some (-1)) else (some (wrap64 (a1 - (l0.length : Int))))
set_option maxHeartbeats 8000000 in
set_option maxRecDepth 100000 in
theorem laws_szPairS.calls (A0 : Option Addr) (c0 : Nat) (l0 : List (S224)) (a1 : Int) (r : Int) (w : World) (hr0 : Kd.C k224 w A0 l0.length l0) (hc0 : l0.length ≤ c0) (h : laws_szPairS.f l0 a1 = some r) :
  Calls Tryz.prog 171 #[.slice A0 l0.length c0, .int .i64 a1] w fun e w' => e = .returned (.int .i64 r) ∧ Drawn0 w w' := by
 have HR0 := Aside0.mk hr0
 have HC0 := Aside0.mk hc0
 clear hr0 hc0
 have H := h
 clear h
 unfold laws_szPairS.f at H
 revert H; refine icd (fun c3b0 H => ?pos) fun c3b0 H => ?_
 case pos =>
  obtain rfl := oin H
  go_enter Tryz.func171, Tryz.ntmps171
  go_wp2
  go_ret
  exact ⟨rsd, by repeat (first | exact Drawn0.refl _ | apply Drawn0.step)⟩
 obtain rfl := oin H
 go_enter Tryz.func171, Tryz.ntmps171
 go_wp2
 go_ret
 exact ⟨rsd, by repeat (first | exact Drawn0.refl _ | apply Drawn0.step)⟩
def laws_szHelpS.f (l0 : List (S226)) (a1 : Int) : Option (Int) := if (wrap64 (a1 - (l0.length : Int))) < 0 then (some (-1)) else (some (wrap64 (a1 - (l0.length : Int))))
set_option maxHeartbeats 8000000 in
set_option maxRecDepth 100000 in
theorem laws_szHelpS.calls (A0 : Option Addr) (c0 : Nat) (l0 : List (S226)) (a1 : Int) (r : Int) (w : World) (hr0 : Kd.C k226 w A0 l0.length l0) (hc0 : l0.length ≤ c0) (h : laws_szHelpS.f l0 a1 = some r) :
  Calls Tryz.prog 172 #[.slice A0 l0.length c0, .int .i64 a1] w fun e w' => e = .returned (.int .i64 r) ∧ Drawn0 w w' := by
 have HR0 := Aside0.mk hr0
 have HC0 := Aside0.mk hc0
 clear hr0 hc0
 have H := h
 clear h
 unfold laws_szHelpS.f at H
 revert H; refine icd (fun c3b0 H => ?pos) fun c3b0 H => ?_
 case pos =>
  obtain rfl := oin H
  go_enter Tryz.func172, Tryz.ntmps172
  go_wp2
  go_ret
  exact ⟨rsd, by repeat (first | exact Drawn0.refl _ | apply Drawn0.step)⟩
 obtain rfl := oin H
 go_enter Tryz.func172, Tryz.ntmps172
 go_wp2
 go_ret
 exact ⟨rsd, by repeat (first | exact Drawn0.refl _ | apply Drawn0.step)⟩
def laws_toIntS.l0 : Nat → List Int → List Int → Int → Option (List Int)
 | 0, _, _, _ => none
 | k + 1, x0, x3, x4 => if x4 < (x0.length : Int) then (if 0 ≤ x4 then (if x4 < (x3.length : Int) then (laws_toIntS.l0 k x0 (x3.set (x4 : Int).toNat (rd x0 x4)) (wrap64 (x4 + 1))) else (none)) else (none)) else (some x3)
def laws_toIntS.f (k : Nat) (l0 : List Int) : Option (List Int) := if 0 ≤ (l0.length : Int) then (if ((l0.length : Int) : Int).toNat ≤ 35184372088832 then (laws_toIntS.l0 k l0 (List.replicate ((l0.length : Int) : Int).toNat 0) 0) else (none)) else (none)
set_option maxHeartbeats 8000000 in
set_option maxRecDepth 100000 in
theorem laws_toIntS.calls (k : Nat) (A0 : Option Addr) (c0 : Nat) (l0 : List Int) (r : List Int) (w : World) (hr0 : Kd.C (Kd.int .i64) w A0 l0.length l0) (hc0 : l0.length ≤ c0) (h : laws_toIntS.f k l0 = some r) :
  Calls Tryz.prog 91 #[.slice A0 l0.length c0] w fun e w' => ∃ v0_ : Value, e = .returned (v0_) ∧ Kd.R (Kd.int .i64) 3 w' w.heap.size (fun _ => True) v0_ r ∧ Below w.heap.size w w' := by
 have HR0 := Aside0.mk hr0
 have HC0 := Aside0.mk hc0
 clear hr0 hc0
 have HB := Aside0.mk (Below.refl w.heap.size w)
 have H := h
 clear h
 unfold laws_toIntS.f at H
 obtain ⟨c2b0, c2b1, H⟩ := itb H
 obtain ⟨c3b0, c3b1, H⟩ := itb H
 obtain ⟨y242, hy242⟩ : ∃ y_ : List Int, y_ = (List.replicate ((l0.length : Int) : Int).toNat 0) := ⟨_, rfl⟩
 replace H : (laws_toIntS.l0 k l0 y242 0) = some r := by first | (rw [hy242]; with_reducible exact H) | (have H2_ := (Option.bind_some _ _).symm.trans H; rw [hy242]; with_reducible exact H2_) | (have H2_ := (Option.bind_some _ _).symm.trans H; with_reducible exact H2_) | with_reducible exact H | (rw [hy242]; exact H) | exact H
 have Ny242 := Aside0.mk hy242
 clear hy242
 have H' := Aside0.mk H
 clear H
 go_enter Tryz.func91, Tryz.ntmps91
 go_wp2_with (first | ((with_reducible refine gq 7 rfl ?_); refine Kd.R_make (Kd.int .i64) _ 3 rfl (N := 7) rfl 29 _ _ rfl (l0.length : Int) rfl rfl Tryz.underlying29 (.int .i64 0) 8 info3 rfl (by decide) (by omega) 0 (ok := fun _ => True) (okp := fun _ => True) rfl (fun _ hk => hk) trivial (od) (Nat.le_trans (Nat.mul_le_mul_right _ (od : (l0.length : Int).toNat ≤ 35184372088832)) (by omega)) (Below.refl _ _) (Nat.le_refl _) ?_; intro v243 w4 ho5 hb hg_ hnew_; clear hg_ hnew_; (first | rw [← Ny242.out] at ho5 | (simp only [Int.reduceToNat] at ho5; rw [← Ny242.out] at ho5)); have HO244 := Aside0.mk (Kd.R_lower ho5 (below_size (tb HB))); replace HB := bs HB hb; clear hb ho5))
 go_loopg [4] k (fun kq v4 w' => ∃ (x3_1 : List Int) (x4_1 : Int), v4 = .int .i64 x4_1 ∧ Aside0 (laws_toIntS.l0 kq l0 x3_1 x4_1 = some r) ∧ Aside0 (kq ≤ k) ∧ Aside0 (Kd.R (Kd.int .i64) 3 w' w.heap.size (fun _ => True) v243 x3_1) ∧ Aside0 (Below w.heap.size w w'))
 case atStart => exact ⟨(y242), (0), rsd, H', ⟨Nat.le_refl _⟩, ⟨kr HO244.out⟩, ⟨tb HB⟩⟩
 case round =>
  clear H'
  obtain ⟨x3_1, x4_1, rfl, HA, HK1, HO_3, HB⟩ := hrel
  cases gk with
  | zero => exact absurd HA.out (by simp [laws_toIntS.l0])
  | succ k1 =>
   have H := HA.out
   clear HA
   simp only [laws_toIntS.l0] at H
   revert H; refine icd (fun c6b0 H => ?_) fun c6b0 H => ?neg
   case neg =>
    obtain rfl := oin H
    go_wp2
    go_ret
    exact ⟨_, er, kr HO_3.out, tb HB⟩
   obtain ⟨c7b0, H⟩ := itd H
   obtain ⟨c8b0, H⟩ := itd H
   obtain ⟨y246, hy246⟩ : ∃ y_ : List Int, y_ = (x3_1.set (x4_1 : Int).toNat (rd l0 x4_1)) := ⟨_, rfl⟩
   replace H : (laws_toIntS.l0 k1 l0 y246 (wrap64 (x4_1 + 1))) = some r := by first | (rw [hy246]; with_reducible exact H) | (have H2_ := (Option.bind_some _ _).symm.trans H; rw [hy246]; with_reducible exact H2_) | (have H2_ := (Option.bind_some _ _).symm.trans H; with_reducible exact H2_) | with_reducible exact H | (rw [hy246]; exact H) | exact H
   have Ny246 := Aside0.mk hy246
   clear hy246
   have H' := Aside0.mk H
   clear H
   have p245 : 0 ≤ (x4_1 : Int) := od
   have q245 : x4_1 < (l0.length : Int) := od
   obtain ⟨ad245, e245, hx245_0⟩ := Kd.at_int HR0.out x4_1 p245 q245
   cases e245
   replace hx245_0 := ox HB hx245_0
   replace p245 := eq_true p245
   replace q245 := eq_true q245
   have p9 : 0 ≤ (x4_1 : Int) := od
   have q9 : (x4_1 : Int) < ((x3_1.length : Int) : Int) := od
   obtain ⟨go9, co9, eo9, gb9, gl9, cl9, HG9⟩ := Kd.R_form HO_3.out (by omega)
   (first | cases eo9 | (injection eo9 with ea_ en_ ec_; (first | subst ea_ | (injection ea_ with ea_; subst ea_)); subst ec_; clear en_))
   have GB9 := Aside0.mk gb9
   have GG9 := Aside0.mk HG9
   clear gb9 gl9 HG9
   obtain ⟨hx9_0, hf9_0⟩ := Kd.R_celln 0 HO_3.out (x4_1 : Int) p9 q9
   replace p9 := eq_true p9
   replace q9 := eq_true q9
   have HP10 := Kd.R_putg HO_3.out (x4_1 : Int) (rd l0 x4_1)
   go_wp2_with (first | ((with_reducible refine gate_store (t := 3) (p := 20) rfl ?_); refine store_event (t := 3) (p := 20) (v := ?vo_w11) (w1 := (wr.setCell ⟨go9, (x4_1 : Int).toNat, none⟩ (.int .i64 (rd l0 x4_1)))) ?hg ?ho ?hn ?hr ?_; (case ho => rfl); (case hg => rfl); (case hn => rfl); (case hr => first | (go_simp; done) | (go_simp; rfl)); intro w11 hw; have hg : wr.grownBy w11 (some go9) := (by rw [hw]; exact HP10.2); have hp_ : Kd.R (Kd.int .i64) 3 w11 w.heap.size (fun _ => True) (.slice (some ⟨go9, 0, none⟩) x3_1.length co9) y246 := (by rw [hw, Ny246.out]; exact HP10.1); clear HP10; replace HO_3 := Aside0.mk (hp_); replace HB := Aside0.mk ((by rw [hw]; exact below_set (HB.out) GB9.out : Below w.heap.size w w11)); clear hg hw hp_))
   go_roundg k1
   case measure => have := HK1.out; omega
   case rel => exact ⟨(y246), (wrap64 (x4_1 + 1)), rsd, H', ⟨by have := HK1.out; omega⟩, ⟨kr HO_3.out⟩, ⟨tb HB⟩⟩
def laws_toWord.f (a0_0 : Int) (a0_1 : Int) (a0_2 : Int) : Option (Int × Int × Int) := some (a0_0, a0_1, a0_2)
set_option maxHeartbeats 8000000 in
set_option maxRecDepth 100000 in
theorem laws_toWord.calls (a0_0 : Int) (a0_1 : Int) (a0_2 : Int) (r1 : Int) (r2 : Int) (r3 : Int) (w : World) (h : laws_toWord.f a0_0 a0_1 a0_2 = some (r1, r2, r3)) :
  Calls Tryz.prog 174 #[.agg #[.int .i64 a0_0, .int .i64 a0_1, .int .i64 a0_2]] w fun e w' => e = .returned (.agg #[.int .i64 r1, .int .i64 r2, .int .i64 r3]) ∧ Below w.heap.size w w' := by
 have hu207 := Tryz.underlying207
 have hu39 := Tryz.underlying39
 have HB := Aside0.mk (Below.refl w.heap.size w)
 have H := h
 clear h
 unfold laws_toWord.f at H
 simp only [Option.some.injEq, Prod.mk.injEq] at H
 obtain ⟨rfl, rfl, rfl⟩ := H
 go_enter Tryz.func174, Tryz.ntmps174
 go_wp2_with (first | ((with_reducible refine gq 1 rfl ?_); refine bx0 HB (N := 1) (t := 207) ?_; clear HB; intro gb231 w2 BK231 GE231 HB) | ((with_reducible refine gq 2 rfl ?_); refine bx1 HB BK231 (N := 2) (cs := #[.int .i64 0, .int .i64 0, .int .i64 0]) (t := 39) ?_; clear HB BK231; intro gb232 w3 BK232 GE232 HB NB231_232 NB232_231 BK231) | ((with_reducible refine gq 3 rfl ?_); refine bx2 HB BK231 BK232 (N := 3) (cs := #[.int .i64 0, .int .i64 0, .int .i64 0]) (t := 39) ?_; clear HB BK231 BK232; intro gb233 w4 BK233 GE233 HB NB231_233 NB233_231 BK231 NB232_233 NB233_232 BK232; have hnb5 := NB231_232.out; have hnc5 := NB232_231.out; have hnb6 := NB231_233.out; have hnc6 := NB233_231.out; have hz7 := cs3_ BK231; have hnb8 := NB233_232.out; have hnc8 := NB232_233.out; have hz9 := cs3_ BK233; have hz10 := cs3_ BK232))
 refine bodyPost_ret (results_cell_row rfl _ _ gb232 39 #[.int .i64 a0_0, .int .i64 a0_1, .int .i64 a0_2] (0, 0) _ rfl (bfp3 BK232) Tryz.underlying39 rfl (by kernel_rfl)) rfl ?_
 exact ⟨er, tb HB⟩
def laws_toEntry.f (a0_0 : Int) (a0_1 : Int) (a0_2 : Int) : Option (Int × Int × Int) := some (a0_0, a0_1, a0_2)
set_option maxHeartbeats 8000000 in
set_option maxRecDepth 100000 in
theorem laws_toEntry.calls (a0_0 : Int) (a0_1 : Int) (a0_2 : Int) (r1 : Int) (r2 : Int) (r3 : Int) (w : World) (h : laws_toEntry.f a0_0 a0_1 a0_2 = some (r1, r2, r3)) :
  Calls Tryz.prog 201 #[.agg #[.int .i64 a0_0, .int .i64 a0_1, .int .i64 a0_2]] w fun e w' => e = .returned (.agg #[.int .i64 r1, .int .i64 r2, .int .i64 r3]) ∧ Below w.heap.size w w' := by
 have hu236 := Tryz.underlying236
 have hu37 := Tryz.underlying37
 have HB := Aside0.mk (Below.refl w.heap.size w)
 have H := h
 clear h
 unfold laws_toEntry.f at H
 simp only [Option.some.injEq, Prod.mk.injEq] at H
 obtain ⟨rfl, rfl, rfl⟩ := H
 go_enter Tryz.func201, Tryz.ntmps201
 go_wp2_with (first | ((with_reducible refine gq 1 rfl ?_); refine bx0 HB (N := 1) (t := 236) ?_; clear HB; intro gb253 w2 BK253 GE253 HB) | ((with_reducible refine gq 2 rfl ?_); refine bx1 HB BK253 (N := 2) (cs := #[.int .i64 0, .int .i64 0, .int .i64 0]) (t := 37) ?_; clear HB BK253; intro gb254 w3 BK254 GE254 HB NB253_254 NB254_253 BK253) | ((with_reducible refine gq 3 rfl ?_); refine bx2 HB BK253 BK254 (N := 3) (cs := #[.int .i64 0, .int .i64 0, .int .i64 0]) (t := 37) ?_; clear HB BK253 BK254; intro gb255 w4 BK255 GE255 HB NB253_255 NB255_253 BK253 NB254_255 NB255_254 BK254; have hnb5 := NB253_254.out; have hnc5 := NB254_253.out; have hnb6 := NB253_255.out; have hnc6 := NB255_253.out; have hz7 := cs3_ BK253; have hnb8 := NB255_254.out; have hnc8 := NB254_255.out; have hz9 := cs3_ BK255; have hz10 := cs3_ BK254))
 refine bodyPost_ret (results_cell_row rfl _ _ gb254 37 #[.int .i64 a0_0, .int .i64 a0_1, .int .i64 a0_2] (0, 0) _ rfl (bfp3 BK254) Tryz.underlying37 rfl (by kernel_rfl)) rfl ?_
 exact ⟨er, tb HB⟩
def laws_toOp.f (a0_0 : Int) (a0_1 : Int) (a0_2 : Int) : Option (Int × Int × Int) := some (a0_0, a0_1, a0_2)
set_option maxHeartbeats 8000000 in
set_option maxRecDepth 100000 in
theorem laws_toOp.calls (a0_0 : Int) (a0_1 : Int) (a0_2 : Int) (r1 : Int) (r2 : Int) (r3 : Int) (w : World) (h : laws_toOp.f a0_0 a0_1 a0_2 = some (r1, r2, r3)) :
  Calls Tryz.prog 179 #[.agg #[.int .i64 a0_0, .int .i64 a0_1, .int .i64 a0_2]] w fun e w' => e = .returned (.agg #[.int .i64 r1, .int .i64 r2, .int .i64 r3]) ∧ Below w.heap.size w w' := by
 have hu173 := Tryz.underlying173
 have hu132 := Tryz.underlying132
 have HB := Aside0.mk (Below.refl w.heap.size w)
 have H := h
 clear h
 unfold laws_toOp.f at H
 simp only [Option.some.injEq, Prod.mk.injEq] at H
 obtain ⟨rfl, rfl, rfl⟩ := H
 go_enter Tryz.func179, Tryz.ntmps179
 go_wp2_with (first | ((with_reducible refine gq 1 rfl ?_); refine bx0 HB (N := 1) (t := 173) ?_; clear HB; intro gb297 w2 BK297 GE297 HB) | ((with_reducible refine gq 2 rfl ?_); refine bx1 HB BK297 (N := 2) (cs := #[.int .i64 0, .int .i64 0, .int .i64 0]) (t := 132) ?_; clear HB BK297; intro gb298 w3 BK298 GE298 HB NB297_298 NB298_297 BK297) | ((with_reducible refine gq 3 rfl ?_); refine bx2 HB BK297 BK298 (N := 3) (cs := #[.int .i64 0, .int .i64 0, .int .i64 0]) (t := 132) ?_; clear HB BK297 BK298; intro gb299 w4 BK299 GE299 HB NB297_299 NB299_297 BK297 NB298_299 NB299_298 BK298; have hnb5 := NB297_298.out; have hnc5 := NB298_297.out; have hnb6 := NB297_299.out; have hnc6 := NB299_297.out; have hz7 := cs3_ BK297; have hnb8 := NB299_298.out; have hnc8 := NB298_299.out; have hz9 := cs3_ BK299; have hz10 := cs3_ BK298))
 refine bodyPost_ret (results_cell_row rfl _ _ gb298 132 #[.int .i64 a0_0, .int .i64 a0_1, .int .i64 a0_2] (0, 0) _ rfl (bfp3 BK298) Tryz.underlying132 rfl (by kernel_rfl)) rfl ?_
 exact ⟨er, tb HB⟩
def laws_toPair.f (a0_0 : Int) (a0_1 : Int) : Option (Int × Int) := some (a0_0, a0_1)
set_option maxHeartbeats 8000000 in
set_option maxRecDepth 100000 in
theorem laws_toPair.calls (a0_0 : Int) (a0_1 : Int) (r1 : Int) (r2 : Int) (w : World) (h : laws_toPair.f a0_0 a0_1 = some (r1, r2)) :
  Calls Tryz.prog 192 #[.agg #[.int .i64 a0_0, .int .i64 a0_1]] w fun e w' => e = .returned (.agg #[.int .i64 r1, .int .i64 r2]) ∧ Below w.heap.size w w' := by
 have hu224 := Tryz.underlying224
 have hu145 := Tryz.underlying145
 have HB := Aside0.mk (Below.refl w.heap.size w)
 have H := h
 clear h
 unfold laws_toPair.f at H
 simp only [Option.some.injEq, Prod.mk.injEq] at H
 obtain ⟨rfl, rfl⟩ := H
 go_enter Tryz.func192, Tryz.ntmps192
 go_wp2_with (first | ((with_reducible refine gq 1 rfl ?_); refine bx0 HB (N := 1) (t := 224) ?_; clear HB; intro gb308 w2 BK308 GE308 HB) | ((with_reducible refine gq 2 rfl ?_); refine bx1 HB BK308 (N := 2) (cs := #[.int .i64 0, .int .i64 0]) (t := 145) ?_; clear HB BK308; intro gb309 w3 BK309 GE309 HB NB308_309 NB309_308 BK308) | ((with_reducible refine gq 3 rfl ?_); refine bx2 HB BK308 BK309 (N := 3) (cs := #[.int .i64 0, .int .i64 0]) (t := 145) ?_; clear HB BK308 BK309; intro gb310 w4 BK310 GE310 HB NB308_310 NB310_308 BK308 NB309_310 NB310_309 BK309; have hnb5 := NB308_309.out; have hnc5 := NB309_308.out; have hnb6 := NB308_310.out; have hnc6 := NB310_308.out; have hz7 := cs2_ BK308; have hnb8 := NB310_309.out; have hnc8 := NB309_310.out; have hz9 := cs2_ BK310; have hz10 := cs2_ BK309))
 refine bodyPost_ret (results_cell_row rfl _ _ gb309 145 #[.int .i64 a0_0, .int .i64 a0_1] (0, 0) _ rfl (bfp2 BK309) Tryz.underlying145 rfl (by kernel_rfl)) rfl ?_
 exact ⟨er, tb HB⟩
def laws_toHelp.f (a0_0 : Int) (a0_1 : Int) (a0_2 : Int) (a0_3 : Int) : Option (Int × Int × Int × Int) := some (a0_0, a0_1, a0_2, a0_3)
set_option maxHeartbeats 8000000 in
set_option maxRecDepth 100000 in
theorem laws_toHelp.calls (a0_0 : Int) (a0_1 : Int) (a0_2 : Int) (a0_3 : Int) (r1 : Int) (r2 : Int) (r3 : Int) (r4 : Int) (w : World) (h : laws_toHelp.f a0_0 a0_1 a0_2 a0_3 = some (r1, r2, r3, r4)) :
  Calls Tryz.prog 193 #[.agg #[.int .i64 a0_0, .int .i64 a0_1, .int .i64 a0_2, .int .i64 a0_3]] w fun e w' => e = .returned (.agg #[.int .i64 r1, .int .i64 r2, .int .i64 r3, .int .i64 r4]) ∧ Below w.heap.size w w' := by
 have hu226 := Tryz.underlying226
 have hu42 := Tryz.underlying42
 have HB := Aside0.mk (Below.refl w.heap.size w)
 have H := h
 clear h
 unfold laws_toHelp.f at H
 simp only [Option.some.injEq, Prod.mk.injEq] at H
 obtain ⟨rfl, rfl, rfl, rfl⟩ := H
 go_enter Tryz.func193, Tryz.ntmps193
 go_wp2_with (first | ((with_reducible refine gq 1 rfl ?_); refine bx0 HB (N := 1) (t := 226) ?_; clear HB; intro gb318 w2 BK318 GE318 HB) | ((with_reducible refine gq 2 rfl ?_); refine bx1 HB BK318 (N := 2) (cs := #[.int .i64 0, .int .i64 0, .int .i64 0, .int .i64 0]) (t := 42) ?_; clear HB BK318; intro gb319 w3 BK319 GE319 HB NB318_319 NB319_318 BK318) | ((with_reducible refine gq 3 rfl ?_); refine bx2 HB BK318 BK319 (N := 3) (cs := #[.int .i64 0, .int .i64 0, .int .i64 0, .int .i64 0]) (t := 42) ?_; clear HB BK318 BK319; intro gb320 w4 BK320 GE320 HB NB318_320 NB320_318 BK318 NB319_320 NB320_319 BK319; have hnb5 := NB318_319.out; have hnc5 := NB319_318.out; have hnb6 := NB318_320.out; have hnc6 := NB320_318.out; have hz7 := cs4_ BK318; have hnb8 := NB320_319.out; have hnc8 := NB319_320.out; have hz9 := cs4_ BK320; have hz10 := cs4_ BK319))
 refine bodyPost_ret (results_cell_row rfl _ _ gb319 42 #[.int .i64 a0_0, .int .i64 a0_1, .int .i64 a0_2, .int .i64 a0_3] (0, 0) _ rfl (bfp4 BK319) Tryz.underlying42 rfl (by kernel_rfl)) rfl ?_
 exact ⟨er, tb HB⟩
def laws_eqIntS.l0 : Nat → List Int → List Int → Int → Option (Bool)
 | 0, _, _, _ => none
 | k + 1, x0, x1, x5 => if x5 < (x0.length : Int) then (if 0 ≤ x5 then (if x5 < (x1.length : Int) then (if (rd x0 x5) = (rd x1 x5) then (laws_eqIntS.l0 k x0 x1 (wrap64 (x5 + 1))) else (some false)) else (none)) else (none)) else (some true)
def laws_eqIntS.f (k : Nat) (l0 : List Int) (l1 : List Int) : Option (Bool) := if (l0.length : Int) = (l1.length : Int) then (laws_eqIntS.l0 k l0 l1 0) else (some false)
set_option maxHeartbeats 8000000 in
set_option maxRecDepth 100000 in
theorem laws_eqIntS.calls (k : Nat) (A0 : Option Addr) (c0 : Nat) (l0 : List Int) (A1 : Option Addr) (c1 : Nat) (l1 : List Int) (r : Bool) (w : World) (hr0 : Kd.C (Kd.int .i64) w A0 l0.length l0) (hc0 : l0.length ≤ c0) (hr1 : Kd.C (Kd.int .i64) w A1 l1.length l1) (hc1 : l1.length ≤ c1) (h : laws_eqIntS.f k l0 l1 = some r) :
  Calls Tryz.prog 101 #[.slice A0 l0.length c0, .slice A1 l1.length c1] w fun e w' => e = .returned (.bool r) ∧ Drawn0 w w' := by
 have HR0 := Aside0.mk hr0
 have HC0 := Aside0.mk hc0
 clear hr0 hc0
 have HR1 := Aside0.mk hr1
 have HC1 := Aside0.mk hc1
 clear hr1 hc1
 have H := h
 clear h
 unfold laws_eqIntS.f at H
 by_cases c3 : (l0.length : Int) = (l1.length : Int)
 case neg =>
  rw [if_neg c3] at H
  have c3b0 : ((l0.length : Int) == (l1.length : Int)) = false := beq_eq_false_iff_ne.mpr c3
  have c3b1 : ((l0.length : Int) != (l1.length : Int)) = true := bne_iff_ne.mpr c3
  have c3b2 : (l0.length == l1.length) = false := by first | simpa using c3 | (simp at c3 ⊢; omega)
  obtain rfl := oin H
  go_enter Tryz.func101, Tryz.ntmps101
  go_wp2
  repeat (go_quiet (fail); try go_wp2)
  go_ret
  exact ⟨rsd, by repeat (first | exact Drawn0.refl _ | apply Drawn0.step)⟩
 
 
 rw [if_pos c3] at H
 have c3b0 : ((l0.length : Int) == (l1.length : Int)) = true := beq_iff_eq.mpr c3
 have c3b1 : ((l0.length : Int) != (l1.length : Int)) = false := bne_eq_false_iff_eq.mpr c3
 have c3b2 : (l0.length == l1.length) = true := by first | simpa using c3 | (simp at c3 ⊢; omega)
 clear c3
 have H' := Aside0.mk H
 clear H
 go_enter Tryz.func101, Tryz.ntmps101
 go_wp2
 repeat (go_quiet (fail); try go_wp2)
 go_loopg [5] k (fun kq v5 w' => ∃ (x5_1 : Int), v5 = .int .i64 x5_1 ∧ Aside0 (laws_eqIntS.l0 kq l0 l1 x5_1 = some r) ∧ Aside0 (kq ≤ k) ∧ Drawn0 w w')
 case atStart => exact ⟨(0), rsd, H', ⟨Nat.le_refl _⟩, by repeat (first | exact Drawn0.refl _ | apply Drawn0.step)⟩
 case round =>
  clear H'
  obtain ⟨x5_1, rfl, HA, HK1, ⟨m1, rfl⟩⟩ := hrel
  cases gk with
  | zero => exact absurd HA.out (by simp [laws_eqIntS.l0])
  | succ k1 =>
   have H := HA.out
   clear HA
   simp only [laws_eqIntS.l0] at H
   revert H; refine icd (fun c4b0 H => ?_) fun c4b0 H => ?neg
   case neg =>
    obtain rfl := oin H
    go_wp2
    repeat (go_quiet (fail); try go_wp2)
    go_ret
    exact ⟨rsd, by repeat (first | exact Drawn0.refl _ | apply Drawn0.step)⟩
   obtain ⟨c5b0, H⟩ := itd H
   obtain ⟨c6b0, H⟩ := itd H
   by_cases c7 : (rd l0 x5_1) = (rd l1 x5_1)
   case neg =>
    rw [if_neg c7] at H
    have c7b0 : ((rd l0 x5_1) == (rd l1 x5_1)) = false := beq_eq_false_iff_ne.mpr c7
    have c7b1 : ((rd l0 x5_1) != (rd l1 x5_1)) = true := bne_iff_ne.mpr c7
    obtain rfl := oin H
    have p514 : 0 ≤ (x5_1 : Int) := od
    have q514 : x5_1 < (l0.length : Int) := od
    obtain ⟨ad514, e514, hx514_0⟩ := Kd.at_int HR0.out x5_1 p514 q514
    cases e514
    replace p514 := eq_true p514
    replace q514 := eq_true q514
    have p515 : 0 ≤ (x5_1 : Int) := od
    have q515 : x5_1 < (l1.length : Int) := od
    obtain ⟨ad515, e515, hx515_0⟩ := Kd.at_int HR1.out x5_1 p515 q515
    cases e515
    replace p515 := eq_true p515
    replace q515 := eq_true q515
    go_wp2
    repeat (go_quiet (fail); try go_wp2)
    go_ret
    exact ⟨rsd, by repeat (first | exact Drawn0.refl _ | apply Drawn0.step)⟩
   rw [if_pos c7] at H
   have c7b0 : ((rd l0 x5_1) == (rd l1 x5_1)) = true := beq_iff_eq.mpr c7
   have c7b1 : ((rd l0 x5_1) != (rd l1 x5_1)) = false := bne_eq_false_iff_eq.mpr c7
   clear c7
   have H' := Aside0.mk H
   clear H
   have p514 : 0 ≤ (x5_1 : Int) := od
   have q514 : x5_1 < (l0.length : Int) := od
   obtain ⟨ad514, e514, hx514_0⟩ := Kd.at_int HR0.out x5_1 p514 q514
   cases e514
   replace p514 := eq_true p514
   replace q514 := eq_true q514
   have p515 : 0 ≤ (x5_1 : Int) := od
   have q515 : x5_1 < (l1.length : Int) := od
   obtain ⟨ad515, e515, hx515_0⟩ := Kd.at_int HR1.out x5_1 p515 q515
   cases e515
   replace p515 := eq_true p515
   replace q515 := eq_true q515
   go_wp2
   repeat (go_quiet (fail); try go_wp2)
   go_roundg k1
   case measure => have := HK1.out; omega
   case rel => exact ⟨(wrap64 (x5_1 + 1)), rsd, H', ⟨by have := HK1.out; omega⟩, by repeat (first | exact Drawn0.refl _ | apply Drawn0.step)⟩
def laws_eqWord.f (a0_0 : Int) (a0_1 : Int) (a0_2 : Int) (a1_0 : Int) (a1_1 : Int) (a1_2 : Int) : Option (Bool) := if a0_0 = a1_0 then (if a0_1 = a1_1 then (if a0_2 = a1_2 then (some true) else (some false)) else (some false)) else (some false)
set_option maxHeartbeats 8000000 in
set_option maxRecDepth 100000 in
theorem laws_eqWord.calls (a0_0 : Int) (a0_1 : Int) (a0_2 : Int) (a1_0 : Int) (a1_1 : Int) (a1_2 : Int) (r : Bool) (w : World) (h : laws_eqWord.f a0_0 a0_1 a0_2 a1_0 a1_1 a1_2 = some r) :
  Calls Tryz.prog 182 #[.agg #[.int .i64 a0_0, .int .i64 a0_1, .int .i64 a0_2], .agg #[.int .i64 a1_0, .int .i64 a1_1, .int .i64 a1_2]] w fun e w' => e = .returned (.bool r) ∧ Below w.heap.size w w' := by
 have hu39 := Tryz.underlying39
 have HB := Aside0.mk (Below.refl w.heap.size w)
 have H := h
 clear h
 unfold laws_eqWord.f at H
 by_cases c3 : a0_0 = a1_0
 case neg =>
  rw [if_neg c3] at H
  have c3b0 : (a0_0 == a1_0) = false := beq_eq_false_iff_ne.mpr c3
  have c3b1 : (a0_0 != a1_0) = true := bne_iff_ne.mpr c3
  obtain rfl := oin H
  go_enter Tryz.func182, Tryz.ntmps182
  go_wp2_with (first | ((with_reducible refine gq 2 rfl ?_); refine bx0 HB (N := 2) (t := 39) ?_; clear HB; intro gb509 w21 BK509 GE509 HB) | ((with_reducible refine gq 3 rfl ?_); refine bx1 HB BK509 (N := 3) (t := 39) ?_; clear HB BK509; intro gb510 w22 BK510 GE510 HB NB509_510 NB510_509 BK509; have hnb23 := NB509_510.out; have hnc23 := NB510_509.out; have hz24 := cs3_ BK509; have hz25 := cs3_ BK510))
  go_ret
  exact ⟨er, tb HB⟩
 
 
 rw [if_pos c3] at H
 have c3b0 : (a0_0 == a1_0) = true := beq_iff_eq.mpr c3
 have c3b1 : (a0_0 != a1_0) = false := bne_eq_false_iff_eq.mpr c3
 clear c3
 by_cases c4 : a0_1 = a1_1
 case neg =>
  rw [if_neg c4] at H
  have c4b0 : (a0_1 == a1_1) = false := beq_eq_false_iff_ne.mpr c4
  have c4b1 : (a0_1 != a1_1) = true := bne_iff_ne.mpr c4
  obtain rfl := oin H
  go_enter Tryz.func182, Tryz.ntmps182
  go_wp2_with (first | ((with_reducible refine gq 2 rfl ?_); refine bx0 HB (N := 2) (t := 39) ?_; clear HB; intro gb509 w16 BK509 GE509 HB) | ((with_reducible refine gq 3 rfl ?_); refine bx1 HB BK509 (N := 3) (t := 39) ?_; clear HB BK509; intro gb510 w17 BK510 GE510 HB NB509_510 NB510_509 BK509; have hnb18 := NB509_510.out; have hnc18 := NB510_509.out; have hz19 := cs3_ BK509; have hz20 := cs3_ BK510))
  go_ret
  exact ⟨er, tb HB⟩
 rw [if_pos c4] at H
 have c4b0 : (a0_1 == a1_1) = true := beq_iff_eq.mpr c4
 have c4b1 : (a0_1 != a1_1) = false := bne_eq_false_iff_eq.mpr c4
 clear c4
 by_cases c5 : a0_2 = a1_2
 case neg =>
  rw [if_neg c5] at H
  have c5b0 : (a0_2 == a1_2) = false := beq_eq_false_iff_ne.mpr c5
  have c5b1 : (a0_2 != a1_2) = true := bne_iff_ne.mpr c5
  obtain rfl := oin H
  go_enter Tryz.func182, Tryz.ntmps182
  go_wp2_with (first | ((with_reducible refine gq 2 rfl ?_); refine bx0 HB (N := 2) (t := 39) ?_; clear HB; intro gb509 w11 BK509 GE509 HB) | ((with_reducible refine gq 3 rfl ?_); refine bx1 HB BK509 (N := 3) (t := 39) ?_; clear HB BK509; intro gb510 w12 BK510 GE510 HB NB509_510 NB510_509 BK509; have hnb13 := NB509_510.out; have hnc13 := NB510_509.out; have hz14 := cs3_ BK509; have hz15 := cs3_ BK510))
  go_ret
  exact ⟨er, tb HB⟩
 rw [if_pos c5] at H
 have c5b0 : (a0_2 == a1_2) = true := beq_iff_eq.mpr c5
 have c5b1 : (a0_2 != a1_2) = false := bne_eq_false_iff_eq.mpr c5
 clear c5
 obtain rfl := oin H
 go_enter Tryz.func182, Tryz.ntmps182
 go_wp2_with (first | ((with_reducible refine gq 2 rfl ?_); refine bx0 HB (N := 2) (t := 39) ?_; clear HB; intro gb509 w6 BK509 GE509 HB) | ((with_reducible refine gq 3 rfl ?_); refine bx1 HB BK509 (N := 3) (t := 39) ?_; clear HB BK509; intro gb510 w7 BK510 GE510 HB NB509_510 NB510_509 BK509; have hnb8 := NB509_510.out; have hnc8 := NB510_509.out; have hz9 := cs3_ BK509; have hz10 := cs3_ BK510))
 go_ret
 exact ⟨er, tb HB⟩
def laws_eqEntry.f (a0_0 : Int) (a0_1 : Int) (a0_2 : Int) (a1_0 : Int) (a1_1 : Int) (a1_2 : Int) : Option (Bool) := if a0_0 = a1_0 then (if a0_1 = a1_1 then (if a0_2 = a1_2 then (some true) else (some false)) else (some false)) else (some false)
set_option maxHeartbeats 8000000 in
set_option maxRecDepth 100000 in
theorem laws_eqEntry.calls (a0_0 : Int) (a0_1 : Int) (a0_2 : Int) (a1_0 : Int) (a1_1 : Int) (a1_2 : Int) (r : Bool) (w : World) (h : laws_eqEntry.f a0_0 a0_1 a0_2 a1_0 a1_1 a1_2 = some r) :
  Calls Tryz.prog 202 #[.agg #[.int .i64 a0_0, .int .i64 a0_1, .int .i64 a0_2], .agg #[.int .i64 a1_0, .int .i64 a1_1, .int .i64 a1_2]] w fun e w' => e = .returned (.bool r) ∧ Below w.heap.size w w' := by
 have hu37 := Tryz.underlying37
 have HB := Aside0.mk (Below.refl w.heap.size w)
 have H := h
 clear h
 unfold laws_eqEntry.f at H
 by_cases c3 : a0_0 = a1_0
 case neg =>
  rw [if_neg c3] at H
  have c3b0 : (a0_0 == a1_0) = false := beq_eq_false_iff_ne.mpr c3
  have c3b1 : (a0_0 != a1_0) = true := bne_iff_ne.mpr c3
  obtain rfl := oin H
  go_enter Tryz.func202, Tryz.ntmps202
  go_wp2_with (first | ((with_reducible refine gq 2 rfl ?_); refine bx0 HB (N := 2) (t := 37) ?_; clear HB; intro gb519 w21 BK519 GE519 HB) | ((with_reducible refine gq 3 rfl ?_); refine bx1 HB BK519 (N := 3) (t := 37) ?_; clear HB BK519; intro gb520 w22 BK520 GE520 HB NB519_520 NB520_519 BK519; have hnb23 := NB519_520.out; have hnc23 := NB520_519.out; have hz24 := cs3_ BK519; have hz25 := cs3_ BK520))
  go_ret
  exact ⟨er, tb HB⟩
 
 
 rw [if_pos c3] at H
 have c3b0 : (a0_0 == a1_0) = true := beq_iff_eq.mpr c3
 have c3b1 : (a0_0 != a1_0) = false := bne_eq_false_iff_eq.mpr c3
 clear c3
 by_cases c4 : a0_1 = a1_1
 case neg =>
  rw [if_neg c4] at H
  have c4b0 : (a0_1 == a1_1) = false := beq_eq_false_iff_ne.mpr c4
  have c4b1 : (a0_1 != a1_1) = true := bne_iff_ne.mpr c4
  obtain rfl := oin H
  go_enter Tryz.func202, Tryz.ntmps202
  go_wp2_with (first | ((with_reducible refine gq 2 rfl ?_); refine bx0 HB (N := 2) (t := 37) ?_; clear HB; intro gb519 w16 BK519 GE519 HB) | ((with_reducible refine gq 3 rfl ?_); refine bx1 HB BK519 (N := 3) (t := 37) ?_; clear HB BK519; intro gb520 w17 BK520 GE520 HB NB519_520 NB520_519 BK519; have hnb18 := NB519_520.out; have hnc18 := NB520_519.out; have hz19 := cs3_ BK519; have hz20 := cs3_ BK520))
  go_ret
  exact ⟨er, tb HB⟩
 rw [if_pos c4] at H
 have c4b0 : (a0_1 == a1_1) = true := beq_iff_eq.mpr c4
 have c4b1 : (a0_1 != a1_1) = false := bne_eq_false_iff_eq.mpr c4
 clear c4
 by_cases c5 : a0_2 = a1_2
 case neg =>
  rw [if_neg c5] at H
  have c5b0 : (a0_2 == a1_2) = false := beq_eq_false_iff_ne.mpr c5
  have c5b1 : (a0_2 != a1_2) = true := bne_iff_ne.mpr c5
  obtain rfl := oin H
  go_enter Tryz.func202, Tryz.ntmps202
  go_wp2_with (first | ((with_reducible refine gq 2 rfl ?_); refine bx0 HB (N := 2) (t := 37) ?_; clear HB; intro gb519 w11 BK519 GE519 HB) | ((with_reducible refine gq 3 rfl ?_); refine bx1 HB BK519 (N := 3) (t := 37) ?_; clear HB BK519; intro gb520 w12 BK520 GE520 HB NB519_520 NB520_519 BK519; have hnb13 := NB519_520.out; have hnc13 := NB520_519.out; have hz14 := cs3_ BK519; have hz15 := cs3_ BK520))
  go_ret
  exact ⟨er, tb HB⟩
 rw [if_pos c5] at H
 have c5b0 : (a0_2 == a1_2) = true := beq_iff_eq.mpr c5
 have c5b1 : (a0_2 != a1_2) = false := bne_eq_false_iff_eq.mpr c5
 clear c5
 obtain rfl := oin H
 go_enter Tryz.func202, Tryz.ntmps202
 go_wp2_with (first | ((with_reducible refine gq 2 rfl ?_); refine bx0 HB (N := 2) (t := 37) ?_; clear HB; intro gb519 w6 BK519 GE519 HB) | ((with_reducible refine gq 3 rfl ?_); refine bx1 HB BK519 (N := 3) (t := 37) ?_; clear HB BK519; intro gb520 w7 BK520 GE520 HB NB519_520 NB520_519 BK519; have hnb8 := NB519_520.out; have hnc8 := NB520_519.out; have hz9 := cs3_ BK519; have hz10 := cs3_ BK520))
 go_ret
 exact ⟨er, tb HB⟩
def laws_eqOp.f (a0_0 : Int) (a0_1 : Int) (a0_2 : Int) (a1_0 : Int) (a1_1 : Int) (a1_2 : Int) : Option (Bool) := if a0_0 = a1_0 then (if a0_1 = a1_1 then (if a0_2 = a1_2 then (some true) else (some false)) else (some false)) else (some false)
set_option maxHeartbeats 8000000 in
set_option maxRecDepth 100000 in
theorem laws_eqOp.calls (a0_0 : Int) (a0_1 : Int) (a0_2 : Int) (a1_0 : Int) (a1_1 : Int) (a1_2 : Int) (r : Bool) (w : World) (h : laws_eqOp.f a0_0 a0_1 a0_2 a1_0 a1_1 a1_2 = some r) :
  Calls Tryz.prog 187 #[.agg #[.int .i64 a0_0, .int .i64 a0_1, .int .i64 a0_2], .agg #[.int .i64 a1_0, .int .i64 a1_1, .int .i64 a1_2]] w fun e w' => e = .returned (.bool r) ∧ Below w.heap.size w w' := by
 have hu132 := Tryz.underlying132
 have HB := Aside0.mk (Below.refl w.heap.size w)
 have H := h
 clear h
 unfold laws_eqOp.f at H
 by_cases c3 : a0_0 = a1_0
 case neg =>
  rw [if_neg c3] at H
  have c3b0 : (a0_0 == a1_0) = false := beq_eq_false_iff_ne.mpr c3
  have c3b1 : (a0_0 != a1_0) = true := bne_iff_ne.mpr c3
  obtain rfl := oin H
  go_enter Tryz.func187, Tryz.ntmps187
  go_wp2_with (first | ((with_reducible refine gq 2 rfl ?_); refine bx0 HB (N := 2) (t := 132) ?_; clear HB; intro gb535 w21 BK535 GE535 HB) | ((with_reducible refine gq 3 rfl ?_); refine bx1 HB BK535 (N := 3) (t := 132) ?_; clear HB BK535; intro gb536 w22 BK536 GE536 HB NB535_536 NB536_535 BK535; have hnb23 := NB535_536.out; have hnc23 := NB536_535.out; have hz24 := cs3_ BK535; have hz25 := cs3_ BK536))
  go_ret
  exact ⟨er, tb HB⟩
 
 
 rw [if_pos c3] at H
 have c3b0 : (a0_0 == a1_0) = true := beq_iff_eq.mpr c3
 have c3b1 : (a0_0 != a1_0) = false := bne_eq_false_iff_eq.mpr c3
 clear c3
 by_cases c4 : a0_1 = a1_1
 case neg =>
  rw [if_neg c4] at H
  have c4b0 : (a0_1 == a1_1) = false := beq_eq_false_iff_ne.mpr c4
  have c4b1 : (a0_1 != a1_1) = true := bne_iff_ne.mpr c4
  obtain rfl := oin H
  go_enter Tryz.func187, Tryz.ntmps187
  go_wp2_with (first | ((with_reducible refine gq 2 rfl ?_); refine bx0 HB (N := 2) (t := 132) ?_; clear HB; intro gb535 w16 BK535 GE535 HB) | ((with_reducible refine gq 3 rfl ?_); refine bx1 HB BK535 (N := 3) (t := 132) ?_; clear HB BK535; intro gb536 w17 BK536 GE536 HB NB535_536 NB536_535 BK535; have hnb18 := NB535_536.out; have hnc18 := NB536_535.out; have hz19 := cs3_ BK535; have hz20 := cs3_ BK536))
  go_ret
  exact ⟨er, tb HB⟩
 rw [if_pos c4] at H
 have c4b0 : (a0_1 == a1_1) = true := beq_iff_eq.mpr c4
 have c4b1 : (a0_1 != a1_1) = false := bne_eq_false_iff_eq.mpr c4
 clear c4
 by_cases c5 : a0_2 = a1_2
 case neg =>
  rw [if_neg c5] at H
  have c5b0 : (a0_2 == a1_2) = false := beq_eq_false_iff_ne.mpr c5
  have c5b1 : (a0_2 != a1_2) = true := bne_iff_ne.mpr c5
  obtain rfl := oin H
  go_enter Tryz.func187, Tryz.ntmps187
  go_wp2_with (first | ((with_reducible refine gq 2 rfl ?_); refine bx0 HB (N := 2) (t := 132) ?_; clear HB; intro gb535 w11 BK535 GE535 HB) | ((with_reducible refine gq 3 rfl ?_); refine bx1 HB BK535 (N := 3) (t := 132) ?_; clear HB BK535; intro gb536 w12 BK536 GE536 HB NB535_536 NB536_535 BK535; have hnb13 := NB535_536.out; have hnc13 := NB536_535.out; have hz14 := cs3_ BK535; have hz15 := cs3_ BK536))
  go_ret
  exact ⟨er, tb HB⟩
 rw [if_pos c5] at H
 have c5b0 : (a0_2 == a1_2) = true := beq_iff_eq.mpr c5
 have c5b1 : (a0_2 != a1_2) = false := bne_eq_false_iff_eq.mpr c5
 clear c5
 obtain rfl := oin H
 go_enter Tryz.func187, Tryz.ntmps187
 go_wp2_with (first | ((with_reducible refine gq 2 rfl ?_); refine bx0 HB (N := 2) (t := 132) ?_; clear HB; intro gb535 w6 BK535 GE535 HB) | ((with_reducible refine gq 3 rfl ?_); refine bx1 HB BK535 (N := 3) (t := 132) ?_; clear HB BK535; intro gb536 w7 BK536 GE536 HB NB535_536 NB536_535 BK535; have hnb8 := NB535_536.out; have hnc8 := NB536_535.out; have hz9 := cs3_ BK535; have hz10 := cs3_ BK536))
 go_ret
 exact ⟨er, tb HB⟩
def laws_eqPair.f (a0_0 : Int) (a0_1 : Int) (a1_0 : Int) (a1_1 : Int) : Option (Bool) := if a0_0 = a1_0 then (if a0_1 = a1_1 then (some true) else (some false)) else (some false)
set_option maxHeartbeats 8000000 in
set_option maxRecDepth 100000 in
theorem laws_eqPair.calls (a0_0 : Int) (a0_1 : Int) (a1_0 : Int) (a1_1 : Int) (r : Bool) (w : World) (h : laws_eqPair.f a0_0 a0_1 a1_0 a1_1 = some r) :
  Calls Tryz.prog 195 #[.agg #[.int .i64 a0_0, .int .i64 a0_1], .agg #[.int .i64 a1_0, .int .i64 a1_1]] w fun e w' => e = .returned (.bool r) ∧ Below w.heap.size w w' := by
 have hu145 := Tryz.underlying145
 have HB := Aside0.mk (Below.refl w.heap.size w)
 have H := h
 clear h
 unfold laws_eqPair.f at H
 by_cases c3 : a0_0 = a1_0
 case neg =>
  rw [if_neg c3] at H
  have c3b0 : (a0_0 == a1_0) = false := beq_eq_false_iff_ne.mpr c3
  have c3b1 : (a0_0 != a1_0) = true := bne_iff_ne.mpr c3
  obtain rfl := oin H
  go_enter Tryz.func195, Tryz.ntmps195
  go_wp2_with (first | ((with_reducible refine gq 2 rfl ?_); refine bx0 HB (N := 2) (t := 145) ?_; clear HB; intro gb540 w15 BK540 GE540 HB) | ((with_reducible refine gq 3 rfl ?_); refine bx1 HB BK540 (N := 3) (t := 145) ?_; clear HB BK540; intro gb541 w16 BK541 GE541 HB NB540_541 NB541_540 BK540; have hnb17 := NB540_541.out; have hnc17 := NB541_540.out; have hz18 := cs2_ BK540; have hz19 := cs2_ BK541))
  go_ret
  exact ⟨er, tb HB⟩
 
 
 rw [if_pos c3] at H
 have c3b0 : (a0_0 == a1_0) = true := beq_iff_eq.mpr c3
 have c3b1 : (a0_0 != a1_0) = false := bne_eq_false_iff_eq.mpr c3
 clear c3
 by_cases c4 : a0_1 = a1_1
 case neg =>
  rw [if_neg c4] at H
  have c4b0 : (a0_1 == a1_1) = false := beq_eq_false_iff_ne.mpr c4
  have c4b1 : (a0_1 != a1_1) = true := bne_iff_ne.mpr c4
  obtain rfl := oin H
  go_enter Tryz.func195, Tryz.ntmps195
  go_wp2_with (first | ((with_reducible refine gq 2 rfl ?_); refine bx0 HB (N := 2) (t := 145) ?_; clear HB; intro gb540 w10 BK540 GE540 HB) | ((with_reducible refine gq 3 rfl ?_); refine bx1 HB BK540 (N := 3) (t := 145) ?_; clear HB BK540; intro gb541 w11 BK541 GE541 HB NB540_541 NB541_540 BK540; have hnb12 := NB540_541.out; have hnc12 := NB541_540.out; have hz13 := cs2_ BK540; have hz14 := cs2_ BK541))
  go_ret
  exact ⟨er, tb HB⟩
 rw [if_pos c4] at H
 have c4b0 : (a0_1 == a1_1) = true := beq_iff_eq.mpr c4
 have c4b1 : (a0_1 != a1_1) = false := bne_eq_false_iff_eq.mpr c4
 clear c4
 obtain rfl := oin H
 go_enter Tryz.func195, Tryz.ntmps195
 go_wp2_with (first | ((with_reducible refine gq 2 rfl ?_); refine bx0 HB (N := 2) (t := 145) ?_; clear HB; intro gb540 w5 BK540 GE540 HB) | ((with_reducible refine gq 3 rfl ?_); refine bx1 HB BK540 (N := 3) (t := 145) ?_; clear HB BK540; intro gb541 w6 BK541 GE541 HB NB540_541 NB541_540 BK540; have hnb7 := NB540_541.out; have hnc7 := NB541_540.out; have hz8 := cs2_ BK540; have hz9 := cs2_ BK541))
 go_ret
 exact ⟨er, tb HB⟩
def laws_eqHelp.f (a0_0 : Int) (a0_1 : Int) (a0_2 : Int) (a0_3 : Int) (a1_0 : Int) (a1_1 : Int) (a1_2 : Int) (a1_3 : Int) : Option (Bool) := if a0_0 = a1_0 then (if a0_1 = a1_1 then (if a0_2 = a1_2 then (if a0_3 = a1_3 then (some true) else (some false)) else (some false)) else (some false)) else (some false)
set_option maxHeartbeats 8000000 in
set_option maxRecDepth 100000 in
theorem laws_eqHelp.calls (a0_0 : Int) (a0_1 : Int) (a0_2 : Int) (a0_3 : Int) (a1_0 : Int) (a1_1 : Int) (a1_2 : Int) (a1_3 : Int) (r : Bool) (w : World) (h : laws_eqHelp.f a0_0 a0_1 a0_2 a0_3 a1_0 a1_1 a1_2 a1_3 = some r) :
  Calls Tryz.prog 196 #[.agg #[.int .i64 a0_0, .int .i64 a0_1, .int .i64 a0_2, .int .i64 a0_3], .agg #[.int .i64 a1_0, .int .i64 a1_1, .int .i64 a1_2, .int .i64 a1_3]] w fun e w' => e = .returned (.bool r) ∧ Below w.heap.size w w' := by
 have hu42 := Tryz.underlying42
 have HB := Aside0.mk (Below.refl w.heap.size w)
 have H := h
 clear h
 unfold laws_eqHelp.f at H
 by_cases c3 : a0_0 = a1_0
 case neg =>
  rw [if_neg c3] at H
  have c3b0 : (a0_0 == a1_0) = false := beq_eq_false_iff_ne.mpr c3
  have c3b1 : (a0_0 != a1_0) = true := bne_iff_ne.mpr c3
  obtain rfl := oin H
  go_enter Tryz.func196, Tryz.ntmps196
  go_wp2_with (first | ((with_reducible refine gq 2 rfl ?_); refine bx0 HB (N := 2) (t := 42) ?_; clear HB; intro gb545 w27 BK545 GE545 HB) | ((with_reducible refine gq 3 rfl ?_); refine bx1 HB BK545 (N := 3) (t := 42) ?_; clear HB BK545; intro gb546 w28 BK546 GE546 HB NB545_546 NB546_545 BK545; have hnb29 := NB545_546.out; have hnc29 := NB546_545.out; have hz30 := cs4_ BK545; have hz31 := cs4_ BK546))
  go_ret
  exact ⟨er, tb HB⟩
 
 
 rw [if_pos c3] at H
 have c3b0 : (a0_0 == a1_0) = true := beq_iff_eq.mpr c3
 have c3b1 : (a0_0 != a1_0) = false := bne_eq_false_iff_eq.mpr c3
 clear c3
 by_cases c4 : a0_1 = a1_1
 case neg =>
  rw [if_neg c4] at H
  have c4b0 : (a0_1 == a1_1) = false := beq_eq_false_iff_ne.mpr c4
  have c4b1 : (a0_1 != a1_1) = true := bne_iff_ne.mpr c4
  obtain rfl := oin H
  go_enter Tryz.func196, Tryz.ntmps196
  go_wp2_with (first | ((with_reducible refine gq 2 rfl ?_); refine bx0 HB (N := 2) (t := 42) ?_; clear HB; intro gb545 w22 BK545 GE545 HB) | ((with_reducible refine gq 3 rfl ?_); refine bx1 HB BK545 (N := 3) (t := 42) ?_; clear HB BK545; intro gb546 w23 BK546 GE546 HB NB545_546 NB546_545 BK545; have hnb24 := NB545_546.out; have hnc24 := NB546_545.out; have hz25 := cs4_ BK545; have hz26 := cs4_ BK546))
  go_ret
  exact ⟨er, tb HB⟩
 rw [if_pos c4] at H
 have c4b0 : (a0_1 == a1_1) = true := beq_iff_eq.mpr c4
 have c4b1 : (a0_1 != a1_1) = false := bne_eq_false_iff_eq.mpr c4
 clear c4
 by_cases c5 : a0_2 = a1_2
 case neg =>
  rw [if_neg c5] at H
  have c5b0 : (a0_2 == a1_2) = false := beq_eq_false_iff_ne.mpr c5
  have c5b1 : (a0_2 != a1_2) = true := bne_iff_ne.mpr c5
  obtain rfl := oin H
  go_enter Tryz.func196, Tryz.ntmps196
  go_wp2_with (first | ((with_reducible refine gq 2 rfl ?_); refine bx0 HB (N := 2) (t := 42) ?_; clear HB; intro gb545 w17 BK545 GE545 HB) | ((with_reducible refine gq 3 rfl ?_); refine bx1 HB BK545 (N := 3) (t := 42) ?_; clear HB BK545; intro gb546 w18 BK546 GE546 HB NB545_546 NB546_545 BK545; have hnb19 := NB545_546.out; have hnc19 := NB546_545.out; have hz20 := cs4_ BK545; have hz21 := cs4_ BK546))
  go_ret
  exact ⟨er, tb HB⟩
 rw [if_pos c5] at H
 have c5b0 : (a0_2 == a1_2) = true := beq_iff_eq.mpr c5
 have c5b1 : (a0_2 != a1_2) = false := bne_eq_false_iff_eq.mpr c5
 clear c5
 by_cases c6 : a0_3 = a1_3
 case neg =>
  rw [if_neg c6] at H
  have c6b0 : (a0_3 == a1_3) = false := beq_eq_false_iff_ne.mpr c6
  have c6b1 : (a0_3 != a1_3) = true := bne_iff_ne.mpr c6
  obtain rfl := oin H
  go_enter Tryz.func196, Tryz.ntmps196
  go_wp2_with (first | ((with_reducible refine gq 2 rfl ?_); refine bx0 HB (N := 2) (t := 42) ?_; clear HB; intro gb545 w12 BK545 GE545 HB) | ((with_reducible refine gq 3 rfl ?_); refine bx1 HB BK545 (N := 3) (t := 42) ?_; clear HB BK545; intro gb546 w13 BK546 GE546 HB NB545_546 NB546_545 BK545; have hnb14 := NB545_546.out; have hnc14 := NB546_545.out; have hz15 := cs4_ BK545; have hz16 := cs4_ BK546))
  go_ret
  exact ⟨er, tb HB⟩
 rw [if_pos c6] at H
 have c6b0 : (a0_3 == a1_3) = true := beq_iff_eq.mpr c6
 have c6b1 : (a0_3 != a1_3) = false := bne_eq_false_iff_eq.mpr c6
 clear c6
 obtain rfl := oin H
 go_enter Tryz.func196, Tryz.ntmps196
 go_wp2_with (first | ((with_reducible refine gq 2 rfl ?_); refine bx0 HB (N := 2) (t := 42) ?_; clear HB; intro gb545 w7 BK545 GE545 HB) | ((with_reducible refine gq 3 rfl ?_); refine bx1 HB BK545 (N := 3) (t := 42) ?_; clear HB BK545; intro gb546 w8 BK546 GE546 HB NB545_546 NB546_545 BK545; have hnb9 := NB545_546.out; have hnc9 := NB546_545.out; have hz10 := cs4_ BK545; have hz11 := cs4_ BK546))
 go_ret
 exact ⟨er, tb HB⟩
def spec_l1In.f (a0 : Int) (a1 : Int) (a2 : Int) : Option (Bool) := if a0 ≥ a1 then (some (decide (a0 ≤ a2))) else (some false)
set_option maxHeartbeats 8000000 in
set_option maxRecDepth 100000 in
theorem spec_l1In.calls (a0 : Int) (a1 : Int) (a2 : Int) (r : Bool) (w : World) (h : spec_l1In.f a0 a1 a2 = some r) :
  Calls Tryz.prog 70 #[.int .i64 a0, .int .i64 a1, .int .i64 a2] w fun e w' => e = .returned (.bool r) ∧ Drawn0 w w' := by
 have H := h
 clear h
 unfold spec_l1In.f at H
 revert H; refine icd (fun c4b0 H => ?pos) fun c4b0 H => ?_
 case pos =>
  obtain rfl := oin H
  go_enter Tryz.func70, Tryz.ntmps70
  go_wp2
  go_ret
  exact ⟨rsd, by repeat (first | exact Drawn0.refl _ | apply Drawn0.step)⟩
 obtain rfl := oin H
 go_enter Tryz.func70, Tryz.ntmps70
 go_wp2
 go_ret
 exact ⟨rsd, by repeat (first | exact Drawn0.refl _ | apply Drawn0.step)⟩
def spec_l4Val.f (a0 : Int) : Option (Bool) := if a0 = 1 then (some true) else (if a0 = 2 then (some true) else (if a0 = 5 then (some true) else (some (a0 == 10))))
set_option maxHeartbeats 8000000 in
set_option maxRecDepth 100000 in
theorem spec_l4Val.calls (a0 : Int) (r : Bool) (w : World) (h : spec_l4Val.f a0 = some r) :
  Calls Tryz.prog 166 #[.int .i64 a0] w fun e w' => e = .returned (.bool r) ∧ Drawn0 w w' := by
 have H := h
 clear h
 unfold spec_l4Val.f at H
 by_cases c2 : a0 = 1
 case pos =>
  rw [if_pos c2] at H
  have c2b0 : (a0 == 1) = true := beq_iff_eq.mpr c2
  have c2b1 : (a0 != 1) = false := bne_eq_false_iff_eq.mpr c2
  clear c2
  obtain rfl := oin H
  go_enter Tryz.func166, Tryz.ntmps166
  go_wp2
  go_ret
  exact ⟨rsd, by repeat (first | exact Drawn0.refl _ | apply Drawn0.step)⟩
 rw [if_neg c2] at H
 have c2b0 : (a0 == 1) = false := beq_eq_false_iff_ne.mpr c2
 have c2b1 : (a0 != 1) = true := bne_iff_ne.mpr c2
 by_cases c3 : a0 = 2
 case pos =>
  rw [if_pos c3] at H
  have c3b0 : (a0 == 2) = true := beq_iff_eq.mpr c3
  have c3b1 : (a0 != 2) = false := bne_eq_false_iff_eq.mpr c3
  clear c3
  obtain rfl := oin H
  go_enter Tryz.func166, Tryz.ntmps166
  go_wp2
  go_ret
  exact ⟨rsd, by repeat (first | exact Drawn0.refl _ | apply Drawn0.step)⟩
 rw [if_neg c3] at H
 have c3b0 : (a0 == 2) = false := beq_eq_false_iff_ne.mpr c3
 have c3b1 : (a0 != 2) = true := bne_iff_ne.mpr c3
 by_cases c4 : a0 = 5
 case pos =>
  rw [if_pos c4] at H
  have c4b0 : (a0 == 5) = true := beq_iff_eq.mpr c4
  have c4b1 : (a0 != 5) = false := bne_eq_false_iff_eq.mpr c4
  clear c4
  obtain rfl := oin H
  go_enter Tryz.func166, Tryz.ntmps166
  go_wp2
  go_ret
  exact ⟨rsd, by repeat (first | exact Drawn0.refl _ | apply Drawn0.step)⟩
 rw [if_neg c4] at H
 have c4b0 : (a0 == 5) = false := beq_eq_false_iff_ne.mpr c4
 have c4b1 : (a0 != 5) = true := bne_iff_ne.mpr c4
 obtain rfl := oin H
 go_enter Tryz.func166, Tryz.ntmps166
 go_wp2
 go_ret
 exact ⟨rsd, by repeat (first | exact Drawn0.refl _ | apply Drawn0.step)⟩
def spec_Entries.l0 : Nat → Int → Int → Int → Int → List (S37) → Int → List Int → Option (Int × Int × Int × Bool)
 | 0, _, _, _, _, _, _, _ => none
 | k + 1, x1, x6, x166000, x166001, x166002, x166003, x166004 => if x6 < (x166002.length : Int) then (if 0 ≤ x6 then (if ((rd_T37 x166002 x6).f0) = x1 then (some ((rd_T37 x166002 x6).f0, (rd_T37 x166002 x6).f1, (rd_T37 x166002 x6).f2, true)) else (spec_Entries.l0 k x1 (wrap64 (x6 + 1)) x166000 x166001 x166002 x166003 x166004)) else (none)) else (some (0, 0, 0, false))
def spec_Entries.f (k : Nat) (a0_0 : Int) (a0_1 : Int) (l0_2 : List (S37)) (a0_3 : Int) (l0_4 : List Int) (a1 : Int) : Option (Int × Int × Int × Bool) := spec_Entries.l0 k a1 0 a0_0 a0_1 l0_2 a0_3 l0_4
set_option maxHeartbeats 8000000 in
set_option maxRecDepth 100000 in
theorem spec_Entries.calls (k : Nat) (a0_0 : Int) (a0_1 : Int) (A0_2 : Option Addr) (c0_2 : Nat) (l0_2 : List (S37)) (a0_3 : Int) (A0_4 : Option Addr) (c0_4 : Nat) (l0_4 : List Int) (a1 : Int) (r1 : Int) (r2 : Int) (r3 : Int) (r4 : Bool) (w : World) (hr0_2 : Kd.C k37 w A0_2 l0_2.length l0_2) (hc0_2 : l0_2.length ≤ c0_2) (hr0_4 : Kd.C (Kd.int .i64) w A0_4 l0_4.length l0_4) (hc0_4 : l0_4.length ≤ c0_4) (h : spec_Entries.f k a0_0 a0_1 l0_2 a0_3 l0_4 a1 = some (r1, r2, r3, r4)) :
  Calls Tryz.prog 127 #[.agg #[.int .i64 a0_0, .int .i64 a0_1, .slice A0_2 l0_2.length c0_2, .int .i64 a0_3, .slice A0_4 l0_4.length c0_4], .int .i64 a1] w fun e w' => e = .returned (.tuple #[.agg #[.int .i64 r1, .int .i64 r2, .int .i64 r3], .bool r4]) ∧ Below w.heap.size w w' := by
 have hu52 := Tryz.underlying52
 have hu37 := Tryz.underlying37
 have HR0_2 := Aside0.mk hr0_2
 have HC0_2 := Aside0.mk hc0_2
 clear hr0_2 hc0_2
 have HR0_4 := Aside0.mk hr0_4
 have HC0_4 := Aside0.mk hc0_4
 clear hr0_4 hc0_4
 have HB := Aside0.mk (Below.refl w.heap.size w)
 have H := h
 clear h
 unfold spec_Entries.f at H
 have H' := Aside0.mk H
 clear H
 go_enter Tryz.func127, Tryz.ntmps127
 go_wp2_with (first | ((with_reducible refine gq 2 rfl ?_); refine bx0 HB (N := 2) (t := 52) ?_; clear HB; intro gb165 w3 BK165 GE165 HB) | ((with_reducible refine gq 4 rfl ?_); refine bx1 HB BK165 (N := 4) (cs := #[.int .i64 0, .int .i64 0, .int .i64 0]) (t := 37) ?_; clear HB BK165; intro gb166 w4 BK166 GE166 HB NB165_166 NB166_165 BK165))
 go_loopg [6] k (fun kq v6 w' => ∃ (x6_1 : Int) (x167000_1 : Int) (x167001_1 : Int) (x167002_1 : Int), v6 = .int .i64 x6_1 ∧ Aside0 (spec_Entries.l0 kq a1 x6_1 a0_0 a0_1 l0_2 a0_3 l0_4 = some (r1, r2, r3, r4)) ∧ Aside0 (kq ≤ k) ∧ Aside0 (w'.heap[gb165]? = some (.cells #[.int .i64 a0_0, .int .i64 a0_1, (.slice A0_2 l0_2.length c0_2), .int .i64 a0_3, (.slice A0_4 l0_4.length c0_4)] 52 (0, 0))) ∧ Aside0 (w'.heap[gb166]? = some (.cells #[.int .i64 x167000_1, .int .i64 x167001_1, .int .i64 x167002_1] 37 (0, 0))) ∧ Aside0 (Below w.heap.size w w'))
 case atStart => exact ⟨(0), (0), (0), (0), rsd, H', ⟨Nat.le_refl _⟩, ⟨by (with_reducible repeat (first | refine blk_drewN ?_ _ | refine blk_drew ?_ | refine blk_alloc ?_ _)); exact BK165.out⟩, ⟨by (with_reducible repeat (first | refine blk_drewN ?_ _ | refine blk_drew ?_ | refine blk_alloc ?_ _)); exact BK166.out⟩, ⟨tb HB⟩⟩
 case round =>
  clear H'
  obtain ⟨x6_1, x167000_1, x167001_1, x167002_1, rfl, HA, HK1, BK165, BK166, HB⟩ := hrel
  cases gk with
  | zero => exact absurd HA.out (by simp [spec_Entries.l0])
  | succ k1 =>
   have H := HA.out
   clear HA
   simp only [spec_Entries.l0] at H
   revert H; refine icd (fun c5b0 H => ?_) fun c5b0 H => ?neg
   case neg =>
    simp only [Option.some.injEq, Prod.mk.injEq] at H
    obtain ⟨rfl, rfl, rfl, rfl⟩ := H
    have hnb13 := NB165_166.out
    have hnc13 := NB166_165.out
    have hz14 := cs5_ BK165
    have hz15 := cs3_ BK166
    go_wp2
    refine bodyPost_ret (results_ct rfl _ _ gb166 37 #[.int .i64 0, .int .i64 0, .int .i64 0] (0, 0) _ rfl (bfp3 BK166) Tryz.underlying37 rfl (by kernel_rfl)) rfl ?_
    exact ⟨er, tb HB⟩
   obtain ⟨c6b0, H⟩ := itd H
   by_cases c7 : ((rd_T37 l0_2 x6_1).f0) = a1
   case neg =>
    rw [if_neg c7] at H
    have c7b0 : (((rd_T37 l0_2 x6_1).f0) == a1) = false := beq_eq_false_iff_ne.mpr c7
    have c7b1 : (((rd_T37 l0_2 x6_1).f0) != a1) = true := bne_iff_ne.mpr c7
    have H' := Aside0.mk H
    clear H
    have hnb11 := NB165_166.out
    have hnc11 := NB166_165.out
    have hz12 := cs5_ BK165
    have p167 : 0 ≤ (x6_1 : Int) := od
    have q167 : x6_1 < (l0_2.length : Int) := od
    obtain ⟨ad167, e167, hx167⟩ := att37 HR0_2.out x6_1 p167 q167
    cases e167
    replace hx167 := ox3 HB hx167
    replace p167 := eq_true p167
    replace q167 := eq_true q167
    go_wp2
    go_roundg k1
    case measure => have := HK1.out; omega
    case rel => exact ⟨(wrap64 (x6_1 + 1)), (x167000_1), (x167001_1), (x167002_1), rsd, H', ⟨by have := HK1.out; omega⟩, ⟨by (with_reducible repeat (first | refine blk_drewN ?_ _ | refine blk_drew ?_ | refine blk_alloc ?_ _)); exact BK165.out⟩, ⟨by (with_reducible repeat (first | refine blk_drewN ?_ _ | refine blk_drew ?_ | refine blk_alloc ?_ _)); exact BK166.out⟩, ⟨tb HB⟩⟩
   rw [if_pos c7] at H
   have c7b0 : (((rd_T37 l0_2 x6_1).f0) == a1) = true := beq_iff_eq.mpr c7
   have c7b1 : (((rd_T37 l0_2 x6_1).f0) != a1) = false := bne_eq_false_iff_eq.mpr c7
   clear c7
   simp only [Option.some.injEq, Prod.mk.injEq] at H
   obtain ⟨rfl, rfl, rfl, rfl⟩ := H
   have hnb8 := NB165_166.out
   have hnc8 := NB166_165.out
   have hz9 := cs5_ BK165
   have p167 : 0 ≤ (x6_1 : Int) := od
   have q167 : x6_1 < (l0_2.length : Int) := od
   obtain ⟨ad167, e167, hx167_0, hx167_1, hx167_2⟩ := at_T37 HR0_2.out x6_1 p167 q167
   cases e167
   replace hx167_0 := ox HB hx167_0
   replace hx167_1 := ox HB hx167_1
   replace hx167_2 := ox HB hx167_2
   replace p167 := eq_true p167
   replace q167 := eq_true q167
   have p168 : 0 ≤ (x6_1 : Int) := od
   have q168 : x6_1 < (l0_2.length : Int) := od
   obtain ⟨ad168, e168, hx168_0, hx168_1, hx168_2⟩ := at_T37 HR0_2.out x6_1 p168 q168
   obtain rfl : ad167 = ad168 := (by injection e168)
   replace hx168_0 := ox HB hx168_0
   replace hx168_1 := ox HB hx168_1
   replace hx168_2 := ox HB hx168_2
   replace p168 := eq_true p168
   replace q168 := eq_true q168
   have hz10 := cs3_ BK166
   go_wp2
   refine bodyPost_ret (results_ct rfl _ _ gb166 37 #[.int .i64 ((rd_T37 l0_2 x6_1).f0), .int .i64 ((rd_T37 l0_2 x6_1).f1), .int .i64 ((rd_T37 l0_2 x6_1).f2)] (0, 0) _ rfl (bfp3 BK166) Tryz.underlying37 rfl (by kernel_rfl)) rfl ?_
   exact ⟨er, tb HB⟩
def spec_KeyOf.l0 : Nat → Int → Int → List Int → Int → Option (Int)
 | 0, _, _, _, _ => none
 | k + 1, x1, x5, x184000, x184001 => if x5 < (x184000.length : Int) then (if 0 ≤ x5 then (if (rd x184000 x5) = x1 then (some x5) else (spec_KeyOf.l0 k x1 (wrap64 (x5 + 1)) x184000 x184001)) else (none)) else (some (-1))
def spec_KeyOf.f (k : Nat) (l0_0 : List Int) (a0_1 : Int) (a1 : Int) : Option (Int) := spec_KeyOf.l0 k a1 0 l0_0 a0_1
set_option maxHeartbeats 8000000 in
set_option maxRecDepth 100000 in
theorem spec_KeyOf.calls (k : Nat) (A0_0 : Option Addr) (c0_0 : Nat) (l0_0 : List Int) (a0_1 : Int) (a1 : Int) (r : Int) (w : World) (hr0_0 : Kd.C (Kd.int .i64) w A0_0 l0_0.length l0_0) (hc0_0 : l0_0.length ≤ c0_0) (h : spec_KeyOf.f k l0_0 a0_1 a1 = some r) :
  Calls Tryz.prog 140 #[.agg #[.slice A0_0 l0_0.length c0_0, .int .i64 a0_1], .int .i64 a1] w fun e w' => e = .returned (.int .i64 r) ∧ Below w.heap.size w w' := by
 have hu73 := Tryz.underlying73
 have HR0_0 := Aside0.mk hr0_0
 have HC0_0 := Aside0.mk hc0_0
 clear hr0_0 hc0_0
 have HB := Aside0.mk (Below.refl w.heap.size w)
 have H := h
 clear h
 unfold spec_KeyOf.f at H
 have H' := Aside0.mk H
 clear H
 go_enter Tryz.func140, Tryz.ntmps140
 go_wp2_with (first | ((with_reducible refine gq 2 rfl ?_); refine bx0 HB (N := 2) (t := 73) ?_; clear HB; intro gb183 w3 BK183 GE183 HB))
 go_loopg [5] k (fun kq v5 w' => ∃ (x5_1 : Int), v5 = .int .i64 x5_1 ∧ Aside0 (spec_KeyOf.l0 kq a1 x5_1 l0_0 a0_1 = some r) ∧ Aside0 (kq ≤ k) ∧ Aside0 (w'.heap[gb183]? = some (.cells #[(.slice A0_0 l0_0.length c0_0), .int .i64 a0_1] 73 (0, 0))) ∧ Aside0 (Below w.heap.size w w'))
 case atStart => exact ⟨(0), rsd, H', ⟨Nat.le_refl _⟩, ⟨by (with_reducible repeat (first | refine blk_drewN ?_ _ | refine blk_drew ?_ | refine blk_alloc ?_ _)); exact BK183.out⟩, ⟨tb HB⟩⟩
 case round =>
  clear H'
  obtain ⟨x5_1, rfl, HA, HK1, BK183, HB⟩ := hrel
  cases gk with
  | zero => exact absurd HA.out (by simp [spec_KeyOf.l0])
  | succ k1 =>
   have H := HA.out
   clear HA
   simp only [spec_KeyOf.l0] at H
   revert H; refine icd (fun c4b0 H => ?_) fun c4b0 H => ?neg
   case neg =>
    obtain rfl := oin H
    have hz9 := cs2_ BK183
    go_wp2
    go_ret
    exact ⟨er, tb HB⟩
   obtain ⟨c5b0, H⟩ := itd H
   by_cases c6 : (rd l0_0 x5_1) = a1
   case pos =>
    rw [if_pos c6] at H
    have c6b0 : ((rd l0_0 x5_1) == a1) = true := beq_iff_eq.mpr c6
    have c6b1 : ((rd l0_0 x5_1) != a1) = false := bne_eq_false_iff_eq.mpr c6
    clear c6
    obtain rfl := oin H
    have hz7 := cs2_ BK183
    have p184 : 0 ≤ (x5_1 : Int) := od
    have q184 : x5_1 < (l0_0.length : Int) := od
    obtain ⟨ad184, e184, hx184_0⟩ := Kd.at_int HR0_0.out x5_1 p184 q184
    cases e184
    replace hx184_0 := ox HB hx184_0
    replace p184 := eq_true p184
    replace q184 := eq_true q184
    go_wp2
    go_ret
    exact ⟨er, tb HB⟩
   rw [if_neg c6] at H
   have c6b0 : ((rd l0_0 x5_1) == a1) = false := beq_eq_false_iff_ne.mpr c6
   have c6b1 : ((rd l0_0 x5_1) != a1) = true := bne_iff_ne.mpr c6
   have H' := Aside0.mk H
   clear H
   have hz8 := cs2_ BK183
   have p184 : 0 ≤ (x5_1 : Int) := od
   have q184 : x5_1 < (l0_0.length : Int) := od
   obtain ⟨ad184, e184, hx184_0⟩ := Kd.at_int HR0_0.out x5_1 p184 q184
   cases e184
   replace hx184_0 := ox HB hx184_0
   replace p184 := eq_true p184
   replace q184 := eq_true q184
   go_wp2
   go_roundg k1
   case measure => have := HK1.out; omega
   case rel => exact ⟨(wrap64 (x5_1 + 1)), rsd, H', ⟨by have := HK1.out; omega⟩, ⟨by (with_reducible repeat (first | refine blk_drewN ?_ _ | refine blk_drew ?_ | refine blk_alloc ?_ _)); exact BK183.out⟩, ⟨tb HB⟩⟩
def spec_l1Bit.f (a0 : Bool) : Option (Int) := if a0 = true then (some 1) else (some 0)
set_option maxHeartbeats 8000000 in
set_option maxRecDepth 100000 in
theorem spec_l1Bit.calls (a0 : Bool) (r : Int) (w : World) (h : spec_l1Bit.f a0 = some r) :
  Calls Tryz.prog 142 #[.bool a0] w fun e w' => e = .returned (.int .i64 r) ∧ Drawn0 w w' := by
 have H := h
 clear h
 unfold spec_l1Bit.f at H
 cases a0
 case true =>
  replace H := ipt H
  obtain rfl := oin H
  go_enter Tryz.func142, Tryz.ntmps142
  go_wp2
  go_ret
  exact ⟨rsd, by repeat (first | exact Drawn0.refl _ | apply Drawn0.step)⟩
 replace H := ipf H
 obtain rfl := oin H
 go_enter Tryz.func142, Tryz.ntmps142
 go_wp2
 go_ret
 exact ⟨rsd, by repeat (first | exact Drawn0.refl _ | apply Drawn0.step)⟩
theorem eqA132 (d : Nat) (w : World) (x0 y0 : Int) (x1 y1 : Int) (x2 y2 : Int) :
  (Op.equalIn (d + 2) 132 (.agg #[.int .i64 x0, .int .i64 x1, .int .i64 x2]) (.agg #[.int .i64 y0, .int .i64 y1, .int .i64 y2])).run Tryz.prog w = .ok (x0 == y0 && (x1 == y1 && (x2 == y2))) w := by
 refine eqA_of Tryz.underlying132 (by kernel_rfl) ?_
 refine eqf_cons (by rfl) (by go_simp; rfl) (by go_simp; rfl) (by go_simp) ?_
 refine eqf_cons (by rfl) (by go_simp; rfl) (by go_simp; rfl) (by go_simp) ?_
 exact eqf_last (by rfl) (by go_simp; rfl) (by go_simp; rfl) (by go_simp)
def spec_l9Last.l0 : Nat → Int → Int → List (S39) → List (S52) → List (S82) → Int → List (S134) → List Int → List Int → Int → Option (Int)
 | 0, _, _, _, _, _, _, _, _, _, _ => none
 | k + 1, x1, x5, x213000, x213001, x213002, x213003, x213004, x213005, x213006, x213007 => if x5 ≥ 0 then (if 0 ≤ x5 then (if x5 < (x213004.length : Int) then (if ((rd_T134 x213004 x5).f0) = x1 then (some x5) else (spec_l9Last.l0 k x1 (wrap64 (x5 - 1)) x213000 x213001 x213002 x213003 x213004 x213005 x213006 x213007)) else (none)) else (none)) else (some (-1))
def spec_l9Last.f (k : Nat) (l0_0 : List (S39)) (l0_1 : List (S52)) (l0_2 : List (S82)) (a0_3 : Int) (l0_4 : List (S134)) (l0_5 : List Int) (l0_6 : List Int) (a0_7 : Int) (a1 : Int) : Option (Int) := spec_l9Last.l0 k a1 (wrap64 ((l0_4.length : Int) - 1)) l0_0 l0_1 l0_2 a0_3 l0_4 l0_5 l0_6 a0_7
set_option maxHeartbeats 8000000 in
set_option maxRecDepth 100000 in
theorem spec_l9Last.calls (k : Nat) (A0_0 : Option Addr) (c0_0 : Nat) (l0_0 : List (S39)) (A0_1 : Option Addr) (c0_1 : Nat) (l0_1 : List (S52)) (A0_2 : Option Addr) (c0_2 : Nat) (l0_2 : List (S82)) (a0_3 : Int) (A0_4 : Option Addr) (c0_4 : Nat) (l0_4 : List (S134)) (A0_5 : Option Addr) (c0_5 : Nat) (l0_5 : List Int) (A0_6 : Option Addr) (c0_6 : Nat) (l0_6 : List Int) (a0_7 : Int) (a1 : Int) (r : Int) (w : World) (hr0_0 : Kd.C k39 w A0_0 l0_0.length l0_0) (hc0_0 : l0_0.length ≤ c0_0) (hr0_1 : Kd.C k52 w A0_1 l0_1.length l0_1) (hc0_1 : l0_1.length ≤ c0_1) (hr0_2 : Kd.C k82 w A0_2 l0_2.length l0_2) (hc0_2 : l0_2.length ≤ c0_2) (hr0_4 : Kd.C k134 w A0_4 l0_4.length l0_4) (hc0_4 : l0_4.length ≤ c0_4) (hr0_5 : Kd.C (Kd.int .i64) w A0_5 l0_5.length l0_5) (hc0_5 : l0_5.length ≤ c0_5) (hr0_6 : Kd.C (Kd.int .i64) w A0_6 l0_6.length l0_6) (hc0_6 : l0_6.length ≤ c0_6) (h : spec_l9Last.f k l0_0 l0_1 l0_2 a0_3 l0_4 l0_5 l0_6 a0_7 a1 = some r) :
  Calls Tryz.prog 143 #[.agg #[.slice A0_0 l0_0.length c0_0, .slice A0_1 l0_1.length c0_1, .slice A0_2 l0_2.length c0_2, .int .i64 a0_3, .slice A0_4 l0_4.length c0_4, .slice A0_5 l0_5.length c0_5, .slice A0_6 l0_6.length c0_6, .int .i64 a0_7], .int .i64 a1] w fun e w' => e = .returned (.int .i64 r) ∧ Below w.heap.size w w' := by
 have hu75 := Tryz.underlying75
 have HR0_0 := Aside0.mk hr0_0
 have HC0_0 := Aside0.mk hc0_0
 clear hr0_0 hc0_0
 have HR0_1 := Aside0.mk hr0_1
 have HC0_1 := Aside0.mk hc0_1
 clear hr0_1 hc0_1
 have HR0_2 := Aside0.mk hr0_2
 have HC0_2 := Aside0.mk hc0_2
 clear hr0_2 hc0_2
 have HR0_4 := Aside0.mk hr0_4
 have HC0_4 := Aside0.mk hc0_4
 clear hr0_4 hc0_4
 have HR0_5 := Aside0.mk hr0_5
 have HC0_5 := Aside0.mk hc0_5
 clear hr0_5 hc0_5
 have HR0_6 := Aside0.mk hr0_6
 have HC0_6 := Aside0.mk hc0_6
 clear hr0_6 hc0_6
 have HB := Aside0.mk (Below.refl w.heap.size w)
 have H := h
 clear h
 unfold spec_l9Last.f at H
 have H' := Aside0.mk H
 clear H
 go_enter Tryz.func143, Tryz.ntmps143
 go_wp2_with (first | ((with_reducible refine gq 2 rfl ?_); refine bx0 HB (N := 2) (t := 75) ?_; clear HB; intro gb212 w3 BK212 GE212 HB; have hz4 := cs8_ BK212))
 go_loopg [5] k (fun kq v5 w' => ∃ (x5_1 : Int), v5 = .int .i64 x5_1 ∧ Aside0 (spec_l9Last.l0 kq a1 x5_1 l0_0 l0_1 l0_2 a0_3 l0_4 l0_5 l0_6 a0_7 = some r) ∧ Aside0 (kq ≤ k) ∧ Aside0 (w'.heap[gb212]? = some (.cells #[(.slice A0_0 l0_0.length c0_0), (.slice A0_1 l0_1.length c0_1), (.slice A0_2 l0_2.length c0_2), .int .i64 a0_3, (.slice A0_4 l0_4.length c0_4), (.slice A0_5 l0_5.length c0_5), (.slice A0_6 l0_6.length c0_6), .int .i64 a0_7] 75 (0, 0))) ∧ Aside0 (Below w.heap.size w w'))
 case atStart => exact ⟨(wrap64 ((l0_4.length : Int) - 1)), rsd, H', ⟨Nat.le_refl _⟩, ⟨by (with_reducible repeat (first | refine blk_drewN ?_ _ | refine blk_drew ?_ | refine blk_alloc ?_ _)); exact BK212.out⟩, ⟨tb HB⟩⟩
 case round =>
  clear H'
  obtain ⟨x5_1, rfl, HA, HK1, BK212, HB⟩ := hrel
  cases gk with
  | zero => exact absurd HA.out (by simp [spec_l9Last.l0])
  | succ k1 =>
   have H := HA.out
   clear HA
   simp only [spec_l9Last.l0] at H
   revert H; refine icd (fun c5b0 H => ?_) fun c5b0 H => ?neg
   case neg =>
    obtain rfl := oin H
    go_wp2
    go_ret
    exact ⟨er, tb HB⟩
   obtain ⟨c6b0, H⟩ := itd H
   obtain ⟨c7b0, H⟩ := itd H
   by_cases c8 : ((rd_T134 l0_4 x5_1).f0) = a1
   case neg =>
    rw [if_neg c8] at H
    have c8b0 : (((rd_T134 l0_4 x5_1).f0) == a1) = false := beq_eq_false_iff_ne.mpr c8
    have c8b1 : (((rd_T134 l0_4 x5_1).f0) != a1) = true := bne_iff_ne.mpr c8
    have H' := Aside0.mk H
    clear H
    have hz10 := cs8_ BK212
    have p213 : 0 ≤ (x5_1 : Int) := od
    have q213 : x5_1 < (l0_4.length : Int) := od
    obtain ⟨ad213, A213_8, c213_8, e213, hx213, hl213_8, hi213_8⟩ := att134 HR0_4.out x5_1 p213 q213
    cases e213
    replace hx213 := ox9 HB hx213
    have HR213_8 := Aside0.mk hi213_8
    have HC213_8 := Aside0.mk hl213_8
    clear hi213_8 hl213_8
    replace p213 := eq_true p213
    replace q213 := eq_true q213
    go_wp2
    go_roundg k1
    case measure => have := HK1.out; omega
    case rel => exact ⟨(wrap64 (x5_1 - 1)), rsd, H', ⟨by have := HK1.out; omega⟩, ⟨by (with_reducible repeat (first | refine blk_drewN ?_ _ | refine blk_drew ?_ | refine blk_alloc ?_ _)); exact BK212.out⟩, ⟨tb HB⟩⟩
   rw [if_pos c8] at H
   have c8b0 : (((rd_T134 l0_4 x5_1).f0) == a1) = true := beq_iff_eq.mpr c8
   have c8b1 : (((rd_T134 l0_4 x5_1).f0) != a1) = false := bne_eq_false_iff_eq.mpr c8
   clear c8
   obtain rfl := oin H
   have hz9 := cs8_ BK212
   have p213 : 0 ≤ (x5_1 : Int) := od
   have q213 : x5_1 < (l0_4.length : Int) := od
   obtain ⟨ad213, A213_8, c213_8, e213, hx213_0, hx213_1, hx213_2, hx213_3, hx213_4, hx213_5, hx213_6, hx213_7, hx213_8, hl213_8, hi213_8⟩ := at_T134 HR0_4.out x5_1 p213 q213
   cases e213
   replace hx213_0 := ox HB hx213_0
   replace hx213_1 := ox HB hx213_1
   replace hx213_2 := ox HB hx213_2
   replace hx213_3 := ox HB hx213_3
   replace hx213_4 := ox HB hx213_4
   replace hx213_5 := ox HB hx213_5
   replace hx213_6 := ox HB hx213_6
   replace hx213_7 := ox HB hx213_7
   replace hx213_8 := ox HB hx213_8
   have HR213_8 := Aside0.mk hi213_8
   have HC213_8 := Aside0.mk hl213_8
   clear hi213_8 hl213_8
   replace p213 := eq_true p213
   replace q213 := eq_true q213
   go_wp2
   go_ret
   exact ⟨er, tb HB⟩
def spec_ThreadDone.f (l0_0 : List (S132)) (a0_1 : Int) (a0_2 : Bool) (l0_3 : List (S145)) (l0_4 : List (S42)) : Option (Bool) := some (a0_1 == (l0_0.length : Int))
set_option maxHeartbeats 8000000 in
set_option maxRecDepth 100000 in
theorem spec_ThreadDone.calls (A0_0 : Option Addr) (c0_0 : Nat) (l0_0 : List (S132)) (a0_1 : Int) (a0_2 : Bool) (A0_3 : Option Addr) (c0_3 : Nat) (l0_3 : List (S145)) (A0_4 : Option Addr) (c0_4 : Nat) (l0_4 : List (S42)) (r : Bool) (w : World) (hr0_0 : Kd.C k132 w A0_0 l0_0.length l0_0) (hc0_0 : l0_0.length ≤ c0_0) (hr0_3 : Kd.C k145 w A0_3 l0_3.length l0_3) (hc0_3 : l0_3.length ≤ c0_3) (hr0_4 : Kd.C k42 w A0_4 l0_4.length l0_4) (hc0_4 : l0_4.length ≤ c0_4) (h : spec_ThreadDone.f l0_0 a0_1 a0_2 l0_3 l0_4 = some r) :
  Calls Tryz.prog 52 #[.agg #[.slice A0_0 l0_0.length c0_0, .int .i64 a0_1, .bool a0_2, .slice A0_3 l0_3.length c0_3, .slice A0_4 l0_4.length c0_4]] w fun e w' => e = .returned (.bool r) ∧ Below w.heap.size w w' := by
 have hu82 := Tryz.underlying82
 have HR0_0 := Aside0.mk hr0_0
 have HC0_0 := Aside0.mk hc0_0
 clear hr0_0 hc0_0
 have HR0_3 := Aside0.mk hr0_3
 have HC0_3 := Aside0.mk hc0_3
 clear hr0_3 hc0_3
 have HR0_4 := Aside0.mk hr0_4
 have HC0_4 := Aside0.mk hc0_4
 clear hr0_4 hc0_4
 have HB := Aside0.mk (Below.refl w.heap.size w)
 have H := h
 clear h
 unfold spec_ThreadDone.f at H
 obtain rfl := oin H
 go_enter Tryz.func52, Tryz.ntmps52
 go_wp2_with (first | ((with_reducible refine gq 1 rfl ?_); refine bx0 HB (N := 1) (t := 82) ?_; clear HB; intro gb641 w2 BK641 GE641 HB; have hz3 := cs5_ BK641))
 go_ret
 exact ⟨er, tb HB⟩
def impl_from.f (a0 : Int) (a1 : Int) (a2 : Int) : Option (Bool) := if a0 ≥ a1 then (some (decide (a0 ≤ a2))) else (some false)
set_option maxHeartbeats 8000000 in
set_option maxRecDepth 100000 in
theorem impl_from.calls (a0 : Int) (a1 : Int) (a2 : Int) (r : Bool) (w : World) (h : impl_from.f a0 a1 a2 = some r) :
  Calls Tryz.prog 62 #[.int .i64 a0, .int .i64 a1, .int .i64 a2] w fun e w' => e = .returned (.bool r) ∧ Drawn0 w w' := by
 have H := h
 clear h
 unfold impl_from.f at H
 revert H; refine icd (fun c4b0 H => ?pos) fun c4b0 H => ?_
 case pos =>
  obtain rfl := oin H
  go_enter Tryz.func62, Tryz.ntmps62
  go_wp2
  go_ret
  exact ⟨rsd, by repeat (first | exact Drawn0.refl _ | apply Drawn0.step)⟩
 obtain rfl := oin H
 go_enter Tryz.func62, Tryz.ntmps62
 go_wp2
 go_ret
 exact ⟨rsd, by repeat (first | exact Drawn0.refl _ | apply Drawn0.step)⟩
def impl_Entries.l0 : Nat → Int → List (S37) → Int → Int → Option (Int × Int × Int × Bool)
 | 0, _, _, _, _ => none
 | k + 1, x1, x9, x10, x11 => if x11 < x10 then (if 0 ≤ x11 then (if x11 < (x9.length : Int) then (if ((rd_T37 x9 x11).f0) = x1 then (some ((rd_T37 x9 x11).f0, (rd_T37 x9 x11).f1, (rd_T37 x9 x11).f2, true)) else (impl_Entries.l0 k x1 x9 x10 (wrap64 (x11 + 1)))) else (none)) else (none)) else (some (0, 0, 0, false))
def impl_Entries.f (k : Nat) (a0_0 : Int) (a0_1 : Int) (l0_2 : List (S37)) (a0_3 : Int) (l0_4 : List Int) (a1 : Int) : Option (Int × Int × Int × Bool) := impl_Entries.l0 k a1 l0_2 (l0_2.length : Int) 0
set_option maxHeartbeats 8000000 in
set_option maxRecDepth 100000 in
theorem impl_Entries.calls (k : Nat) (a0_0 : Int) (a0_1 : Int) (A0_2 : Option Addr) (c0_2 : Nat) (l0_2 : List (S37)) (a0_3 : Int) (A0_4 : Option Addr) (c0_4 : Nat) (l0_4 : List Int) (a1 : Int) (r1 : Int) (r2 : Int) (r3 : Int) (r4 : Bool) (w : World) (hr0_2 : Kd.C k37 w A0_2 l0_2.length l0_2) (hc0_2 : l0_2.length ≤ c0_2) (hr0_4 : Kd.C (Kd.int .i64) w A0_4 l0_4.length l0_4) (hc0_4 : l0_4.length ≤ c0_4) (h : impl_Entries.f k a0_0 a0_1 l0_2 a0_3 l0_4 a1 = some (r1, r2, r3, r4)) :
  Calls Tryz.prog 23 #[.agg #[.int .i64 a0_0, .int .i64 a0_1, .slice A0_2 l0_2.length c0_2, .int .i64 a0_3, .slice A0_4 l0_4.length c0_4], .int .i64 a1] w fun e w' => e = .returned (.tuple #[.agg #[.int .i64 r1, .int .i64 r2, .int .i64 r3], .bool r4]) ∧ Below w.heap.size w w' := by
 have hu52 := Tryz.underlying52
 have hu37 := Tryz.underlying37
 have HR0_2 := Aside0.mk hr0_2
 have HC0_2 := Aside0.mk hc0_2
 clear hr0_2 hc0_2
 have HR0_4 := Aside0.mk hr0_4
 have HC0_4 := Aside0.mk hc0_4
 clear hr0_4 hc0_4
 have HB := Aside0.mk (Below.refl w.heap.size w)
 have H := h
 clear h
 unfold impl_Entries.f at H
 have H' := Aside0.mk H
 clear H
 go_enter Tryz.func23, Tryz.ntmps23
 go_wp2_with (first | ((with_reducible refine gq 2 rfl ?_); refine bx0 HB (N := 2) (t := 52) ?_; clear HB; intro gb412 w3 BK412 GE412 HB) | ((with_reducible refine gq 4 rfl ?_); refine bx1 HB BK412 (N := 4) (cs := #[.int .i64 0, .int .i64 0, .int .i64 0]) (t := 37) ?_; clear HB BK412; intro gb413 w4 BK413 GE413 HB NB412_413 NB413_412 BK412; have hnb5 := NB412_413.out; have hnc5 := NB413_412.out; have hz6 := cs5_ BK412))
 go_loopg [11] k (fun kq v11 w' => ∃ (x11_1 : Int) (x414000_1 : Int) (x414001_1 : Int) (x414002_1 : Int), v11 = .int .i64 x11_1 ∧ Aside0 (impl_Entries.l0 kq a1 l0_2 (l0_2.length : Int) x11_1 = some (r1, r2, r3, r4)) ∧ Aside0 (kq ≤ k) ∧ Aside0 (w'.heap[gb412]? = some (.cells #[.int .i64 a0_0, .int .i64 a0_1, (.slice A0_2 l0_2.length c0_2), .int .i64 a0_3, (.slice A0_4 l0_4.length c0_4)] 52 (0, 0))) ∧ Aside0 (w'.heap[gb413]? = some (.cells #[.int .i64 x414000_1, .int .i64 x414001_1, .int .i64 x414002_1] 37 (0, 0))) ∧ Aside0 (Below w.heap.size w w'))
 case atStart => exact ⟨(0), (0), (0), (0), rsd, H', ⟨Nat.le_refl _⟩, ⟨by (with_reducible repeat (first | refine blk_drewN ?_ _ | refine blk_drew ?_ | refine blk_alloc ?_ _)); exact BK412.out⟩, ⟨by (with_reducible repeat (first | refine blk_drewN ?_ _ | refine blk_drew ?_ | refine blk_alloc ?_ _)); exact BK413.out⟩, ⟨tb HB⟩⟩
 case round =>
  clear H'
  obtain ⟨x11_1, x414000_1, x414001_1, x414002_1, rfl, HA, HK1, BK412, BK413, HB⟩ := hrel
  cases gk with
  | zero => exact absurd HA.out (by simp [impl_Entries.l0])
  | succ k1 =>
   have H := HA.out
   clear HA
   simp only [impl_Entries.l0] at H
   revert H; refine icd (fun c7b0 H => ?_) fun c7b0 H => ?neg
   case neg =>
    simp only [Option.some.injEq, Prod.mk.injEq] at H
    obtain ⟨rfl, rfl, rfl, rfl⟩ := H
    have hnb21 := NB413_412.out
    have hnc21 := NB412_413.out
    have hz22 := cs3_ BK413
    go_wp2
    refine bodyPost_ret (results_ct rfl _ _ gb413 37 #[.int .i64 0, .int .i64 0, .int .i64 0] (0, 0) _ rfl (bfp3 BK413) Tryz.underlying37 rfl (by kernel_rfl)) rfl ?_
    exact ⟨er, tb HB⟩
   obtain ⟨c8b0, H⟩ := itd H
   obtain ⟨c9b0, H⟩ := itd H
   by_cases c10 : ((rd_T37 l0_2 x11_1).f0) = a1
   case neg =>
    rw [if_neg c10] at H
    have c10b0 : (((rd_T37 l0_2 x11_1).f0) == a1) = false := beq_eq_false_iff_ne.mpr c10
    have c10b1 : (((rd_T37 l0_2 x11_1).f0) != a1) = true := bne_iff_ne.mpr c10
    have H' := Aside0.mk H
    clear H
    have p414 : 0 ≤ (x11_1 : Int) := od
    have q414 : x11_1 < (l0_2.length : Int) := od
    obtain ⟨ad414, e414, hx414⟩ := att37 HR0_2.out x11_1 p414 q414
    cases e414
    replace hx414 := ox3 HB hx414
    replace p414 := eq_true p414
    replace q414 := eq_true q414
    go_wp2_with (first | ((with_reducible refine gq 7 rfl ?_); refine bx2 HB BK412 BK413 (N := 7) (cs := #[.int .i64 0, .int .i64 0, .int .i64 0]) (t := 37) ?_; clear HB BK412 BK413; intro gb415 w17 BK415 GE415 HB NB412_415 NB415_412 BK412 NB413_415 NB415_413 BK413; have hnb18 := NB415_412.out; have hnc18 := NB412_415.out; have hnb19 := NB415_413.out; have hnc19 := NB413_415.out; have hz20 := cs3_ BK415))
    go_roundg k1
    case measure => have := HK1.out; omega
    case rel => exact ⟨(wrap64 (x11_1 + 1)), (x414000_1), (x414001_1), (x414002_1), rsd, H', ⟨by have := HK1.out; omega⟩, ⟨bf BK412⟩, ⟨bf BK413⟩, ⟨tb HB⟩⟩
   rw [if_pos c10] at H
   have c10b0 : (((rd_T37 l0_2 x11_1).f0) == a1) = true := beq_iff_eq.mpr c10
   have c10b1 : (((rd_T37 l0_2 x11_1).f0) != a1) = false := bne_eq_false_iff_eq.mpr c10
   clear c10
   simp only [Option.some.injEq, Prod.mk.injEq] at H
   obtain ⟨rfl, rfl, rfl, rfl⟩ := H
   have p414 : 0 ≤ (x11_1 : Int) := od
   have q414 : x11_1 < (l0_2.length : Int) := od
   obtain ⟨ad414, e414, hx414_0, hx414_1, hx414_2⟩ := at_T37 HR0_2.out x11_1 p414 q414
   cases e414
   replace hx414_0 := ox HB hx414_0
   replace hx414_1 := ox HB hx414_1
   replace hx414_2 := ox HB hx414_2
   replace p414 := eq_true p414
   replace q414 := eq_true q414
   go_wp2_with (first | ((with_reducible refine gq 7 rfl ?_); refine bx2 HB BK412 BK413 (N := 7) (cs := #[.int .i64 0, .int .i64 0, .int .i64 0]) (t := 37) ?_; clear HB BK412 BK413; intro gb415 w11 BK415 GE415 HB NB412_415 NB415_412 BK412 NB413_415 NB415_413 BK413; have hnb12 := NB415_412.out; have hnc12 := NB412_415.out; have hnb13 := NB415_413.out; have hnc13 := NB413_415.out; have hz14 := cs3_ BK415; have hnb15 := NB413_412.out; have hnc15 := NB412_413.out; have hz16 := cs3_ BK413))
   refine bodyPost_ret (results_ct rfl _ _ gb413 37 #[.int .i64 ((rd_T37 l0_2 x11_1).f0), .int .i64 ((rd_T37 l0_2 x11_1).f1), .int .i64 ((rd_T37 l0_2 x11_1).f2)] (0, 0) _ rfl (bfp3 BK413) Tryz.underlying37 rfl (by kernel_rfl)) rfl ?_
   exact ⟨er, tb HB⟩
def slices_Index_int_int.l0 : Nat → List Int → Int → Int → Int → Option (Int)
 | 0, _, _, _, _ => none
 | k + 1, x0, x1, x7, x8 => if x8 < x7 then (if 0 ≤ x8 then (if x8 < (x0.length : Int) then (if x1 = (rd x0 x8) then (some x8) else (slices_Index_int_int.l0 k x0 x1 x7 (wrap64 (x8 + 1)))) else (none)) else (none)) else (some (-1))
def slices_Index_int_int.f (k : Nat) (l0 : List Int) (a1 : Int) : Option (Int) := slices_Index_int_int.l0 k l0 a1 (l0.length : Int) 0
set_option maxHeartbeats 8000000 in
set_option maxRecDepth 100000 in
theorem slices_Index_int_int.calls (k : Nat) (A0 : Option Addr) (c0 : Nat) (l0 : List Int) (a1 : Int) (r : Int) (w : World) (hr0 : Kd.C (Kd.int .i64) w A0 l0.length l0) (hc0 : l0.length ≤ c0) (h : slices_Index_int_int.f k l0 a1 = some r) :
  Calls Tryz.prog 181 #[.slice A0 l0.length c0, .int .i64 a1] w fun e w' => e = .returned (.int .i64 r) ∧ Drawn0 w w' := by
 have HR0 := Aside0.mk hr0
 have HC0 := Aside0.mk hc0
 clear hr0 hc0
 have H := h
 clear h
 unfold slices_Index_int_int.f at H
 have H' := Aside0.mk H
 clear H
 go_enter Tryz.func181, Tryz.ntmps181
 go_wp2
 go_loopg [8] k (fun kq v8 w' => ∃ (x8_1 : Int), v8 = .int .i64 x8_1 ∧ Aside0 (slices_Index_int_int.l0 kq l0 a1 (l0.length : Int) x8_1 = some r) ∧ Aside0 (kq ≤ k) ∧ Drawn0 w w')
 case atStart => exact ⟨(0), rsd, H', ⟨Nat.le_refl _⟩, by repeat (first | exact Drawn0.refl _ | apply Drawn0.step)⟩
 case round =>
  clear H'
  obtain ⟨x8_1, rfl, HA, HK1, ⟨m1, rfl⟩⟩ := hrel
  cases gk with
  | zero => exact absurd HA.out (by simp [slices_Index_int_int.l0])
  | succ k1 =>
   have H := HA.out
   clear HA
   simp only [slices_Index_int_int.l0] at H
   revert H; refine icd (fun c3b0 H => ?_) fun c3b0 H => ?neg
   case neg =>
    obtain rfl := oin H
    go_wp2
    go_ret
    exact ⟨rsd, by repeat (first | exact Drawn0.refl _ | apply Drawn0.step)⟩
   obtain ⟨c4b0, H⟩ := itd H
   obtain ⟨c5b0, H⟩ := itd H
   by_cases c6 : a1 = (rd l0 x8_1)
   case pos =>
    rw [if_pos c6] at H
    have c6b0 : (a1 == (rd l0 x8_1)) = true := beq_iff_eq.mpr c6
    have c6b1 : (a1 != (rd l0 x8_1)) = false := bne_eq_false_iff_eq.mpr c6
    clear c6
    obtain rfl := oin H
    have p466 : 0 ≤ (x8_1 : Int) := od
    have q466 : x8_1 < (l0.length : Int) := od
    obtain ⟨ad466, e466, hx466_0⟩ := Kd.at_int HR0.out x8_1 p466 q466
    cases e466
    replace p466 := eq_true p466
    replace q466 := eq_true q466
    go_wp2
    go_ret
    exact ⟨rsd, by repeat (first | exact Drawn0.refl _ | apply Drawn0.step)⟩
   rw [if_neg c6] at H
   have c6b0 : (a1 == (rd l0 x8_1)) = false := beq_eq_false_iff_ne.mpr c6
   have c6b1 : (a1 != (rd l0 x8_1)) = true := bne_iff_ne.mpr c6
   have H' := Aside0.mk H
   clear H
   have p466 : 0 ≤ (x8_1 : Int) := od
   have q466 : x8_1 < (l0.length : Int) := od
   obtain ⟨ad466, e466, hx466_0⟩ := Kd.at_int HR0.out x8_1 p466 q466
   cases e466
   replace p466 := eq_true p466
   replace q466 := eq_true q466
   go_wp2
   go_roundg k1
   case measure => have := HK1.out; omega
   case rel => exact ⟨(wrap64 (x8_1 + 1)), rsd, H', ⟨by have := HK1.out; omega⟩, by repeat (first | exact Drawn0.refl _ | apply Drawn0.step)⟩
def impl_ThreadDone.f (l0_0 : List (S132)) (a0_1 : Int) (a0_2 : Bool) (l0_3 : List (S145)) (l0_4 : List (S42)) : Option (Bool) := some (a0_1 == (l0_0.length : Int))
set_option maxHeartbeats 8000000 in
set_option maxRecDepth 100000 in
theorem impl_ThreadDone.calls (A0_0 : Option Addr) (c0_0 : Nat) (l0_0 : List (S132)) (a0_1 : Int) (a0_2 : Bool) (A0_3 : Option Addr) (c0_3 : Nat) (l0_3 : List (S145)) (A0_4 : Option Addr) (c0_4 : Nat) (l0_4 : List (S42)) (r : Bool) (w : World) (hr0_0 : Kd.C k132 w A0_0 l0_0.length l0_0) (hc0_0 : l0_0.length ≤ c0_0) (hr0_3 : Kd.C k145 w A0_3 l0_3.length l0_3) (hc0_3 : l0_3.length ≤ c0_3) (hr0_4 : Kd.C k42 w A0_4 l0_4.length l0_4) (hc0_4 : l0_4.length ≤ c0_4) (h : impl_ThreadDone.f l0_0 a0_1 a0_2 l0_3 l0_4 = some r) :
  Calls Tryz.prog 51 #[.agg #[.slice A0_0 l0_0.length c0_0, .int .i64 a0_1, .bool a0_2, .slice A0_3 l0_3.length c0_3, .slice A0_4 l0_4.length c0_4]] w fun e w' => e = .returned (.bool r) ∧ Below w.heap.size w w' := by
 have hu82 := Tryz.underlying82
 have HR0_0 := Aside0.mk hr0_0
 have HC0_0 := Aside0.mk hc0_0
 clear hr0_0 hc0_0
 have HR0_3 := Aside0.mk hr0_3
 have HC0_3 := Aside0.mk hc0_3
 clear hr0_3 hc0_3
 have HR0_4 := Aside0.mk hr0_4
 have HC0_4 := Aside0.mk hc0_4
 clear hr0_4 hc0_4
 have HB := Aside0.mk (Below.refl w.heap.size w)
 have H := h
 clear h
 unfold impl_ThreadDone.f at H
 obtain rfl := oin H
 go_enter Tryz.func51, Tryz.ntmps51
 go_wp2_with (first | ((with_reducible refine gq 1 rfl ?_); refine bx0 HB (N := 1) (t := 82) ?_; clear HB; intro gb646 w2 BK646 GE646 HB; have hz3 := cs5_ BK646))
 go_ret
 exact ⟨er, tb HB⟩
end Go.Proofs.YtopikhjcbcpiaaaGreat.Q
section
namespace Go.Proofs.YtopikhjcbcpiaaaGreatX
open Go.RowKit Go.Proofs.YtopikhjcbcpiaaaGreatW.PrintWords Go.Deep Go.ChangeShapes Go.WideShapes
section
variable {H : Type} {enc : TypeId × Value → H} {P : Program} {w : World}
def Opens (enc : TypeId × Value → H) (P : Program) (w : World) {α : Type} (d : Kd α) (T : TypeId) (ok : α → Prop) : Prop :=
  P.cellsOf T = d.sz ∧ ∀ fuel cs x, DataW.trod enc P w 0 (fun _ => true) true fuel T cs = some x → ∃ a : α, d.K w a cs ∧ ok a
theorem Opens.int {T : TypeId} {k : IntKind} (hu : P.underlying T = some (.int k)) (hc : P.cellsOf T = 1) : Opens enc P w (Kd.int k) T (fun n => (Lit.int k n).wf = true) :=
  ⟨hc, fun fuel cs x h => by
    obtain ⟨n, rfl, _, hw⟩ := DataW.trod_int hu h
    exact ⟨n, rfl, hw⟩⟩
theorem Opens.bool {T : TypeId} (hu : P.underlying T = some .bool) (hc : P.cellsOf T = 1) : Opens enc P w Kd.bool T (fun _ => True) :=
  ⟨hc, fun fuel cs x h => by
    obtain ⟨b, rfl, _⟩ := DataW.trod_bool hu h
    exact ⟨b, rfl, trivial⟩⟩
theorem list_of_index {α : Type} (p : Nat → α → Prop) : ∀ n : Nat, (∀ i, i < n → ∃ a, p i a) → ∃ l : List α, l.length = n ∧ ∀ i a, l[i]? = some a → p i a
  | 0, _ => ⟨[], rfl, fun i a h => by simp at h⟩
  | n + 1, h => by
    obtain ⟨l, hl, hp⟩ := list_of_index p n (fun i hi => h i (by omega))
    obtain ⟨a, ha⟩ := h n (by omega)
    refine ⟨l ++ [a], by simp [hl], fun i b hb => ?_⟩
    rcases Nat.lt_trichotomy i n with h' | h' | h'
    · rw [List.getElem?_append_left (by omega)] at hb
      exact hp i b hb
    · subst h'
      rw [List.getElem?_append_right (by omega)] at hb
      simp [hl] at hb
      exact hb ▸ ha
    · rw [List.getElem?_eq_none (by simp [hl]; omega)] at hb
      cases hb
theorem Opens.slice {α : Type} {d : Kd α} {T e : TypeId} {ok : α → Prop} (hu : P.underlying T = some (.slice e)) (hc : P.cellsOf T = 1) (h : Opens enc P w d e ok) :
    Opens enc P w (Kd.slice e d) T (fun l => l.length ≤ 9223372036854775807 ∧ ∀ a ∈ l, ok a) :=
  ⟨hc, fun fuel cs x hx => by
    rcases open_slice hu hx with ⟨rfl, _⟩ | ⟨a, len, cap, m, n, D, Pl, rfl, hb, hl, hm, hmm, _, hel⟩
    · exact ⟨[], ⟨none, 0, rfl, Nat.le_refl _, ⟨rfl, by simp, fun h => absurd h (by simp)⟩⟩, by simp, fun a ha => by cases ha⟩
    · simp only [if_true] at hmm
      subst hmm
      obtain ⟨l, hll, hlp⟩ := list_of_index (fun i a' => (∃ c : List Value, c.length = d.sz ∧ d.K w a' c ∧ ∀ j u, c[j]? = some u → w.cell? (a.add (i * d.sz + j)) = some u) ∧ ok a') len (fun i hi => by
        obtain ⟨cs', hcs, ht⟩ := hel i (by omega)
        obtain ⟨a', hk, ha'⟩ := h.2 _ _ _ ht
        refine ⟨a', ⟨cs', d.K_len hk, hk, fun j u hu => ?_⟩, ha'⟩
        rw [h.1] at hcs
        obtain ⟨_, hlen, hcell⟩ := World.cells?_some hcs
        have hj : j < d.sz := by have := (List.getElem?_eq_some_iff.1 hu).1; rw [d.K_len hk] at this; exact this
        have := hcell j hj
        rw [Go.Deep.add_add] at this
        rw [this]
        exact hu)
      refine ⟨l, ⟨some a, m, by rw [hll], by omega, ⟨rfl, by simp only [maxLen] at hm; omega, fun _ => ⟨a, rfl, fun j p hp => (hlp j p hp).1⟩⟩⟩, by rw [hll]; simp only [maxLen] at hm; omega, fun a' ha' => ?_⟩
      obtain ⟨i, hi⟩ := List.getElem?_of_mem ha'
      exact (hlp i a' hi).2⟩
def OpensFs (enc : TypeId × Value → H) (P : Program) (w : World) {α : Type} (d : Kd α) (off : Nat) (fs : List Field) (ok : α → Prop) : Prop :=
  ∀ (n : Nat) (cs : List Value), off + d.sz = cs.length → (∀ f ∈ fs, ∃ x, DataW.trod enc P w 0 (fun _ => true) true n f.type ((cs.drop f.offset).take (P.cellsOf f.type)) = some x) → ∃ a : α, d.K w a (cs.drop off) ∧ ok a
theorem OpensFs.last {α : Type} {d : Kd α} {off : Nat} {f : Field} {ok : α → Prop} (hf : f.offset = off) (h : Opens enc P w d f.type ok) : OpensFs enc P w d off [f] ok := by
  intro n cs hl hx
  obtain ⟨x, hx⟩ := hx f (by simp)
  rw [hf, h.1, List.take_of_length_le (by simp; omega)] at hx
  exact h.2 _ _ _ hx
theorem OpensFs.cons {α β : Type} {d : Kd α} {d' : Kd β} {off : Nat} {f : Field} {fs : List Field} {ok : α → Prop} {ok' : β → Prop} (hf : f.offset = off) (h : Opens enc P w d f.type ok) (h' : OpensFs enc P w d' (off + d.sz) fs ok') :
    OpensFs enc P w (Kd.pair d d') off (f :: fs) (fun x => ok x.1 ∧ ok' x.2) := by
  intro n cs hl hx
  have hl' : off + (d.sz + d'.sz) = cs.length := hl
  obtain ⟨b, hb, hob⟩ := h' n cs (by omega) (fun g hg => hx g (by simp [hg]))
  obtain ⟨x, hx⟩ := hx f (by simp)
  rw [hf, h.1] at hx
  obtain ⟨a, ha, hoa⟩ := h.2 _ _ _ hx
  refine ⟨(a, b), ⟨(cs.drop off).take d.sz, cs.drop (off + d.sz), ?_, ha, hb⟩, hoa, hob⟩
  rw [← List.drop_drop]
  exact (List.take_append_drop _ _).symm
theorem Opens.struct {α β : Type} {d : Kd α} {f : β → α} {g : α → β} (hg : ∀ a, f (g a) = a) {T : TypeId} {fs : Array Field} {ok : α → Prop} (hu : P.underlying T = some (.struct fs)) (hc : P.cellsOf T = d.sz) (h : OpensFs enc P w d 0 fs.toList ok) :
    Opens enc P w (Kd.iso d f) T (fun b => ok (f b)) :=
  ⟨hc, fun fuel cs x hx => by
    obtain ⟨xs, n, rfl, _, hl, hlen, hfs⟩ := DataW.trod_struct hu hx
    obtain ⟨a, ha, hoa⟩ := h n cs (by rw [hl, hc]; omega) (fun f hf => by
      obtain ⟨i, hi⟩ := List.getElem?_of_mem hf
      have hi' : fs[i]? = some f := by simpa using hi
      have := hfs i f hi'
      have hlt : i < xs.length := by rw [hlen]; exact (Array.getElem?_eq_some_iff.1 hi').1
      rw [List.getElem?_eq_getElem hlt] at this
      exact ⟨_, this⟩)
    exact ⟨g a, by show d.K w (f (g a)) cs; rw [hg]; simpa using ha, by show ok (f (g a)); rw [hg]; exact hoa⟩⟩
theorem Opens.agg {α : Type} {d : Kd α} {T : TypeId} {ok : α → Prop} {fs : Array Field} {r : Reach} {b0 : Nat} {v : Value} {x : DataW H} {p : List MemPlace} (h : Opens enc P w d T ok) (hu : P.underlying T = some (.struct fs))
    (hv : Value.okWide P w r b0 T v) (hx : DataW.Trod enc P w 0 (fun _ => true) true T v x p) : ∃ (a : α) (cs : List Value), v = .agg cs.toArray ∧ d.K w a cs ∧ ok a := by
  obtain ⟨cs, rfl, _⟩ := okWide_struct hu hv
  obtain ⟨fuel, hf⟩ := hx
  obtain ⟨a, ha, hoa⟩ := h.2 _ _ _ hf
  exact ⟨a, cs.toList, rfl, ha, hoa⟩
end
end Go.Proofs.YtopikhjcbcpiaaaGreatX
end
section
namespace Go.Proofs.YtopikhjcbcpiaaaGreatX
open Go.RowKit Go.Proofs.YtopikhjcbcpiaaaGreatW.PrintWords
theorem wrap_succ {i n : Nat} (h : i < n) (hn : n ≤ 9223372036854775807) : wrap64 ((i : Int) + 1) = ((i + 1 : Nat) : Int) := by
  unfold wrap64; omega
theorem wrap_in {x : Int} (h0 : -9223372036854775808 ≤ x) (h1 : x ≤ 9223372036854775807) : wrap64 x = x := by
  unfold wrap64; omega
theorem ev_of {α : Type} {g : Nat → Option α} {r : α} (h : ∀ k, g k = some r) : Ev g r := ⟨0, fun k _ => h k⟩
theorem ev_succ {α : Type} {g : Nat → Option α} {r : α} (h : ∀ k, g (k + 1) = some r) : Ev g r := Ev.step (f := fun _ => Option.some r) h (Ev.now r)
theorem ev_to {α : Type} {g : Nat → Option α} {r q : α} (h : Ev g r) (e : r = q) : Ev g q := e ▸ h
theorem ev_pos {α : Type} {c : Prop} [Decidable c] {g f : Nat → Option α} {r : α} (hc : c) (h : Ev g r) : Ev (fun k => if c then g k else f k) r := by simp only [if_pos hc]; exact h
theorem ev_neg {α : Type} {c : Prop} [Decidable c] {g f : Nat → Option α} {r : α} (hc : ¬ c) (h : Ev f r) : Ev (fun k => if c then g k else f k) r := by simp only [if_neg hc]; exact h
theorem ev_ite {α : Type} {c : Prop} [Decidable c] {g f : Nat → Option α} {r : α} (h : c → Ev g r) (h' : ¬ c → Ev f r) : Ev (fun k => if c then g k else f k) r := by
  by_cases hc : c
  · exact ev_pos hc (h hc)
  · exact ev_neg hc (h' hc)
theorem ev_down {β : Type} {g : Nat → Int → Option β} {R : Nat → β} {n : Nat} (h : ∀ i : Nat, i ≤ n → (i < n → Ev (fun k => g k ((i + 1 : Nat) : Int)) (R (i + 1))) → Ev (fun k => g k (i : Int)) (R i)) :
    ∀ i : Nat, i ≤ n → Ev (fun k => g k (i : Int)) (R i) := by
  have key : ∀ d i : Nat, i + d = n → Ev (fun k => g k (i : Int)) (R i) := by
    intro d
    induction d with
    | zero => intro i hi; exact h i (by omega) (fun hlt => by omega)
    | succ d ih => intro i hi; exact h i (by omega) (fun _ => ih (i + 1) (by omega))
  intro i hi
  exact key (n - i) i (by omega)
theorem ev_fill {α β : Type} {g : Nat → List β → Int → Option (List β)} {l : List α} {cv : α → β} {za : α}
    (hstep : ∀ (acc : List β) (i : Nat) (r : List β), i < l.length → acc.length = l.length → Ev (fun k => g k (acc.set i (cv (l.getD i za))) ((i + 1 : Nat) : Int)) r → Ev (fun k => g k acc (i : Int)) r)
    (hend : ∀ acc : List β, acc.length = l.length → Ev (fun k => g k acc (l.length : Int)) acc) (acc : List β) (hacc : acc.length = l.length) : Ev (fun k => g k acc 0) (l.map cv) := by
  have key : ∀ (d i : Nat) (acc : List β), acc.length = l.length → i + d = l.length → Ev (fun k => g k acc (i : Int)) (acc.take i ++ (l.drop i).map cv) := by
    intro d
    induction d with
    | zero =>
      intro i acc ha hi
      obtain rfl : i = l.length := by omega
      refine ev_to (hend acc ha) ?_
      simp [← ha]
    | succ d ih =>
      intro i acc ha hi
      refine hstep acc i _ (by omega) ha (ev_to (ih (i + 1) _ (by simpa using ha) (by omega)) ?_)
      have hl : i < l.length := by omega
      have e : l.getD i za = l[i] := by simp [List.getD_eq_getElem?_getD, List.getElem?_eq_getElem hl]
      rw [List.drop_eq_getElem_cons hl, List.map_cons, e]
      have h2 : (acc.set i (cv l[i])).take (i + 1) = acc.take i ++ [cv l[i]] := by
        rw [List.take_succ_eq_append_getElem (by simp; omega)]
        simp [List.take_set_of_le]
      rw [h2, List.append_assoc]
      rfl
  have := key l.length 0 acc hacc (by omega)
  simpa using this
end Go.Proofs.YtopikhjcbcpiaaaGreatX
end
