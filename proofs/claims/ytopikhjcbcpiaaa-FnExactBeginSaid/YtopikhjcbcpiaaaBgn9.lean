/- Part 9 of the steps by which the law is shown: what each function of the program, of the reference and of the law computes. No condition. -/
import Derived.Test.YtopikhjcbcpiaaaBgn0
import Derived.Test.YtopikhjcbcpiaaaBgn2
import Derived.Test.YtopikhjcbcpiaaaBgn3
import Derived.Test.YtopikhjcbcpiaaaBgn4
import Derived.Test.YtopikhjcbcpiaaaBgn6
import Derived.Test.YtopikhjcbcpiaaaBgn8
section
namespace Go.Proofs.Ytopikhjcbcpiaaa.Q
open Go.RowKit Go.Proofs.YtopikhjcbcpiaaaW.PrintWords Go.Proofs.YtopikhjcbcpiaaaX
def cvDesc (x : S138) : S145 := ⟨x.f0, x.f1, x.f2.map cvEntry, ⟨x.f3.f0, x.f3.f1⟩⟩
def fitD (x : S138) : Prop := x.f2.length ≤ 1048576 ∧ x.f3.f1.length ≤ 1048576
def fitE (x : S145) : Prop := x.f2.length ≤ 1048576 ∧ x.f3.f1.length ≤ 1048576
theorem szResD (c : Int) (l : List Int) (a : Int) (h0 : 0 ≤ a) (h1 : a ≤ 1048576) (hl : l.length ≤ 9223372036854775807) : laws_szRes.f c l a = some (if a < l.length then -1 else a - l.length) := by
  unfold laws_szRes.f
  rw [szIntS l a h0 h1 hl]
  by_cases h : a < l.length
  · simp [h]
  · simp only [if_neg h, Option.bind_some]; rw [if_neg (by omega)]
theorem szDesc_ok (x : S138) (a : Int) (h0 : 0 ≤ a) (h1 : a ≤ 1048576) (h2 : x.f2.length ≤ 9223372036854775807) (h4 : x.f3.f1.length ≤ 9223372036854775807) :
    ∃ r, laws_szDesc.f x.f0 x.f1 x.f2 x.f3.f0 x.f3.f1 a = some r ∧ (r < 0 ∨ (0 ≤ r ∧ r ≤ a ∧ fitD x)) := by
  unfold laws_szDesc.f
  rw [szEntryS x.f2 a h0 h1 h2]
  by_cases h : a < x.f2.length
  · exact ⟨-1, by simp [h], .inl (by omega)⟩
  · simp only [if_neg h, Option.bind_some]
    rw [if_neg (by omega), szResD _ _ _ (by omega) (by omega) h4]
    by_cases h' : a - x.f2.length < x.f3.f1.length
    · exact ⟨-1, by simp [h'], .inl (by omega)⟩
    · simp only [if_neg h', Option.bind_some]
      rw [if_neg (by omega)]
      exact ⟨_, rfl, .inr ⟨by omega, by omega, by unfold fitD; omega⟩⟩
theorem getD_at' {l : List S138} {i : Nat} (h : i < l.length) : l.getD i z138 = l[i] := by simp [List.getD_eq_getElem?_getD, List.getElem?_eq_getElem h]
theorem rd138 {l : List S138} {i : Nat} (h : i < l.length) : rd_T138 l (i : Int) = l[i] := by
  show l.getD (i : Int).toNat z138 = l[i]
  rw [Int.toNat_natCast]; exact getD_at' h
theorem rd145 {l : List S145} {i : Nat} (h : i < l.length) : rd_T145 l (i : Int) = l[i] := by
  show l.getD (i : Int).toNat z145 = l[i]
  rw [Int.toNat_natCast]; simp [List.getD_eq_getElem?_getD, List.getElem?_eq_getElem h]
theorem szDescS_ok (l : List S138) (a : Int) (h0 : 0 ≤ a) (h1 : a ≤ 1048576) (hl : l.length ≤ 9223372036854775807) (ho : ∀ x ∈ l, x.f2.length ≤ 9223372036854775807 ∧ x.f3.f1.length ≤ 9223372036854775807) :
    ∃ r, Ev (fun k => laws_szDescS.f k l a) r ∧ (r < 0 ∨ (0 ≤ r ∧ r ≤ a ∧ l.length ≤ 1048576 ∧ ∀ x ∈ l, fitD x)) := by
  unfold laws_szDescS.f
  rw [wrap_in (by omega) (by omega)]
  by_cases h : a - l.length < 0
  · exact ⟨-1, ev_pos h (Ev.now _), .inl (by omega)⟩
  · have key : ∀ (d i : Nat) (b : Int), i + d = l.length → 0 ≤ b → b ≤ 1048576 → ∃ r, Ev (fun k => laws_szDescS.l0 k l b (i : Int)) r ∧ (r < 0 ∨ (0 ≤ r ∧ r ≤ b ∧ ∀ x ∈ l.drop i, fitD x)) := by
      intro d
      induction d with
      | zero =>
        intro i b hi hb0 hb1
        refine ⟨b, ev_succ (fun k => ?_), .inr ⟨hb0, by omega, fun x hx => ?_⟩⟩
        · simp only [laws_szDescS.l0]; rw [if_neg (by omega)]
        · rw [List.drop_eq_nil_of_le (by omega)] at hx; cases hx
      | succ d ih =>
        intro i b hi hb0 hb1
        have hlt : i < l.length := by omega
        have hm := ho _ (List.getElem_mem hlt)
        obtain ⟨r, hr, hcase⟩ := szDesc_ok l[i] b hb0 hb1 hm.1 hm.2
        rcases hcase with hneg | ⟨hr0, hr1, hfit⟩
        · refine ⟨-1, ev_succ (fun k => ?_), .inl (by omega)⟩
          simp only [laws_szDescS.l0, rd138 hlt]
          rw [if_pos (by omega), if_pos (by omega), hr]
          simp only [Option.bind_some]
          rw [if_pos hneg]
        · obtain ⟨q, hq, hc⟩ := ih (i + 1) r (by omega) hr0 (by omega)
          refine ⟨q, Ev.step (fun k => ?_) hq, ?_⟩
          · simp only [laws_szDescS.l0, rd138 hlt]
            rw [if_pos (by omega), if_pos (by omega), hr]
            simp only [Option.bind_some]
            rw [if_neg (by omega), wrap_succ hlt (by omega)]
          · rcases hc with hc | ⟨c0, c1, c2⟩
            · exact .inl hc
            · refine .inr ⟨c0, by omega, fun x hx => ?_⟩
              rw [List.drop_eq_getElem_cons hlt] at hx
              rcases List.mem_cons.1 hx with rfl | hx
              · exact hfit
              · exact c2 x hx
    obtain ⟨r, hr, hc⟩ := key l.length 0 (a - l.length) (by omega) (by omega) (by omega)
    refine ⟨r, ev_neg h hr, ?_⟩
    rcases hc with hc | ⟨c0, c1, c2⟩
    · exact .inl hc
    · exact .inr ⟨c0, by omega, by omega, fun x hx => c2 x (by simpa using hx)⟩
theorem ev_toResD (c : Int) (l : List Int) (h : l.length ≤ 1048576) : Ev (fun k => laws_toRes.f k c l) (c, l) := Ev.bind (f := fun _ t => some (c, t)) (ev_toIntS l h) (Ev.now _)
theorem ev_toDesc (x : S138) (h : fitD x) : Ev (fun k => laws_toDesc.f k x.f0 x.f1 x.f2 x.f3.f0 x.f3.f1) (x.f0, x.f1, x.f2.map cvEntry, x.f3.f0, x.f3.f1) :=
  Ev.bind (f := fun k t346 => (laws_toRes.f k x.f3.f0 x.f3.f1).bind fun bt349 => some (x.f0, x.f1, t346, bt349.1, bt349.2)) (ev_toEntryS x.f2 h.1)
    (Ev.bind (f := fun _ (bt : Int × List Int) => some (x.f0, x.f1, x.f2.map cvEntry, bt.1, bt.2)) (ev_toResD _ _ h.2) (Ev.now _))
theorem ev_toDescS (l : List S138) (hl : l.length ≤ 1048576) (hf : ∀ x ∈ l, fitD x) : Ev (fun k => laws_toDescS.f k l) (l.map cvDesc) := by
  unfold laws_toDescS.f
  refine ev_pos (by omega) (ev_pos (by omega) ?_)
  refine ev_fill (g := fun k acc i => laws_toDescS.l0 k l acc i) (za := z138) ?_ ?_ _ (by simp)
  · intro acc i r hi hacc h
    have ht := ev_toDesc l[i] (hf _ (List.getElem_mem hi))
    rw [getD_at' hi] at h
    refine Ev.step (f := fun k => (laws_toDesc.f k l[i].f0 l[i].f1 l[i].f2 l[i].f3.f0 l[i].f3.f1).bind fun bt => laws_toDescS.l0 k l (acc.set i (⟨bt.1, bt.2.1, bt.2.2.1, (⟨bt.2.2.2.1, bt.2.2.2.2⟩ : S70)⟩ : S145)) ((i + 1 : Nat) : Int)) (fun k => ?_) (Ev.bind ht h)
    simp only [laws_toDescS.l0, rd138 hi]
    rw [if_pos (by omega), if_pos (by omega), wrap_succ hi (by omega)]
    congr 1
    funext bt
    rw [if_pos (by omega)]
    rfl
  · intro acc hacc
    refine ev_succ (fun k => ?_)
    simp only [laws_toDescS.l0]
    rw [if_neg (by omega)]
theorem ev_eqResD (c : Int) (l : List Int) (h : l.length ≤ 1048576) : Ev (fun k => laws_eqRes.f k c l c l) true := by
  unfold laws_eqRes.f
  exact ev_pos rfl (Ev.bind (f := fun _ t => if t = true then some true else some false) (ev_eqIntS l h) (ev_of fun k => by simp))
theorem ev_eqDesc (x : S145) (h : fitE x) : Ev (fun k => laws_eqDesc.f k x.f0 x.f1 x.f2 x.f3.f0 x.f3.f1 x.f0 x.f1 x.f2 x.f3.f0 x.f3.f1) true := by
  unfold laws_eqDesc.f
  refine ev_pos rfl (ev_pos rfl (Ev.bind (ev_eqEntryS x.f2 h.1) (ev_pos rfl (Ev.bind (ev_eqResD _ _ h.2) (ev_pos rfl (Ev.now _))))))
theorem ev_eqDescS (l : List S145) (hl : l.length ≤ 1048576) (hf : ∀ x ∈ l, fitE x) : Ev (fun k => laws_eqDescS.f k l l) true := by
  unfold laws_eqDescS.f
  refine ev_pos rfl ?_
  refine ev_down (g := fun k i => laws_eqDescS.l0 k l l i) (R := fun _ => true) (n := l.length) ?_ 0 (by omega)
  intro i hi h
  by_cases hlt : i < l.length
  · have he := ev_eqDesc l[i] (hf _ (List.getElem_mem hlt))
    refine Ev.step (f := fun k => (laws_eqDesc.f k l[i].f0 l[i].f1 l[i].f2 l[i].f3.f0 l[i].f3.f1 l[i].f0 l[i].f1 l[i].f2 l[i].f3.f0 l[i].f3.f1).bind fun t => if t = true then laws_eqDescS.l0 k l l ((i + 1 : Nat) : Int) else some false) (fun k => ?_) (Ev.bind he (ev_pos rfl (h hlt)))
    simp only [laws_eqDescS.l0, rd145 hlt]
    rw [if_pos (by omega), if_pos (by omega), if_pos (by omega), wrap_succ hlt (by omega)]
  · refine ev_succ (fun k => ?_)
    simp only [laws_eqDescS.l0]
    rw [if_neg (by omega)]
theorem fitE_cv {l : List S138} (hf : ∀ x ∈ l, fitD x) : ∀ x ∈ l.map cvDesc, fitE x := by
  intro x hx
  obtain ⟨y, hy, rfl⟩ := List.mem_map.1 hx
  have := hf y hy
  exact ⟨by simpa [cvDesc] using this.1, this.2⟩
end Go.Proofs.Ytopikhjcbcpiaaa.Q
end
namespace Go.Proofs.Ytopikhjcbcpiaaa.Q
open Go.RowKit Go.Proofs.YtopikhjcbcpiaaaW.PrintWords Go.Proofs.YtopikhjcbcpiaaaW.PrintLast Go.Proofs.YtopikhjcbcpiaaaW.PrintMore
attribute [local go_sem] max2_int min2_int max_two min_two max_three min_three max_four min_four   -- for this text's walks alone
set_option linter.unusedVariables false
set_option linter.unusedSimpArgs false
def laws_eqMem.f (k : Nat) (l0_0 : List (S141)) (l0_1 : List (S145)) (l1_0 : List (S141)) (l1_1 : List (S145)) : Option (Bool) := (laws_eqWordS.f k l0_0 l1_0).bind fun t1140 => (if t1140 = true then ((laws_eqDescS.f k l0_1 l1_1).bind fun t1141 => (if t1141 = true then (some true) else (some false))) else (some false))
set_option maxHeartbeats 8000000 in
set_option maxRecDepth 100000 in
theorem laws_eqMem.calls (k : Nat) (A0_0 : Option Addr) (c0_0 : Nat) (l0_0 : List (S141)) (A0_1 : Option Addr) (c0_1 : Nat) (l0_1 : List (S145)) (A1_0 : Option Addr) (c1_0 : Nat) (l1_0 : List (S141)) (A1_1 : Option Addr) (c1_1 : Nat) (l1_1 : List (S145)) (r : Bool) (w : World) (hr0_0 : Kd.C k141 w A0_0 l0_0.length l0_0) (hc0_0 : l0_0.length ≤ c0_0) (hr0_1 : Kd.C k145 w A0_1 l0_1.length l0_1) (hc0_1 : l0_1.length ≤ c0_1) (hr1_0 : Kd.C k141 w A1_0 l1_0.length l1_0) (hc1_0 : l1_0.length ≤ c1_0) (hr1_1 : Kd.C k145 w A1_1 l1_1.length l1_1) (hc1_1 : l1_1.length ≤ c1_1) (h : laws_eqMem.f k l0_0 l0_1 l1_0 l1_1 = some r) :
  Calls Try.prog 58 #[.agg #[.slice A0_0 l0_0.length c0_0, .slice A0_1 l0_1.length c0_1], .agg #[.slice A1_0 l1_0.length c1_0, .slice A1_1 l1_1.length c1_1]] w fun e w' => e = .returned (.bool r) ∧ Below w.heap.size w w' := by
 have hu88 := Try.underlying88
 have HR0_0 := Aside0.mk hr0_0
 have HC0_0 := Aside0.mk hc0_0
 clear hr0_0 hc0_0
 have HR0_1 := Aside0.mk hr0_1
 have HC0_1 := Aside0.mk hc0_1
 clear hr0_1 hc0_1
 have HR1_0 := Aside0.mk hr1_0
 have HC1_0 := Aside0.mk hc1_0
 clear hr1_0 hc1_0
 have HR1_1 := Aside0.mk hr1_1
 have HC1_1 := Aside0.mk hc1_1
 clear hr1_1 hc1_1
 have HB := Aside0.mk (Below.refl w.heap.size w)
 have H := h
 clear h
 unfold laws_eqMem.f at H
 obtain ⟨t1140, A3, H⟩ := bn H
 try dsimp only at H
 cases t1140
 case false =>
  replace H := ipf H
  obtain rfl := oin H
  go_enter Try.func58, Try.ntmps58
  go_wp2_with (first | ((with_reducible refine gq 2 rfl ?_); refine bx0 HB (N := 2) (t := 88) ?_; clear HB; intro gb1138 w25 BK1138 GE1138 HB) | ((with_reducible refine gq 3 rfl ?_); refine bx1 HB BK1138 (N := 3) (t := 88) ?_; clear HB BK1138; intro gb1139 w26 BK1139 GE1139 HB NB1138_1139 NB1139_1138 BK1138; have hnb27 := NB1138_1139.out; have hnc27 := NB1139_1138.out; have hz28 := cs2_ BK1138; have hz29 := cs2_ BK1139) | ((with_reducible refine gf 26 rfl ?_); refine gL 9 Try.func26 #[.slice A0_0 l0_0.length c0_0, .slice A1_0 l1_0.length c1_0] ?_; (with_reducible refine (laws_eqWordS.calls k _ _ l0_0 _ _ l1_0 false _ (kc HR0_0 HB) HC0_0.out (kc HR1_0 HB) HC1_0.out A3.out).mono ?_); rintro e w30 ⟨rfl, hb⟩; refine ⟨_, rfl, ?_⟩; replace BK1138 := bb BK1138 hb; replace BK1139 := bb BK1139 hb; replace HB := bs HB hb; (try clear hb)))
  go_ret
  exact ⟨er, tb HB⟩
 replace H := ipt H
 obtain ⟨t1141, A5, H⟩ := bn H
 try dsimp only at H
 cases t1141
 case true =>
  replace H := ipt H
  obtain rfl := oin H
  go_enter Try.func58, Try.ntmps58
  go_wp2_with (first | ((with_reducible refine gq 2 rfl ?_); refine bx0 HB (N := 2) (t := 88) ?_; clear HB; intro gb1138 w7 BK1138 GE1138 HB) | ((with_reducible refine gq 3 rfl ?_); refine bx1 HB BK1138 (N := 3) (t := 88) ?_; clear HB BK1138; intro gb1139 w8 BK1139 GE1139 HB NB1138_1139 NB1139_1138 BK1138; have hnb9 := NB1138_1139.out; have hnc9 := NB1139_1138.out; have hz10 := cs2_ BK1138; have hz11 := cs2_ BK1139) | ((with_reducible refine gf 26 rfl ?_); refine gL 9 Try.func26 #[.slice A0_0 l0_0.length c0_0, .slice A1_0 l1_0.length c1_0] ?_; (with_reducible refine (laws_eqWordS.calls k _ _ l0_0 _ _ l1_0 true _ (kc HR0_0 HB) HC0_0.out (kc HR1_0 HB) HC1_0.out A3.out).mono ?_); rintro e w12 ⟨rfl, hb⟩; refine ⟨_, rfl, ?_⟩; replace BK1138 := bb BK1138 hb; replace BK1139 := bb BK1139 hb; replace HB := bs HB hb; (try clear hb); have hz13 := cs2_ BK1138; have hz14 := cs2_ BK1139) | ((with_reducible refine gf 27 rfl ?_); refine gL 15 Try.func27 #[.slice A0_1 l0_1.length c0_1, .slice A1_1 l1_1.length c1_1] ?_; (with_reducible refine (laws_eqDescS.calls k _ _ l0_1 _ _ l1_1 true _ (kc HR0_1 HB) HC0_1.out (kc HR1_1 HB) HC1_1.out A5.out).mono ?_); rintro e w15 ⟨rfl, hb⟩; refine ⟨_, rfl, ?_⟩; replace BK1138 := bb BK1138 hb; replace BK1139 := bb BK1139 hb; replace HB := bs HB hb; (try clear hb)))
  go_ret
  exact ⟨er, tb HB⟩
 replace H := ipf H
 obtain rfl := oin H
 go_enter Try.func58, Try.ntmps58
 go_wp2_with (first | ((with_reducible refine gq 2 rfl ?_); refine bx0 HB (N := 2) (t := 88) ?_; clear HB; intro gb1138 w16 BK1138 GE1138 HB) | ((with_reducible refine gq 3 rfl ?_); refine bx1 HB BK1138 (N := 3) (t := 88) ?_; clear HB BK1138; intro gb1139 w17 BK1139 GE1139 HB NB1138_1139 NB1139_1138 BK1138; have hnb18 := NB1138_1139.out; have hnc18 := NB1139_1138.out; have hz19 := cs2_ BK1138; have hz20 := cs2_ BK1139) | ((with_reducible refine gf 26 rfl ?_); refine gL 9 Try.func26 #[.slice A0_0 l0_0.length c0_0, .slice A1_0 l1_0.length c1_0] ?_; (with_reducible refine (laws_eqWordS.calls k _ _ l0_0 _ _ l1_0 true _ (kc HR0_0 HB) HC0_0.out (kc HR1_0 HB) HC1_0.out A3.out).mono ?_); rintro e w21 ⟨rfl, hb⟩; refine ⟨_, rfl, ?_⟩; replace BK1138 := bb BK1138 hb; replace BK1139 := bb BK1139 hb; replace HB := bs HB hb; (try clear hb); have hz22 := cs2_ BK1138; have hz23 := cs2_ BK1139) | ((with_reducible refine gf 27 rfl ?_); refine gL 15 Try.func27 #[.slice A0_1 l0_1.length c0_1, .slice A1_1 l1_1.length c1_1] ?_; (with_reducible refine (laws_eqDescS.calls k _ _ l0_1 _ _ l1_1 false _ (kc HR0_1 HB) HC0_1.out (kc HR1_1 HB) HC1_1.out A5.out).mono ?_); rintro e w24 ⟨rfl, hb⟩; refine ⟨_, rfl, ?_⟩; replace BK1138 := bb BK1138 hb; replace BK1139 := bb BK1139 hb; replace HB := bs HB hb; (try clear hb)))
 go_ret
 exact ⟨er, tb HB⟩
end Go.Proofs.Ytopikhjcbcpiaaa.Q
section
namespace Go.Proofs.Ytopikhjcbcpiaaa.Q
open Go.RowKit Go.Proofs.YtopikhjcbcpiaaaW.PrintWords Go.Proofs.YtopikhjcbcpiaaaW.PrintLast Go.Proofs.YtopikhjcbcpiaaaW.PrintMore
def anyO {α : Type} (p : α → Option Bool) : List α → Option Bool
  | [] => some false
  | x :: xs => (p x).bind fun b => if b = true then some true else anyO p xs
theorem anyO.leo {α : Type} {p q : α → Option Bool} (h : ∀ x, LeO (p x) (q x)) : ∀ l, LeO (anyO p l) (anyO q l)
  | [] => LeO.refl _
  | x :: xs => LeO.bind (h x) (fun _ => LeO.ite (LeO.refl _) (anyO.leo h xs))
theorem anyO.cons {α : Type} {p : α → Option Bool} {l : List α} {j : Nat} {z : α} {r : Bool} (h : anyO p (l.drop j) = some r) (hj : j < l.length) :
    ∃ b, p (l.getD j z) = some b ∧ (b = true → r = true) ∧ (b = false → anyO p (l.drop (j + 1)) = some r) := by
  have e : l.drop j = l.getD j z :: l.drop (j + 1) := by
    rw [List.drop_eq_getElem_cons hj]
    simp [List.getD_eq_getElem?_getD, List.getElem?_eq_getElem hj]
  rw [e] at h
  obtain ⟨b, hb, h2⟩ := Option.bind_eq_some_iff.mp h
  refine ⟨b, hb, ?_, ?_⟩
  · rintro rfl
    simpa using h2.symm
  · rintro rfl
    simpa using h2
theorem anyO.nil {α : Type} {p : α → Option Bool} {l : List α} {j : Nat} {r : Bool} (h : anyO p (l.drop j) = some r) (hj : l.length ≤ j) : r = false := by
  rw [List.drop_eq_nil_of_le hj] at h
  simpa [anyO] using h.symm
def impl_MemOk_1_any.f (k : Nat) (l0 : List S145) : Option Bool := anyO (fun x : S145 => impl_MemOk_1.f k x.f0 x.f1 x.f2 x.f3.f0 x.f3.f1) l0
theorem impl_MemOk_1_any.mono : ∀ l k, LeO (impl_MemOk_1_any.f k l) (impl_MemOk_1_any.f (k + 1) l) := fun l k => anyO.leo (fun _ => impl_MemOk_1.mono _ _ _ _ _ k) l
set_option maxHeartbeats 4000000 in
set_option maxRecDepth 100000 in
theorem impl_MemOk_1_idx (k : Nat) (A0 : Option Addr) (c0 : Nat) (l0 : List S145) (r : Bool) (w : World) (hr0 : Kd.C k145 w A0 l0.length l0) (h : impl_MemOk_1_any.f k l0 = some r) :
    Calls Try.prog 195 #[.slice A0 l0.length c0, .func (.func 181) #[] #[]] w fun e w' => ∃ n : Int, e = .returned (.int .i64 n) ∧ decide (n ≥ 0) = r ∧ Below w.heap.size w w' := by
  have huE := Try.underlying145
  have HR0 := Aside0.mk hr0
  have HM : l0.length ≤ 9223372036854775807 := hr0.2.1
  clear hr0
  have H0 := Aside0.mk h
  clear h
  have HW := Aside0.mk (Below.refl w.heap.size w)
  go_enter Try.func195, Try.ntmps195
  go_wp2
  go_loopg [5, 8] l0.length (fun gg _ s8 wr => ∃ kk : Nat, kk ≤ l0.length ∧ Aside0 (l0.length - kk ≤ gg) ∧ s8 = .int .i64 kk ∧ Aside0 (anyO (fun x : S145 => impl_MemOk_1.f k x.f0 x.f1 x.f2 x.f3.f0 x.f3.f1) (l0.drop kk) = some r) ∧ Aside0 (Below w.heap.size w wr))
  case atStart => exact ⟨0, Nat.zero_le _, ⟨by omega⟩, rfl, H0, HW⟩
  case round =>
    obtain ⟨kk, hkk, HF, rfl, HA, HB⟩ := hrel
    clear H0 HW
    by_cases hlt : kk < l0.length
    · have hltz : (kk : Int) < (l0.length : Int) := by omega
      obtain ⟨ad, A2, c2, A4, c4, e, hx0, hx1, hx2, hx3, hx4, hl2, hi2, hl4, hi4⟩ := at_T145 HR0.out (kk : Int) (by omega) hltz
      cases e
      replace hx0 := (HB.out.cell (World.block_lt_of_cell? w _ hx0)).trans hx0
      replace hx1 := (HB.out.cell (World.block_lt_of_cell? w _ hx1)).trans hx1
      replace hx2 := (HB.out.cell (World.block_lt_of_cell? w _ hx2)).trans hx2
      replace hx3 := (HB.out.cell (World.block_lt_of_cell? w _ hx3)).trans hx3
      replace hx4 := (HB.out.cell (World.block_lt_of_cell? w _ hx4)).trans hx4
      replace hi2 := Kd.C_below hi2 HB.out
      replace hi4 := Kd.C_below hi4 HB.out
      simp only [Int.toNat_natCast] at hx0 hx1 hx2 hx3 hx4
      have HI2 := Aside0.mk hi2
      have HL2 := Aside0.mk hl2
      clear hi2 hl2
      have HI4 := Aside0.mk hi4
      have HL4 := Aside0.mk hl4
      clear hi4 hl4
      obtain ⟨b, hb, ht, hf⟩ := anyO.cons (z := z145) HA.out hlt
      have hb := Aside0.mk (show impl_MemOk_1.f k (rd_T145 l0 (kk : Int)).f0 (rd_T145 l0 (kk : Int)).f1 (rd_T145 l0 (kk : Int)).f2 (rd_T145 l0 (kk : Int)).f3.f0 (rd_T145 l0 (kk : Int)).f3.f1 = some b from hb)
      replace ht := Aside0.mk ht
      replace hf := Aside0.mk hf
      clear HA
      cases b with
      | true =>
        have HT := Aside0.mk (ht.out rfl)
        clear ht hf
        go_wp2_with (go_at_call 181; (with_reducible refine (impl_MemOk_1.calls k (rd_T145 l0 (kk : Int)).f0 (rd_T145 l0 (kk : Int)).f1 _ _ (rd_T145 l0 (kk : Int)).f2 (rd_T145 l0 (kk : Int)).f3.f0 _ _ (rd_T145 l0 (kk : Int)).f3.f1 _ _ HI2.out HL2.out HI4.out HL4.out hb.out).mono ?_); rintro e w' ⟨rfl, hb'⟩; have HB' := Aside0.mk (below_step HB.out hb'); clear hb')
        go_ret
        exact ⟨_, rfl, by rw [HT.out]; simp, HB'.out⟩
      | false =>
        have HA := Aside0.mk (hf.out rfl)
        clear ht hf
        go_wp2_with (go_at_call 181; (with_reducible refine (impl_MemOk_1.calls k (rd_T145 l0 (kk : Int)).f0 (rd_T145 l0 (kk : Int)).f1 _ _ (rd_T145 l0 (kk : Int)).f2 (rd_T145 l0 (kk : Int)).f3.f0 _ _ (rd_T145 l0 (kk : Int)).f3.f1 _ _ HI2.out HL2.out HI4.out HL4.out hb.out).mono ?_); rintro e w' ⟨rfl, hb'⟩; have HB' := Aside0.mk (below_step HB.out hb'); clear hb')
        go_roundg (l0.length - (kk + 1))
        case measure => have := HF.out; omega
        case rel => exact ⟨kk + 1, by omega, ⟨by omega⟩, by go_num, HA, HB'⟩
    · have hltz : ¬ (kk : Int) < (l0.length : Int) := by omega
      have hr : r = false := anyO.nil HA.out (by omega)
      subst hr
      go_wp2
      go_ret
      exact ⟨_, rfl, by decide, HB.out⟩
set_option maxHeartbeats 2000000 in
theorem impl_MemOk_1_any.calls (k : Nat) (A0 : Option Addr) (c0 : Nat) (l0 : List S145) (r : Bool) (w : World) (hr0 : Kd.C k145 w A0 l0.length l0) (_hc0 : l0.length ≤ c0) (h : impl_MemOk_1_any.f k l0 = some r) :
    Calls Try.prog 180 #[.slice A0 l0.length c0, .func (.func 181) #[] #[]] w fun e w' => e = .returned (.bool r) ∧ Below w.heap.size w w' := by
  have HC := Aside0.mk (impl_MemOk_1_idx k A0 c0 l0 r w hr0 h)
  clear hr0 h
  go_enter Try.func180, Try.ntmps180
  go_wp2_with (go_at_call 195; refine HC.out.mono ?_; rintro e w' ⟨n, rfl, hn, hb⟩; have HN := Aside0.mk hn; have HB := Aside0.mk hb; clear hn hb)
  go_ret
  exact ⟨by rw [← HN.out]; rfl, HB.out⟩
def impl_ThreadOk_1_any.f (k : Nat) (l0 : List S68) : Option Bool := anyO (fun x : S68 => impl_ThreadOk_1.f k x.f0 x.f1 x.f2) l0
theorem impl_ThreadOk_1_any.mono : ∀ l k, LeO (impl_ThreadOk_1_any.f k l) (impl_ThreadOk_1_any.f (k + 1) l) := fun l k => anyO.leo (fun _ => impl_ThreadOk_1.mono _ _ _ k) l
set_option maxHeartbeats 4000000 in
set_option maxRecDepth 100000 in
theorem impl_ThreadOk_1_idx (k : Nat) (A0 : Option Addr) (c0 : Nat) (l0 : List S68) (r : Bool) (w : World) (hr0 : Kd.C k68 w A0 l0.length l0) (h : impl_ThreadOk_1_any.f k l0 = some r) :
    Calls Try.prog 151 #[.slice A0 l0.length c0, .func (.func 84) #[] #[]] w fun e w' => ∃ n : Int, e = .returned (.int .i64 n) ∧ decide (n ≥ 0) = r ∧ Below w.heap.size w w' := by
  have huE := Try.underlying68
  have HR0 := Aside0.mk hr0
  have HM : l0.length ≤ 9223372036854775807 := hr0.2.1
  clear hr0
  have H0 := Aside0.mk h
  clear h
  have HW := Aside0.mk (Below.refl w.heap.size w)
  go_enter Try.func151, Try.ntmps151
  go_wp2
  go_loopg [5, 8] l0.length (fun gg _ s8 wr => ∃ kk : Nat, kk ≤ l0.length ∧ Aside0 (l0.length - kk ≤ gg) ∧ s8 = .int .i64 kk ∧ Aside0 (anyO (fun x : S68 => impl_ThreadOk_1.f k x.f0 x.f1 x.f2) (l0.drop kk) = some r) ∧ Aside0 (Below w.heap.size w wr))
  case atStart => exact ⟨0, Nat.zero_le _, ⟨by omega⟩, rfl, H0, HW⟩
  case round =>
    obtain ⟨kk, hkk, HF, rfl, HA, HB⟩ := hrel
    clear H0 HW
    by_cases hlt : kk < l0.length
    · have hltz : (kk : Int) < (l0.length : Int) := by omega
      obtain ⟨ad, e, hx0, hx1, hx2⟩ := at_T68 HR0.out (kk : Int) (by omega) hltz
      cases e
      replace hx0 := (HB.out.cell (World.block_lt_of_cell? w _ hx0)).trans hx0
      replace hx1 := (HB.out.cell (World.block_lt_of_cell? w _ hx1)).trans hx1
      replace hx2 := (HB.out.cell (World.block_lt_of_cell? w _ hx2)).trans hx2
      simp only [Int.toNat_natCast] at hx0 hx1 hx2
      obtain ⟨b, hb, ht, hf⟩ := anyO.cons (z := z68) HA.out hlt
      have hb := Aside0.mk (show impl_ThreadOk_1.f k (rd_T68 l0 (kk : Int)).f0 (rd_T68 l0 (kk : Int)).f1 (rd_T68 l0 (kk : Int)).f2 = some b from hb)
      replace ht := Aside0.mk ht
      replace hf := Aside0.mk hf
      clear HA
      cases b with
      | true =>
        have HT := Aside0.mk (ht.out rfl)
        clear ht hf
        go_wp2_with (go_at_call 84; (with_reducible refine (impl_ThreadOk_1.calls k (rd_T68 l0 (kk : Int)).f0 (rd_T68 l0 (kk : Int)).f1 (rd_T68 l0 (kk : Int)).f2 _ _  hb.out).mono ?_); rintro e w' ⟨rfl, hb'⟩; have HB' := Aside0.mk (below_step HB.out hb'); clear hb')
        go_ret
        exact ⟨_, rfl, by rw [HT.out]; simp, HB'.out⟩
      | false =>
        have HA := Aside0.mk (hf.out rfl)
        clear ht hf
        go_wp2_with (go_at_call 84; (with_reducible refine (impl_ThreadOk_1.calls k (rd_T68 l0 (kk : Int)).f0 (rd_T68 l0 (kk : Int)).f1 (rd_T68 l0 (kk : Int)).f2 _ _  hb.out).mono ?_); rintro e w' ⟨rfl, hb'⟩; have HB' := Aside0.mk (below_step HB.out hb'); clear hb')
        go_roundg (l0.length - (kk + 1))
        case measure => have := HF.out; omega
        case rel => exact ⟨kk + 1, by omega, ⟨by omega⟩, by go_num, HA, HB'⟩
    · have hltz : ¬ (kk : Int) < (l0.length : Int) := by omega
      have hr : r = false := anyO.nil HA.out (by omega)
      subst hr
      go_wp2
      go_ret
      exact ⟨_, rfl, by decide, HB.out⟩
set_option maxHeartbeats 2000000 in
theorem impl_ThreadOk_1_any.calls (k : Nat) (A0 : Option Addr) (c0 : Nat) (l0 : List S68) (r : Bool) (w : World) (hr0 : Kd.C k68 w A0 l0.length l0) (_hc0 : l0.length ≤ c0) (h : impl_ThreadOk_1_any.f k l0 = some r) :
    Calls Try.prog 83 #[.slice A0 l0.length c0, .func (.func 84) #[] #[]] w fun e w' => e = .returned (.bool r) ∧ Below w.heap.size w w' := by
  have HC := Aside0.mk (impl_ThreadOk_1_idx k A0 c0 l0 r w hr0 h)
  clear hr0 h
  go_enter Try.func83, Try.ntmps83
  go_wp2_with (go_at_call 151; refine HC.out.mono ?_; rintro e w' ⟨n, rfl, hn, hb⟩; have HN := Aside0.mk hn; have HB := Aside0.mk hb; clear hn hb)
  go_ret
  exact ⟨by rw [← HN.out]; rfl, HB.out⟩
def impl_ThreadOk_2_any.f (l0 : List S123) : Option Bool := anyO (fun x : S123 => impl_ThreadOk_2.f x.f0 x.f1) l0
set_option maxHeartbeats 4000000 in
set_option maxRecDepth 100000 in
theorem impl_ThreadOk_2_idx (A0 : Option Addr) (c0 : Nat) (l0 : List S123) (r : Bool) (w : World) (hr0 : Kd.C k123 w A0 l0.length l0) (h : impl_ThreadOk_2_any.f l0 = some r) :
    Calls Try.prog 152 #[.slice A0 l0.length c0, .func (.func 87) #[] #[]] w fun e w' => ∃ n : Int, e = .returned (.int .i64 n) ∧ decide (n ≥ 0) = r ∧ Below w.heap.size w w' := by
  have huE := Try.underlying123
  have HR0 := Aside0.mk hr0
  have HM : l0.length ≤ 9223372036854775807 := hr0.2.1
  clear hr0
  have H0 := Aside0.mk h
  clear h
  have HW := Aside0.mk (Below.refl w.heap.size w)
  go_enter Try.func152, Try.ntmps152
  go_wp2
  go_loopg [5, 8] l0.length (fun gg _ s8 wr => ∃ kk : Nat, kk ≤ l0.length ∧ Aside0 (l0.length - kk ≤ gg) ∧ s8 = .int .i64 kk ∧ Aside0 (anyO (fun x : S123 => impl_ThreadOk_2.f x.f0 x.f1) (l0.drop kk) = some r) ∧ Aside0 (Below w.heap.size w wr))
  case atStart => exact ⟨0, Nat.zero_le _, ⟨by omega⟩, rfl, H0, HW⟩
  case round =>
    obtain ⟨kk, hkk, HF, rfl, HA, HB⟩ := hrel
    clear H0 HW
    by_cases hlt : kk < l0.length
    · have hltz : (kk : Int) < (l0.length : Int) := by omega
      obtain ⟨ad, e, hx0, hx1⟩ := at_T123 HR0.out (kk : Int) (by omega) hltz
      cases e
      replace hx0 := (HB.out.cell (World.block_lt_of_cell? w _ hx0)).trans hx0
      replace hx1 := (HB.out.cell (World.block_lt_of_cell? w _ hx1)).trans hx1
      simp only [Int.toNat_natCast] at hx0 hx1
      obtain ⟨b, hb, ht, hf⟩ := anyO.cons (z := z123) HA.out hlt
      have hb := Aside0.mk (show impl_ThreadOk_2.f (rd_T123 l0 (kk : Int)).f0 (rd_T123 l0 (kk : Int)).f1 = some b from hb)
      replace ht := Aside0.mk ht
      replace hf := Aside0.mk hf
      clear HA
      cases b with
      | true =>
        have HT := Aside0.mk (ht.out rfl)
        clear ht hf
        go_wp2_with (go_at_call 87; (with_reducible refine (impl_ThreadOk_2.calls (rd_T123 l0 (kk : Int)).f0 (rd_T123 l0 (kk : Int)).f1 _ _  hb.out).mono ?_); rintro e w' ⟨rfl, hb'⟩; have HB' := Aside0.mk (below_step HB.out hb'); clear hb')
        go_ret
        exact ⟨_, rfl, by rw [HT.out]; simp, HB'.out⟩
      | false =>
        have HA := Aside0.mk (hf.out rfl)
        clear ht hf
        go_wp2_with (go_at_call 87; (with_reducible refine (impl_ThreadOk_2.calls (rd_T123 l0 (kk : Int)).f0 (rd_T123 l0 (kk : Int)).f1 _ _  hb.out).mono ?_); rintro e w' ⟨rfl, hb'⟩; have HB' := Aside0.mk (below_step HB.out hb'); clear hb')
        go_roundg (l0.length - (kk + 1))
        case measure => have := HF.out; omega
        case rel => exact ⟨kk + 1, by omega, ⟨by omega⟩, by go_num, HA, HB'⟩
    · have hltz : ¬ (kk : Int) < (l0.length : Int) := by omega
      have hr : r = false := anyO.nil HA.out (by omega)
      subst hr
      go_wp2
      go_ret
      exact ⟨_, rfl, by decide, HB.out⟩
set_option maxHeartbeats 2000000 in
theorem impl_ThreadOk_2_any.calls (A0 : Option Addr) (c0 : Nat) (l0 : List S123) (r : Bool) (w : World) (hr0 : Kd.C k123 w A0 l0.length l0) (_hc0 : l0.length ≤ c0) (h : impl_ThreadOk_2_any.f l0 = some r) :
    Calls Try.prog 86 #[.slice A0 l0.length c0, .func (.func 87) #[] #[]] w fun e w' => e = .returned (.bool r) ∧ Below w.heap.size w w' := by
  have HC := Aside0.mk (impl_ThreadOk_2_idx A0 c0 l0 r w hr0 h)
  clear hr0 h
  go_enter Try.func86, Try.ntmps86
  go_wp2_with (go_at_call 152; refine HC.out.mono ?_; rintro e w' ⟨n, rfl, hn, hb⟩; have HN := Aside0.mk hn; have HB := Aside0.mk hb; clear hn hb)
  go_ret
  exact ⟨by rw [← HN.out]; rfl, HB.out⟩
def impl_ThreadOk_3_any.f (l0 : List S100) (a1 : Int) : Option Bool := anyO (fun x : S100 => impl_ThreadOk_3.f x.f0 x.f1 x.f2 x.f3 a1) l0
set_option maxHeartbeats 4000000 in
set_option maxRecDepth 100000 in
theorem impl_ThreadOk_3_idx (A0 : Option Addr) (c0 : Nat) (l0 : List S100) (g1 : Nat) (a1 : Int) (r : Bool) (w : World) (hr0 : Kd.C k100 w A0 l0.length l0) (hg1 : w.heap[g1]? = some (.cells #[.int .i64 a1] 3 (0, 0))) (h : impl_ThreadOk_3_any.f l0 a1 = some r) :
    Calls Try.prog 153 #[.slice A0 l0.length c0, .func (.func 91) #[] #[.pointer (some ⟨g1, 0, none⟩)]] w fun e w' => ∃ n : Int, e = .returned (.int .i64 n) ∧ decide (n ≥ 0) = r ∧ Below w.heap.size w w' := by
  have huE := Try.underlying100
  have HR0 := Aside0.mk hr0
  have HM : l0.length ≤ 9223372036854775807 := hr0.2.1
  have HG : ∀ W, Below w.heap.size w W → W.heap[g1]? = some (.cells #[.int .i64 a1] 3 (0, 0)) := fun W hW => blk_below hg1 hW
  clear hg1
  clear hr0
  have H0 := Aside0.mk h
  clear h
  have HW := Aside0.mk (Below.refl w.heap.size w)
  go_enter Try.func153, Try.ntmps153
  go_wp2
  go_loopg [5, 8] l0.length (fun gg _ s8 wr => ∃ kk : Nat, kk ≤ l0.length ∧ Aside0 (l0.length - kk ≤ gg) ∧ s8 = .int .i64 kk ∧ Aside0 (anyO (fun x : S100 => impl_ThreadOk_3.f x.f0 x.f1 x.f2 x.f3 a1) (l0.drop kk) = some r) ∧ Aside0 (Below w.heap.size w wr))
  case atStart => exact ⟨0, Nat.zero_le _, ⟨by omega⟩, rfl, H0, HW⟩
  case round =>
    obtain ⟨kk, hkk, HF, rfl, HA, HB⟩ := hrel
    clear H0 HW
    by_cases hlt : kk < l0.length
    · have hltz : (kk : Int) < (l0.length : Int) := by omega
      obtain ⟨ad, e, hx0, hx1, hx2, hx3⟩ := at_T100 HR0.out (kk : Int) (by omega) hltz
      cases e
      replace hx0 := (HB.out.cell (World.block_lt_of_cell? w _ hx0)).trans hx0
      replace hx1 := (HB.out.cell (World.block_lt_of_cell? w _ hx1)).trans hx1
      replace hx2 := (HB.out.cell (World.block_lt_of_cell? w _ hx2)).trans hx2
      replace hx3 := (HB.out.cell (World.block_lt_of_cell? w _ hx3)).trans hx3
      simp only [Int.toNat_natCast] at hx0 hx1 hx2 hx3
      obtain ⟨b, hb, ht, hf⟩ := anyO.cons (z := z100) HA.out hlt
      have hb := Aside0.mk (show impl_ThreadOk_3.f (rd_T100 l0 (kk : Int)).f0 (rd_T100 l0 (kk : Int)).f1 (rd_T100 l0 (kk : Int)).f2 (rd_T100 l0 (kk : Int)).f3 a1 = some b from hb)
      replace ht := Aside0.mk ht
      replace hf := Aside0.mk hf
      clear HA
      cases b with
      | true =>
        have HT := Aside0.mk (ht.out rfl)
        clear ht hf
        go_wp2_with (go_at_call 91; (with_reducible refine (impl_ThreadOk_3_test g1 (rd_T100 l0 (kk : Int)).f0 (rd_T100 l0 (kk : Int)).f1 (rd_T100 l0 (kk : Int)).f2 (rd_T100 l0 (kk : Int)).f3 a1 _ _ (HG _ HB.out) hb.out).mono ?_); rintro e w' ⟨rfl, hb'⟩; have HB' := Aside0.mk (below_step HB.out hb'); clear hb')
        go_ret
        exact ⟨_, rfl, by rw [HT.out]; simp, HB'.out⟩
      | false =>
        have HA := Aside0.mk (hf.out rfl)
        clear ht hf
        go_wp2_with (go_at_call 91; (with_reducible refine (impl_ThreadOk_3_test g1 (rd_T100 l0 (kk : Int)).f0 (rd_T100 l0 (kk : Int)).f1 (rd_T100 l0 (kk : Int)).f2 (rd_T100 l0 (kk : Int)).f3 a1 _ _ (HG _ HB.out) hb.out).mono ?_); rintro e w' ⟨rfl, hb'⟩; have HB' := Aside0.mk (below_step HB.out hb'); clear hb')
        go_roundg (l0.length - (kk + 1))
        case measure => have := HF.out; omega
        case rel => exact ⟨kk + 1, by omega, ⟨by omega⟩, by go_num, HA, HB'⟩
    · have hltz : ¬ (kk : Int) < (l0.length : Int) := by omega
      have hr : r = false := anyO.nil HA.out (by omega)
      subst hr
      go_wp2
      go_ret
      exact ⟨_, rfl, by decide, HB.out⟩
set_option maxHeartbeats 2000000 in
theorem impl_ThreadOk_3_any.calls (A0 : Option Addr) (c0 : Nat) (l0 : List S100) (g1 : Nat) (a1 : Int) (r : Bool) (w : World) (hr0 : Kd.C k100 w A0 l0.length l0) (_hc0 : l0.length ≤ c0) (hg1 : w.heap[g1]? = some (.cells #[.int .i64 a1] 3 (0, 0))) (h : impl_ThreadOk_3_any.f l0 a1 = some r) :
    Calls Try.prog 90 #[.slice A0 l0.length c0, .func (.func 91) #[] #[.pointer (some ⟨g1, 0, none⟩)]] w fun e w' => e = .returned (.bool r) ∧ Below w.heap.size w w' := by
  have HC := Aside0.mk (impl_ThreadOk_3_idx A0 c0 l0 g1 a1 r w hr0 hg1 h)
  clear hr0 hg1 h
  go_enter Try.func90, Try.ntmps90
  go_wp2_with (go_at_call 153; refine HC.out.mono ?_; rintro e w' ⟨n, rfl, hn, hb⟩; have HN := Aside0.mk hn; have HB := Aside0.mk hb; clear hn hb)
  go_ret
  exact ⟨by rw [← HN.out]; rfl, HB.out⟩
def impl_Begin_1_any.f (l0 : List S141) (a1 : Int) : Option Bool := anyO (fun x : S141 => impl_Begin_1.f x.f0 x.f1 x.f2 a1) l0
set_option maxHeartbeats 4000000 in
set_option maxRecDepth 100000 in
theorem impl_Begin_1_idx (A0 : Option Addr) (c0 : Nat) (l0 : List S141) (g1 : Nat) (a1 : Int) (r : Bool) (w : World) (hr0 : Kd.C k141 w A0 l0.length l0) (hg1 : w.heap[g1]? = some (.cells #[.int .i64 a1] 3 (0, 0))) (h : impl_Begin_1_any.f l0 a1 = some r) :
    Calls Try.prog 187 #[.slice A0 l0.length c0, .func (.func 139) #[] #[.pointer (some ⟨g1, 0, none⟩)]] w fun e w' => ∃ n : Int, e = .returned (.int .i64 n) ∧ decide (n ≥ 0) = r ∧ Below w.heap.size w w' := by
  have huE := Try.underlying141
  have HR0 := Aside0.mk hr0
  have HM : l0.length ≤ 9223372036854775807 := hr0.2.1
  have HG : ∀ W, Below w.heap.size w W → W.heap[g1]? = some (.cells #[.int .i64 a1] 3 (0, 0)) := fun W hW => blk_below hg1 hW
  clear hg1
  clear hr0
  have H0 := Aside0.mk h
  clear h
  have HW := Aside0.mk (Below.refl w.heap.size w)
  go_enter Try.func187, Try.ntmps187
  go_wp2
  go_loopg [5, 8] l0.length (fun gg _ s8 wr => ∃ kk : Nat, kk ≤ l0.length ∧ Aside0 (l0.length - kk ≤ gg) ∧ s8 = .int .i64 kk ∧ Aside0 (anyO (fun x : S141 => impl_Begin_1.f x.f0 x.f1 x.f2 a1) (l0.drop kk) = some r) ∧ Aside0 (Below w.heap.size w wr))
  case atStart => exact ⟨0, Nat.zero_le _, ⟨by omega⟩, rfl, H0, HW⟩
  case round =>
    obtain ⟨kk, hkk, HF, rfl, HA, HB⟩ := hrel
    clear H0 HW
    by_cases hlt : kk < l0.length
    · have hltz : (kk : Int) < (l0.length : Int) := by omega
      obtain ⟨ad, e, hx0, hx1, hx2⟩ := at_T141 HR0.out (kk : Int) (by omega) hltz
      cases e
      replace hx0 := (HB.out.cell (World.block_lt_of_cell? w _ hx0)).trans hx0
      replace hx1 := (HB.out.cell (World.block_lt_of_cell? w _ hx1)).trans hx1
      replace hx2 := (HB.out.cell (World.block_lt_of_cell? w _ hx2)).trans hx2
      simp only [Int.toNat_natCast] at hx0 hx1 hx2
      obtain ⟨b, hb, ht, hf⟩ := anyO.cons (z := z141) HA.out hlt
      have hb := Aside0.mk (show impl_Begin_1.f (rd_T141 l0 (kk : Int)).f0 (rd_T141 l0 (kk : Int)).f1 (rd_T141 l0 (kk : Int)).f2 a1 = some b from hb)
      replace ht := Aside0.mk ht
      replace hf := Aside0.mk hf
      clear HA
      cases b with
      | true =>
        have HT := Aside0.mk (ht.out rfl)
        clear ht hf
        go_wp2_with (go_at_call 139; (with_reducible refine (impl_Begin_1_test g1 (rd_T141 l0 (kk : Int)).f0 (rd_T141 l0 (kk : Int)).f1 (rd_T141 l0 (kk : Int)).f2 a1 _ _ (HG _ HB.out) hb.out).mono ?_); rintro e w' ⟨rfl, hb'⟩; have HB' := Aside0.mk (below_step HB.out hb'); clear hb')
        go_ret
        exact ⟨_, rfl, by rw [HT.out]; simp, HB'.out⟩
      | false =>
        have HA := Aside0.mk (hf.out rfl)
        clear ht hf
        go_wp2_with (go_at_call 139; (with_reducible refine (impl_Begin_1_test g1 (rd_T141 l0 (kk : Int)).f0 (rd_T141 l0 (kk : Int)).f1 (rd_T141 l0 (kk : Int)).f2 a1 _ _ (HG _ HB.out) hb.out).mono ?_); rintro e w' ⟨rfl, hb'⟩; have HB' := Aside0.mk (below_step HB.out hb'); clear hb')
        go_roundg (l0.length - (kk + 1))
        case measure => have := HF.out; omega
        case rel => exact ⟨kk + 1, by omega, ⟨by omega⟩, by go_num, HA, HB'⟩
    · have hltz : ¬ (kk : Int) < (l0.length : Int) := by omega
      have hr : r = false := anyO.nil HA.out (by omega)
      subst hr
      go_wp2
      go_ret
      exact ⟨_, rfl, by decide, HB.out⟩
set_option maxHeartbeats 2000000 in
theorem impl_Begin_1_any.calls (A0 : Option Addr) (c0 : Nat) (l0 : List S141) (g1 : Nat) (a1 : Int) (r : Bool) (w : World) (hr0 : Kd.C k141 w A0 l0.length l0) (_hc0 : l0.length ≤ c0) (hg1 : w.heap[g1]? = some (.cells #[.int .i64 a1] 3 (0, 0))) (h : impl_Begin_1_any.f l0 a1 = some r) :
    Calls Try.prog 138 #[.slice A0 l0.length c0, .func (.func 139) #[] #[.pointer (some ⟨g1, 0, none⟩)]] w fun e w' => e = .returned (.bool r) ∧ Below w.heap.size w w' := by
  have HC := Aside0.mk (impl_Begin_1_idx A0 c0 l0 g1 a1 r w hr0 hg1 h)
  clear hr0 hg1 h
  go_enter Try.func138, Try.ntmps138
  go_wp2_with (go_at_call 187; refine HC.out.mono ?_; rintro e w' ⟨n, rfl, hn, hb⟩; have HN := Aside0.mk hn; have HB := Aside0.mk hb; clear hn hb)
  go_ret
  exact ⟨by rw [← HN.out]; rfl, HB.out⟩
end Go.Proofs.Ytopikhjcbcpiaaa.Q
end
namespace Go.Proofs.Ytopikhjcbcpiaaa.Q
open Go.RowKit Go.Proofs.YtopikhjcbcpiaaaW.PrintWords Go.Proofs.YtopikhjcbcpiaaaW.PrintLast Go.Proofs.YtopikhjcbcpiaaaW.PrintMore
attribute [local go_sem] max2_int min2_int max_two min_two max_three min_three max_four min_four   -- for this text's walks alone
set_option linter.unusedVariables false
set_option linter.unusedSimpArgs false
def laws_szMem.f (k : Nat) (l0_0 : List (S143)) (l0_1 : List (S138)) (a1 : Int) : Option (Int) := (laws_szWordS.f l0_0 a1).bind fun t1198 => (if t1198 < 0 then (some (-1)) else ((laws_szDescS.f k l0_1 t1198).bind fun t1199 => (if t1199 < 0 then (some (-1)) else (some t1199))))
set_option maxHeartbeats 8000000 in
set_option maxRecDepth 100000 in
theorem laws_szMem.calls (k : Nat) (A0_0 : Option Addr) (c0_0 : Nat) (l0_0 : List (S143)) (A0_1 : Option Addr) (c0_1 : Nat) (l0_1 : List (S138)) (a1 : Int) (r : Int) (w : World) (hr0_0 : Kd.C k143 w A0_0 l0_0.length l0_0) (hc0_0 : l0_0.length ≤ c0_0) (hr0_1 : Kd.C k138 w A0_1 l0_1.length l0_1) (hc0_1 : l0_1.length ≤ c0_1) (h : laws_szMem.f k l0_0 l0_1 a1 = some r) :
  Calls Try.prog 61 #[.agg #[.slice A0_0 l0_0.length c0_0, .slice A0_1 l0_1.length c0_1], .int .i64 a1] w fun e w' => e = .returned (.int .i64 r) ∧ Below w.heap.size w w' := by
 have hu95 := Try.underlying95
 have HR0_0 := Aside0.mk hr0_0
 have HC0_0 := Aside0.mk hc0_0
 clear hr0_0 hc0_0
 have HR0_1 := Aside0.mk hr0_1
 have HC0_1 := Aside0.mk hc0_1
 clear hr0_1 hc0_1
 have HB := Aside0.mk (Below.refl w.heap.size w)
 have H := h
 clear h
 unfold laws_szMem.f at H
 obtain ⟨t1198, A3, H⟩ := bn H
 try dsimp only at H
 revert H; refine icd (fun c4b0 H => ?pos) fun c4b0 H => ?_
 case pos =>
  obtain rfl := oin H
  go_enter Try.func61, Try.ntmps61
  go_wp2_with (first | ((with_reducible refine gq 2 rfl ?_); refine bx0 HB (N := 2) (t := 95) ?_; clear HB; intro gb1197 w5 BK1197 GE1197 HB; have hz6 := cs2_ BK1197) | ((with_reducible refine gf 20 rfl ?_); refine gL 8 Try.func20 #[.slice A0_0 l0_0.length c0_0, .int .i64 a1] ?_; (with_reducible refine (laws_szWordS.calls _ _ l0_0 a1 t1198 _ (kc HR0_0 HB) HC0_0.out A3.out).mono ?_); rintro e w' ⟨rfl, ⟨nd, rfl⟩⟩; refine ⟨_, rfl, ?_⟩))
  go_ret
  exact ⟨er, tb HB⟩
 obtain ⟨t1199, A7, H⟩ := bn H
 try dsimp only at H
 revert H; refine icd (fun c8b0 H => ?pos) fun c8b0 H => ?_
 case pos =>
  obtain rfl := oin H
  go_enter Try.func61, Try.ntmps61
  go_wp2_with (first | ((with_reducible refine gq 2 rfl ?_); refine bx0 HB (N := 2) (t := 95) ?_; clear HB; intro gb1197 w9 BK1197 GE1197 HB; have hz10 := cs2_ BK1197) | ((with_reducible refine gf 20 rfl ?_); refine gL 8 Try.func20 #[.slice A0_0 l0_0.length c0_0, .int .i64 a1] ?_; (with_reducible refine (laws_szWordS.calls _ _ l0_0 a1 t1198 _ (kc HR0_0 HB) HC0_0.out A3.out).mono ?_); rintro e w' ⟨rfl, ⟨nd, rfl⟩⟩; refine ⟨_, rfl, ?_⟩) | ((with_reducible refine gf 21 rfl ?_); refine gL 14 Try.func21 #[.slice A0_1 l0_1.length c0_1, .int .i64 t1198] ?_; (with_reducible refine (laws_szDescS.calls k _ _ l0_1 t1198 t1199 _ ?side1 HC0_1.out A7.out).mono ?_); (case side1 => repeat (first | exact (Kd.C_below HR0_1.out (tb HB)) | (with_reducible refine Kd.C_alloc ?_ _) | (with_reducible refine Kd.C_drewN ?_ _) | (with_reducible refine Kd.C_drew ?_))); rintro e w11 ⟨rfl, hb⟩; refine ⟨_, rfl, ?_⟩; replace BK1197 := bb BK1197 hb; replace HB := bs HB hb; (try clear hb)))
  go_ret
  exact ⟨er, tb HB⟩
 obtain rfl := oin H
 go_enter Try.func61, Try.ntmps61
 go_wp2_with (first | ((with_reducible refine gq 2 rfl ?_); refine bx0 HB (N := 2) (t := 95) ?_; clear HB; intro gb1197 w12 BK1197 GE1197 HB; have hz13 := cs2_ BK1197) | ((with_reducible refine gf 20 rfl ?_); refine gL 8 Try.func20 #[.slice A0_0 l0_0.length c0_0, .int .i64 a1] ?_; (with_reducible refine (laws_szWordS.calls _ _ l0_0 a1 t1198 _ (kc HR0_0 HB) HC0_0.out A3.out).mono ?_); rintro e w' ⟨rfl, ⟨nd, rfl⟩⟩; refine ⟨_, rfl, ?_⟩) | ((with_reducible refine gf 21 rfl ?_); refine gL 14 Try.func21 #[.slice A0_1 l0_1.length c0_1, .int .i64 t1198] ?_; (with_reducible refine (laws_szDescS.calls k _ _ l0_1 t1198 t1199 _ ?side1 HC0_1.out A7.out).mono ?_); (case side1 => repeat (first | exact (Kd.C_below HR0_1.out (tb HB)) | (with_reducible refine Kd.C_alloc ?_ _) | (with_reducible refine Kd.C_drewN ?_ _) | (with_reducible refine Kd.C_drew ?_))); rintro e w14 ⟨rfl, hb⟩; refine ⟨_, rfl, ?_⟩; replace BK1197 := bb BK1197 hb; replace HB := bs HB hb; (try clear hb)))
 go_ret
 exact ⟨er, tb HB⟩
def laws_toMem.f (k : Nat) (l0_0 : List (S143)) (l0_1 : List (S138)) : Option ((List (S141)) × (List (S145))) := (laws_toWordS.f k l0_0).bind fun t1287 => ((laws_toDescS.f k l0_1).bind fun t1290 => (some (t1287, t1290)))
set_option maxHeartbeats 8000000 in
set_option maxRecDepth 100000 in
theorem laws_toMem.calls (k : Nat) (A0_0 : Option Addr) (c0_0 : Nat) (l0_0 : List (S143)) (A0_1 : Option Addr) (c0_1 : Nat) (l0_1 : List (S138)) (r1 : List (S141)) (r2 : List (S145)) (w : World) (hr0_0 : Kd.C k143 w A0_0 l0_0.length l0_0) (hc0_0 : l0_0.length ≤ c0_0) (hr0_1 : Kd.C k138 w A0_1 l0_1.length l0_1) (hc0_1 : l0_1.length ≤ c0_1) (h : laws_toMem.f k l0_0 l0_1 = some (r1, r2)) :
  Calls Try.prog 64 #[.agg #[.slice A0_0 l0_0.length c0_0, .slice A0_1 l0_1.length c0_1]] w fun e w' => ∃ v0_ v1_ : Value, e = .returned (.agg #[v0_, v1_]) ∧ Kd.R k141 141 w' w.heap.size (fun _ => True) v0_ r1 ∧ Kd.S k145 145 w' w.heap.size (fun _ => True) v1_ r2 ∧ Below w.heap.size w w' := by
 have hu95 := Try.underlying95
 have hu88 := Try.underlying88
 have HR0_0 := Aside0.mk hr0_0
 have HC0_0 := Aside0.mk hc0_0
 clear hr0_0 hc0_0
 have HR0_1 := Aside0.mk hr0_1
 have HC0_1 := Aside0.mk hc0_1
 clear hr0_1 hc0_1
 have HB := Aside0.mk (Below.refl w.heap.size w)
 have H := h
 clear h
 unfold laws_toMem.f at H
 obtain ⟨t1287, A2, H⟩ := bn H
 try dsimp only at H
 obtain ⟨t1290, A3, H⟩ := bn H
 try dsimp only at H
 simp only [Option.some.injEq, Prod.mk.injEq] at H
 obtain ⟨rfl, rfl⟩ := H
 go_enter Try.func64, Try.ntmps64
 go_wp2_with (first | ((with_reducible refine gq 1 rfl ?_); refine bx0 HB (N := 1) (t := 95) ?_; clear HB; intro gb1284 w4 BK1284 GE1284 HB) | ((with_reducible refine gq 2 rfl ?_); refine bx1 HB BK1284 (N := 2) (cs := #[.slice none 0 0, .slice none 0 0]) (t := 88) ?_; clear HB BK1284; intro gb1285 w5 BK1285 GE1285 HB NB1284_1285 NB1285_1284 BK1284) | ((with_reducible refine gq 3 rfl ?_); refine bx2 HB BK1284 BK1285 (N := 3) (cs := #[.slice none 0 0, .slice none 0 0]) (t := 88) ?_; clear HB BK1284 BK1285; intro gb1286 w6 BK1286 GE1286 HB NB1284_1286 NB1286_1284 BK1284 NB1285_1286 NB1286_1285 BK1285; have hnb7 := NB1284_1285.out; have hnc7 := NB1285_1284.out; have hnb8 := NB1284_1286.out; have hnc8 := NB1286_1284.out; have hz9 := cs2_ BK1284) | ((with_reducible refine gf 23 rfl ?_); refine gL 6 Try.func23 #[.slice A0_0 l0_0.length c0_0] ?_; (with_reducible refine (laws_toWordS.calls k _ _ l0_0 t1287 _ (kc HR0_0 HB) HC0_0.out A2.out).mono ?_); rintro e w10 ⟨v1288, rfl, ho0, hb⟩; refine ⟨_, rfl, ?_⟩; have HO1289 := Aside0.mk (Kd.R_lower ho0 (below_size (tb HB))); replace BK1284 := bb BK1284 hb; replace BK1285 := bb BK1285 hb; replace BK1286 := bb BK1286 hb; replace HB := bs HB hb; (try clear hb); (try clear ho0); obtain ⟨Ao11, co11, eo11⟩ := Kd.R_slice HO1289.out; subst eo11; have hnb12 := NB1286_1285.out; have hnc12 := NB1285_1286.out; have hz13 := cs2_ BK1286; have hz14 := cs2_ BK1284) | ((with_reducible refine gf 24 rfl ?_); refine gL 10 Try.func24 #[.slice A0_1 l0_1.length c0_1] ?_; (with_reducible refine (laws_toDescS.calls k _ _ l0_1 t1290 _ ?side1 HC0_1.out A3.out).mono ?_); (case side1 => exact Kd.C_below HR0_1.out (tb HB)); rintro e w15 ⟨v1291, rfl, ho0, hb⟩; refine ⟨_, rfl, ?_⟩; replace HO1289 := Aside0.mk (Kd.R_below (kr ((Kd.R_mono (Kd.R_far (p := ⟨gb1286, 0, none⟩) (Kd.R_types HO1289.out BK1286.out (by decide)) (fun _ hk => hk.2) (.slice Ao11 t1287.length co11)) (fun _ h_ => h_.1)))) hb); have HO1292 := Aside0.mk (Kd.S_lower ho0 (below_size (tb HB))); replace BK1284 := bbf BK1284 hb; replace BK1285 := bbf BK1285 hb; replace BK1286 := Aside0.mk (blk_below (g := gb1286) (o := .cells #[.slice Ao11 t1287.length co11, .slice none 0 0] 88 (0, 0)) (by (with_reducible repeat (first | refine blk_drewN ?_ _ | refine blk_drew ?_ | refine blk_alloc ?_ _)); refine blk_put (cs := #[.slice none 0 0, .slice none 0 0]) ?_ 0 _ rfl; (with_reducible repeat (first | refine blk_drewN ?_ _ | refine blk_drew ?_ | refine blk_alloc ?_ _)); exact BK1286.out) hb); replace HB := bs HB hb; (try clear hb); (try clear hk); (try clear ho0); obtain ⟨Ao16, co16, eo16⟩ := Kd.S_slice HO1292.out; subst eo16; have hz17 := cs2_ BK1286; have hz18 := cs2_ BK1285))
 refine bodyPost_ret (results_cell_row rfl _ _ gb1285 88 #[.slice Ao11 t1287.length co11, .slice Ao16 t1290.length co16] (0, 0) _ rfl (bfp2 BK1285) Try.underlying88 rfl (by kernel_rfl)) rfl ?_
 exact ⟨_, _, er, by (with_reducible repeat (first | apply Kd.R_alloc | apply Kd.R_drewN | apply Kd.R_drew)); exact Kd.R_mono (Kd.R_far (p := ⟨gb1285, 1, none⟩) (Kd.R_far (p := ⟨gb1285, 0, none⟩) (Kd.R_far (p := ⟨gb1286, 1, none⟩) (Kd.R_types (Kd.R_types HO1289.out BK1286.out (by decide)) BK1285.out (by decide)) (fun _ hk => hk.1.2) (.slice Ao16 t1290.length co16)) (fun _ hk => hk.2) (.slice Ao11 t1287.length co11)) (fun _ hk => hk.2) (.slice Ao16 t1290.length co16)) (fun _ hk => trivial), by (with_reducible repeat (first | apply Kd.S_alloc | apply Kd.S_drewN | apply Kd.S_drew)); exact Kd.S_mono (Kd.S_far (p := ⟨gb1285, 1, none⟩) (Kd.S_far (p := ⟨gb1285, 0, none⟩) (Kd.S_far (p := ⟨gb1286, 1, none⟩) (Kd.S_types (Kd.S_types HO1292.out BK1286.out (by decide)) BK1285.out (by decide)) (fun _ hk => hk.1.2) (.slice Ao16 t1290.length co16)) (fun _ hk => hk.2) (.slice Ao11 t1287.length co11)) (fun _ hk => hk.2) (.slice Ao16 t1290.length co16)) (fun _ hk => trivial), tb HB⟩
end Go.Proofs.Ytopikhjcbcpiaaa.Q
