/- Part 1 of the steps by which the law is shown: what each function of the program, of the reference and of the law computes. No condition. -/
import Derived.Test.YtopikhjcbcpiaaaDoorProg
import Derived.Laws.Runes
import Derived.Shelf.Strings.OnBuilder
import Derived.Shelf.Strings.Split
import Derived.Lib.Split
import Derived.Test.YtopikhjcbcpiaaaDoorNum0
section
namespace Go.Proofs.YtopikhjcbcpiaaaDoor.Q
open Go.RowKit Go.Proofs.YtopikhjcbcpiaaaDoorW.PrintWords Go.Proofs.YtopikhjcbcpiaaaDoorW.PrintLast Go.Proofs.YtopikhjcbcpiaaaDoorW.PrintMore
attribute [local go_sem] max2_int min2_int max_two min_two max_three min_three max_four min_four   -- for this text's walks alone
set_option linter.unusedVariables false
set_option linter.unusedSimpArgs false
def errW : Option Int → Value
  | none => .nilIface
  | some c => .iface 0 (.int .i64 c)
theorem errW_none : errW none = .nilIface := rfl
theorem errW_some (c : Int) : errW (some c) = .iface 0 (.int .i64 c) := rfl
theorem info3 : (Tryd.prog.info? 3).map (fun i => (i.zero, i.size, i.bytes)) = some (some (.int .i64 0), 1, 8) := by kernel_rfl
theorem info9 : (Tryd.prog.info? 9).map (fun i => (i.zero, i.size, i.bytes)) = some (some (.string ⟨#[]⟩), 1, 16) := by kernel_rfl
end Go.Proofs.YtopikhjcbcpiaaaDoor.Q
end
section
namespace Go.Proofs.YtopikhjcbcpiaaaDoor.Q
open Go.RowKit Go.Proofs.YtopikhjcbcpiaaaDoorW.PrintWords Go.Proofs.YtopikhjcbcpiaaaDoorW.PrintLast Go.Proofs.YtopikhjcbcpiaaaDoorW.PrintMore
theorem sA {α : Type} (l : List α) (i : Nat) (a : α) : l.toArray.setIfInBounds i a = (l.set i a).toArray := List.setIfInBounds_toArray _ _ _
theorem sB {α : Type} (l : List α) (a b : α) : (a :: l).set 0 b = b :: l := List.set_cons_zero ..
theorem sC {α : Type} (l : List α) (a b : α) (n : Nat) : (a :: l).set (n + 1) b = a :: l.set n b := List.set_cons_succ ..
theorem er {p : Prop} (h : p := by first | rfl | (simp [errW_none, errW_some] <;> rfl) | (simp [*, errW_none, errW_some] <;> rfl)) : p := h
theorem od {p : Prop} [Decidable p] (h : decide p = true := by first | (with_reducible assumption) | assumption) : p := of_decide_eq_true h
section
variable {w w1 w2 w' : World} {g g' : Nat} {o : Obj}
theorem bk (b : Aside0 (w.heap[g]? = some o)) (f : w.heap[g]? = some o → w'.heap[g]? = some o := by intro h; (with_reducible repeat (first | refine blk_drewN ?_ _ | refine blk_drew ?_ | refine blk_alloc ?_ _)); exact h) : w'.heap[g]? = some o := f b.out
theorem ox {v : Value} {a : Addr} {u : World} (b : Aside0 (Below u.heap.size u w)) (h : u.cell? a = some v) : w.cell? a = some v := (b.out.cell (World.block_lt_of_cell? u _ h)).trans h
theorem kp {row : Option Nat} {u : World} (b : Aside0 (KeepBut u w g row)) (f : KeepBut u w g row → KeepBut u w' g row := by intro h; repeat (first | (with_reducible first | exact h | apply KeepBut.set_ | apply keep_drewN | apply keep_drew | apply keep_alloc | refine keep_far ?_ (Aside0.out (by assumption)) _) | exact h)) : KeepBut u w' g row := f b.out
theorem bd (b : Aside0 (w.heap[g]? = some o)) : Aside0 (w.drew.heap[g]? = some o) := ⟨blk_drew b.out⟩
theorem tb {B : Nat} {u : World} (b : Aside0 (Below B u w)) (f : Below B u w → Below B u w' := by intro h; repeat (first | (with_reducible first | exact h | apply below_alloc | apply pw_below_drewN | apply below_drew1 | refine below_set ?_ (Aside0.out (by assumption))) | exact h)) : Below B u w' := f b.out
theorem bs {u : World} (b : Aside0 (Below u.heap.size u w)) (hb : Below w'.heap.size w' w2) (f : Below u.heap.size u w → Below u.heap.size u w' := by intro h; repeat (first | (with_reducible first | exact h | apply below_alloc | apply pw_below_drewN | apply below_drew1 | refine below_set ?_ (Aside0.out (by assumption))) | exact h)) : Aside0 (Below u.heap.size u w2) := ⟨below_step (f b.out) hb⟩
theorem ge_ {u : World} (hg : g = w'.heap.size) (b : Aside0 (Below u.heap.size u w)) (f : Below u.heap.size u w → Below u.heap.size u w' := by intro h; repeat (first | (with_reducible first | exact h | apply below_alloc | apply pw_below_drewN | apply below_drew1 | refine below_set ?_ (Aside0.out (by assumption))) | exact h)) : u.heap.size ≤ g := by rw [hg]; exact below_size (f b.out)
theorem kr {α : Type} {d : Kd α} {e base : Nat} {ok : Nat → Prop} {v : Value} {xs : List α} (b : d.R e w base ok v xs) (f : d.R e w base ok v xs → d.R e w' base ok v xs := by intro h; (with_reducible repeat (first | apply Kd.R_alloc | apply Kd.R_drewN | apply Kd.R_drew)); exact h) : d.R e w' base ok v xs := f b
theorem rb {α : Type} {d : Kd α} {e base : Nat} {ok : Nat → Prop} {v : Value} {xs : List α} (b : Aside0 (d.R e w base ok v xs)) (hb : Below w'.heap.size w' w2) (f : d.R e w base ok v xs → d.R e w' base ok v xs := by intro h; (with_reducible repeat (first | apply Kd.R_alloc | apply Kd.R_drewN | apply Kd.R_drew)); exact h) : Aside0 (d.R e w2 base ok v xs) := ⟨Kd.R_below (f b.out) hb⟩
theorem kc {α : Type} {d : Kd α} {A : Option Addr} {n : Nat} {xs : List α} (r : Aside0 (d.C w A n xs)) (b : Aside0 (Below w.heap.size w w1)) (f : d.C w1 A n xs → d.C w' A n xs := by intro h; repeat (first | exact h | (with_reducible refine Kd.C_alloc ?_ _) | (with_reducible refine Kd.C_drewN ?_ _) | (with_reducible refine Kd.C_drew ?_))) : d.C w' A n xs := f (Kd.C_below r.out b.out)
end
section
variable {P : Program} {ops : Array Oper} {rest : List Oper} {o : Oper} {a : Act} {Q : Exit → Act → World → Prop} {W : World} {N : Tmp} {cs : Array Value} {t : TypeId}
theorem bx (h : ∀ g, g = W.heap.size → ∀ w1, w1.heap[g]? = some (.cells cs t (0, 0)) → Below W.heap.size W w1 → wpList P ops Q rest (a.put o.dst (.pointer (some ⟨g, 0, none⟩))) w1) (hd : o.dst = some N := by rfl) (hgd : o.guard = none := by rfl)
    (hrun : (execOp a.eval o).run P W = .ok (.value (.pointer (some ⟨W.heap.size, 0, none⟩))) (W.alloc (.cells cs t (0, 0))) := by first | (go_simp; done) | (go_simp; rfl)) : wpList P ops Q (o :: rest) a W := box_event hgd hd hrun h
theorem gL {oi : Oper} {w : World} (N : Tmp) {f : FuncId} {fn : Func} (hf : P.funcs[f]? = some fn) {ags : Array Operand} {ts : Array TypeId} (args : Array Value)
    (h : Calls P f args w fun e w' => ∃ v, e = .returned v ∧ wpList P ops Q rest (a.put (some N) v) w')
    (hd : oi.dst = some N := by rfl) (hg : oi.guard = none := by rfl) (hname : (fn.name == "runtime.NumGoroutine") = false := by kernel_rfl) (hb : fn.body.isSome = true := by rfl)
    (hop : oi.op = .call { callee := .value (.func f), args := ags, argTypes := ts } := by rfl)
    (hargs : ags.map a.eval = args := by (try simp only [List.map_toArray, List.map_cons, List.map_nil]); first | done | rfl | (simp only [List.length_drop, List.length_take]; rfl)) : wpList P ops Q (oi :: rest) a w := goesL_ (some N) hd hg hf hname hb args hop hargs h
theorem gS {oi : Oper} {w : World} {K : Act → World → Prop} {f : FuncId} {fn : Func} (hf : P.funcs[f]? = some fn) {ags : Array Operand} {ts : Array TypeId} (args : Array Value) {N : Option Tmp}
    (h : Calls P f args w fun e w' => ∃ v, e = .returned v ∧ K (a.put N v) w')
    (hN : oi.dst = N := by rfl) (hname : (fn.name == "runtime.NumGoroutine") = false := by kernel_rfl) (hb : fn.body.isSome = true := by rfl)
    (hw : Region.wanted oi (yielded ops a.tmps) = true := by rfl) (hop : oi.op = .call { callee := .value (.func f), args := ags, argTypes := ts } := by rfl)
    (hargs : ags.map a.eval = args := by (try simp only [List.map_toArray, List.map_cons, List.map_nil]); first | done | rfl | (simp only [List.length_drop, List.length_take]; rfl)) : if Region.wanted oi (yielded ops a.tmps) = true then Oper.wp P oi a w K Q else K (a.put N undef) w := goes_ hf hname hb args hw hN hop hargs h
end
section
variable {P : Program} {ops : Array Oper} {Q : Exit → Act → World → Prop} {md : Region.Mode} {S : World → Prop} {ds : List Nat} {oi : Oper} {fuel : Nat} {l l' : Array Bool} {a a' : Act} {w : World} {v : Value}
theorem pu (i : Nat) (N : Tmp) (h : wpAnyLast P md ops Q S ds fuel l' a' w)
    (hi : ops[i]? = some oi := by exact rfl) (hN : oi.dst = some N := by exact rfl) (_hl : l.setIfInBounds i true = l' := by simp only [sA, sB, sC]; rfl)
    (hc : anyB md ops l l' i = true := by first | exact any_of HT_.out (by kernel_rfl) | kernel_rfl)
    (hQ : ∀ c a w, Q (.panic c) (a.put oi.dst v) w → Q (.panic c) a w := by exact fun _ _ _ h => h)
    (hy : Yields P ops oi v a := by exact Or.inl ⟨by rfl, by intro w'; go_simp; with_reducible rfl⟩)
    (ha : a.put (some N) v = a' := by simp only [Act.put, sA, sB, sC, i64_w, i32_w]; rfl) : wpAnyLast P md ops Q S ds (fuel + 1) l a w := pure_ l' hi hN hc hQ hy ha h
theorem nm (N : Tmp) (h : wpAnyLast P md ops Q S ds fuel l a' w) (ha : a.put (some N) v = a' := by simp only [Act.put, sA, sB, sC, i64_w, i32_w]; rfl) : wpAnyLast P md ops Q S ds fuel l (a.put (some N) v) w := norm_ ha h
theorem gd {rest : List Oper} {o : Oper} (N : Tmp) (_hN : o.dst = some N) (h : wpList P ops Q (o :: rest) a w) : wpList P ops Q (o :: rest) a w := h
end
end Go.Proofs.YtopikhjcbcpiaaaDoor.Q
end
namespace Go.Proofs.YtopikhjcbcpiaaaDoor.Q
open Go.RowKit Go.Proofs.YtopikhjcbcpiaaaDoorW.PrintWords Go.Proofs.YtopikhjcbcpiaaaDoorW.PrintLast Go.Proofs.YtopikhjcbcpiaaaDoorW.PrintMore
attribute [local go_sem] max2_int min2_int max_two min_two max_three min_three max_four min_four   -- for this text's walks alone
set_option linter.unusedVariables false
set_option linter.unusedSimpArgs false
def spec_Split.l0 : Nat → ByteArray → Int → List ByteArray → Int → Int → Option (List ByteArray)
 | 0, _, _, _, _, _ => none
 | k + 1, x0, x1, x5, x6, x7 => if x7 ≤ (x0.size : Int) then (if x7 = (x0.size : Int) then (if 0 ≤ x6 then (if x6 ≤ x7 then (if x5.length < 8796093022208 then (spec_Split.l0 k x0 x1 (x5 ++ [x0.extract (x6 : Int).toNat (x7 : Int).toNat]) (wrap64 (x7 + 1)) (wrap64 (x7 + 1))) else (none)) else (none)) else (none)) else (if 0 ≤ x7 then (if x7 < (x0.size : Int) then (if (bt x0 x7) = x1 then (if 0 ≤ x6 then (if x6 ≤ x7 then (if x5.length < 8796093022208 then (spec_Split.l0 k x0 x1 (x5 ++ [x0.extract (x6 : Int).toNat (x7 : Int).toNat]) (wrap64 (x7 + 1)) (wrap64 (x7 + 1))) else (none)) else (none)) else (none)) else (spec_Split.l0 k x0 x1 x5 x6 (wrap64 (x7 + 1)))) else (none)) else (none))) else (some x5)
def spec_Split.f (k : Nat) (a0 : ByteArray) (a1 : Int) : Option (List ByteArray) := spec_Split.l0 k a0 a1 (([] : List ByteArray)) 0 0
theorem spec_Split.mono_l : ∀ k, (∀ y0 y1 y2 y3 y4, LeO (spec_Split.l0 k y0 y1 y2 y3 y4) (spec_Split.l0 (k + 1) y0 y1 y2 y3 y4))
 | 0 => fun _ _ _ _ _ r h => by simp [spec_Split.l0] at h
 | k + 1 => by
  have ih0 := spec_Split.mono_l k
  ·intro y0 y1 y2 y3 y4
   unfold spec_Split.l0
   repeat' first
   | (with_reducible exact ih0 _ _ _ _ _)
   | (with_reducible exact LeO.refl _)
   | (with_reducible exact LeO.none _)
   | (with_reducible refine LeO.ite ?_ ?_)
   | (with_reducible refine LeO.bind ?_ (fun _ => ?_))
   | exact ih0 _ _ _ _ _
   | exact LeO.none _
   | refine LeO.ite ?_ ?_
   | refine LeO.bind ?_ (fun _ => ?_)
theorem spec_Split.mono : ∀ a0 a1 k, LeO (spec_Split.f k a0 a1) (spec_Split.f (k + 1) a0 a1) := by
 intro a0 a1 k
 have ih0 := spec_Split.mono_l k
 unfold spec_Split.f
 repeat' first
   | (with_reducible exact ih0 _ _ _ _ _)
   | (with_reducible exact LeO.refl _)
   | (with_reducible exact LeO.none _)
   | (with_reducible refine LeO.ite ?_ ?_)
   | (with_reducible refine LeO.bind ?_ (fun _ => ?_))
   | exact ih0 _ _ _ _ _
   | exact LeO.none _
   | refine LeO.ite ?_ ?_
   | refine LeO.bind ?_ (fun _ => ?_)
set_option maxHeartbeats 8000000 in
set_option maxRecDepth 100000 in
theorem spec_Split.calls (k : Nat) (a0 : ByteArray) (a1 : Int) (r : List ByteArray) (w : World) (h : spec_Split.f k a0 a1 = some r) :
  Calls Tryd.prog 5 #[.string a0, .int .u8 a1] w fun e w' => ∃ v0_ : Value, e = .returned (v0_) ∧ Kd.R Kd.string 9 w' w.heap.size (fun _ => True) v0_ r ∧ Below w.heap.size w w' := by
 have HB := Aside0.mk (Below.refl w.heap.size w)
 have H : (spec_Split.l0 k a0 a1 (([] : List ByteArray)) 0 0) = some r := h
 clear h
 obtain ⟨y101, hy101⟩ : ∃ y_ : List ByteArray, y_ = (([] : List ByteArray)) := ⟨_, rfl⟩
 replace H : (spec_Split.l0 k a0 a1 y101 0 0) = some r := by first | (rw [hy101]; with_reducible exact H) | (have H2_ := (Option.bind_some _ _).symm.trans H; rw [hy101]; with_reducible exact H2_) | (have H2_ := (Option.bind_some _ _).symm.trans H; with_reducible exact H2_) | with_reducible exact H | (rw [hy101]; exact H) | exact H
 have Ny101 := Aside0.mk hy101
 clear hy101
 have H' := Aside0.mk H
 clear H
 go_enter Tryd.func5, Tryd.ntmps5
 go_wp2_with (first | ((with_reducible refine gate_dst (N := 8) rfl ?_); refine Kd.R_lit Kd.string _ 9 ?hg (N := 8) ?hd (xs := ([] : List ByteArray)) (inner := []) (ok := fun _ => True) (okp := fun _ => True) ?hr ?hp (fun _ hk => hk) trivial (Below.refl _ _) (Nat.le_refl _) (by simp) ?_; (case hd => rfl); (case hg => rfl); (case hr => first | (go_simp; done) | (go_simp; rfl)); (case hp => exact (Reps.none _ _)); intro v102 w3 ho4 hb hg_ hnew_; clear hg_ hnew_; (first | rw [← Ny101.out] at ho4 | (simp only [Int.reduceToNat] at ho4; rw [← Ny101.out] at ho4)); have HO103 := Aside0.mk (Kd.R_lower ho4 (below_size (tb HB))); replace HB := bs HB hb; clear hb ho4))
 go_loopg [5, 6, 7] k (fun kq v5 v6 v7 w' => ∃ (x5_1 : List ByteArray) (x6_1 : Int) (x7_1 : Int), v6 = .int .i64 x6_1 ∧ v7 = .int .i64 x7_1 ∧ Aside0 (spec_Split.l0 kq a0 a1 x5_1 x6_1 x7_1 = some r) ∧ Aside0 (kq ≤ k) ∧ Aside0 (Kd.R Kd.string 9 w' w.heap.size (fun _ => True) v5 x5_1) ∧ Aside0 (Below w.heap.size w w'))
 case atStart => exact ⟨(y101), (0), (0), (by first | rfl | (simp; done) | (simp [*]; done)), (by first | rfl | (simp; done) | (simp [*]; done)), H', ⟨Nat.le_refl _⟩, ⟨kr HO103.out⟩, ⟨tb HB⟩⟩
 case round =>
  clear H'
  try clear p2
  obtain ⟨x5_1, x6_1, x7_1, rfl, rfl, HA, HK1, HO_5, HB⟩ := hrel
  cases gk with
  | zero => exact absurd HA.out (by simp [spec_Split.l0])
  | succ k1 =>
   have H := HA.out
   clear HA
   simp only [spec_Split.l0] at H
   by_cases c5 : x7_1 ≤ (a0.size : Int)
   ·rw [if_pos c5] at H
    have c5b0 := decide_eq_true c5
    clear c5
    by_cases c6 : x7_1 = (a0.size : Int)
    ·rw [if_pos c6] at H
     have c6b0 : (x7_1 == (a0.size : Int)) = true := beq_iff_eq.mpr c6
     have c6b1 : (x7_1 != (a0.size : Int)) = false := bne_eq_false_iff_eq.mpr c6
     clear c6
     by_cases c7 : 0 ≤ x6_1
     ·rw [if_pos c7] at H
      have c7b0 := eq_true c7
      have c7b1 := decide_eq_true c7
      clear c7
      by_cases c8 : x6_1 ≤ x7_1
      ·rw [if_pos c8] at H
       have c8b0 := eq_true c8
       have c8b1 := decide_eq_true c8
       clear c8
       have c9b0 := eq_true (od : x7_1 ≤ (a0.size : Int))
       by_cases c10 : x5_1.length < 8796093022208
       ·rw [if_pos c10] at H
        have LMc10 := Aside0.mk c10
        clear c10
        obtain ⟨y104, hy104⟩ : ∃ y_ : List ByteArray, y_ = (x5_1 ++ [a0.extract (x6_1 : Int).toNat (x7_1 : Int).toNat]) := ⟨_, rfl⟩
        replace H : (spec_Split.l0 k1 a0 a1 y104 (wrap64 (x7_1 + 1)) (wrap64 (x7_1 + 1))) = some r := by first | (rw [hy104]; with_reducible exact H) | (have H2_ := (Option.bind_some _ _).symm.trans H; rw [hy104]; with_reducible exact H2_) | (have H2_ := (Option.bind_some _ _).symm.trans H; with_reducible exact H2_) | with_reducible exact H | (rw [hy104]; exact H) | exact H
        have Ny104 := Aside0.mk hy104
        clear hy104
        have H' := Aside0.mk H
        clear H
        go_wp2_with (first | ((with_reducible refine gate_builtin (b := .append) (xs := #[.tmp 26, .tmp 31]) rfl ?_); at_builtin; refine Kd.R_append Kd.string (w0 := w) w.heap.size rfl (.tmp 26) (.tmp 31) 22 9 (.string ⟨#[]⟩) 16 rfl Tryd.underlying22 info9 rfl (by decide) (by omega) u5 x5_1 (a0.extract (x6_1 : Int).toNat (x7_1 : Int).toNat) [.string (a0.extract (x6_1 : Int).toNat (x7_1 : Int).toNat)] (fun _ => True) (fun _ => False) rfl rfl ?aP (fun _ hk => hk.elim) ?aF ?aO ?aB ?aS ?aL ?_; (case aP => exact rfl); (case aB => exact (tb HB)); (case aF => exact (fun _ _ => trivial)); (case aO => exact (kr HO_5.out)); (case aS => exact (below_size (tb HB))); (case aL => have := LMc10.out; omega); intro v105 w11 ho hb hg hat; rw [← Ny104.out] at ho; replace HB := Aside0.mk (hb); have HO106 := Aside0.mk (ho); clear HO_5; clear ho hb hg hat))
        go_roundg k1
        case measure => have := HK1.out; omega
        case rel => exact ⟨(y104), (wrap64 (x7_1 + 1)), (wrap64 (x7_1 + 1)), (by first | rfl | (simp; done) | (simp [*]; done)), (by first | rfl | (simp; done) | (simp [*]; done)), H', ⟨by have := HK1.out; omega⟩, ⟨kr HO106.out⟩, ⟨tb HB⟩⟩
       ·rw [if_neg c10] at H
        exact absurd H (by simp)
      ·rw [if_neg c8] at H
       exact absurd H (by simp)
     ·rw [if_neg c7] at H
      exact absurd H (by simp)
    ·rw [if_neg c6] at H
     have c6b0 : (x7_1 == (a0.size : Int)) = false := beq_eq_false_iff_ne.mpr c6
     have c6b1 : (x7_1 != (a0.size : Int)) = true := bne_iff_ne.mpr c6
     by_cases c12 : 0 ≤ x7_1
     ·rw [if_pos c12] at H
      have c12b0 := decide_eq_true c12
      clear c12
      by_cases c13 : x7_1 < (a0.size : Int)
      ·rw [if_pos c13] at H
       have c13b0 := decide_eq_true c13
       clear c13
       by_cases c15 : (bt a0 x7_1) = a1
       ·rw [if_pos c15] at H
        have c15b0 : ((bt a0 x7_1) == a1) = true := beq_iff_eq.mpr c15
        have c15b1 : ((bt a0 x7_1) != a1) = false := bne_eq_false_iff_eq.mpr c15
        clear c15
        by_cases c16 : 0 ≤ x6_1
        ·rw [if_pos c16] at H
         have c16b0 := eq_true c16
         have c16b1 := decide_eq_true c16
         clear c16
         by_cases c17 : x6_1 ≤ x7_1
         ·rw [if_pos c17] at H
          have c17b0 := eq_true c17
          have c17b1 := decide_eq_true c17
          clear c17
          have c18b0 := eq_true (od : x7_1 ≤ (a0.size : Int))
          by_cases c19 : x5_1.length < 8796093022208
          ·rw [if_pos c19] at H
           have LMc19 := Aside0.mk c19
           clear c19
           obtain ⟨y107, hy107⟩ : ∃ y_ : List ByteArray, y_ = (x5_1 ++ [a0.extract (x6_1 : Int).toNat (x7_1 : Int).toNat]) := ⟨_, rfl⟩
           replace H : (spec_Split.l0 k1 a0 a1 y107 (wrap64 (x7_1 + 1)) (wrap64 (x7_1 + 1))) = some r := by first | (rw [hy107]; with_reducible exact H) | (have H2_ := (Option.bind_some _ _).symm.trans H; rw [hy107]; with_reducible exact H2_) | (have H2_ := (Option.bind_some _ _).symm.trans H; with_reducible exact H2_) | with_reducible exact H | (rw [hy107]; exact H) | exact H
           have Ny107 := Aside0.mk hy107
           clear hy107
           have H' := Aside0.mk H
           clear H
           have p14 : 0 ≤ (x7_1 : Int) := od
           have q14 : x7_1 < (a0.size : Int) := od
           have hx14 := bt_at a0 x7_1
           replace p14 := eq_true p14
           replace q14 := eq_true q14
           go_wp2_with (first | ((with_reducible refine gate_builtin (b := .append) (xs := #[.tmp 26, .tmp 31]) rfl ?_); at_builtin; refine Kd.R_append Kd.string (w0 := w) w.heap.size rfl (.tmp 26) (.tmp 31) 22 9 (.string ⟨#[]⟩) 16 rfl Tryd.underlying22 info9 rfl (by decide) (by omega) u5 x5_1 (a0.extract (x6_1 : Int).toNat (x7_1 : Int).toNat) [.string (a0.extract (x6_1 : Int).toNat (x7_1 : Int).toNat)] (fun _ => True) (fun _ => False) rfl rfl ?aP (fun _ hk => hk.elim) ?aF ?aO ?aB ?aS ?aL ?_; (case aP => exact rfl); (case aB => exact (tb HB)); (case aF => exact (fun _ _ => trivial)); (case aO => exact (kr HO_5.out)); (case aS => exact (below_size (tb HB))); (case aL => have := LMc19.out; omega); intro v108 w20 ho hb hg hat; rw [← Ny107.out] at ho; replace HB := Aside0.mk (hb); have HO109 := Aside0.mk (ho); clear HO_5; clear ho hb hg hat))
           go_roundg k1
           case measure => have := HK1.out; omega
           case rel => exact ⟨(y107), (wrap64 (x7_1 + 1)), (wrap64 (x7_1 + 1)), (by first | rfl | (simp; done) | (simp [*]; done)), (by first | rfl | (simp; done) | (simp [*]; done)), H', ⟨by have := HK1.out; omega⟩, ⟨kr HO109.out⟩, ⟨tb HB⟩⟩
          ·rw [if_neg c19] at H
           exact absurd H (by simp)
         ·rw [if_neg c17] at H
          exact absurd H (by simp)
        ·rw [if_neg c16] at H
         exact absurd H (by simp)
       ·rw [if_neg c15] at H
        have c15b0 : ((bt a0 x7_1) == a1) = false := beq_eq_false_iff_ne.mpr c15
        have c15b1 : ((bt a0 x7_1) != a1) = true := bne_iff_ne.mpr c15
        have H' := Aside0.mk H
        clear H
        have p14 : 0 ≤ (x7_1 : Int) := od
        have q14 : x7_1 < (a0.size : Int) := od
        have hx14 := bt_at a0 x7_1
        replace p14 := eq_true p14
        replace q14 := eq_true q14
        go_wp2
        go_roundg k1
        case measure => have := HK1.out; omega
        case rel => exact ⟨(x5_1), (x6_1), (wrap64 (x7_1 + 1)), (by first | rfl | (simp; done) | (simp [*]; done)), (by first | rfl | (simp; done) | (simp [*]; done)), H', ⟨by have := HK1.out; omega⟩, ⟨kr HO_5.out⟩, ⟨tb HB⟩⟩
      ·rw [if_neg c13] at H
       exact absurd H (by simp)
     ·rw [if_neg c12] at H
      exact absurd H (by simp)
   ·rw [if_neg c5] at H
    have c5b0 := decide_eq_false c5
    clear c5
    obtain rfl := Option.some.inj H
    go_wp2
    go_ret
    exact ⟨_, er, kr HO_5.out, tb HB⟩
def laws_big.f (l0 : List Int) : Option (Bool) := some (decide ((l0.length : Int) > 1048576))
set_option maxHeartbeats 8000000 in
set_option maxRecDepth 100000 in
theorem laws_big.calls (A0 : Option Addr) (c0 : Nat) (l0 : List Int) (r : Bool) (w : World) (hr0 : Kd.C (Kd.int .u8) w A0 l0.length l0) (hc0 : l0.length ≤ c0) (h : laws_big.f l0 = some r) :
  Calls Tryd.prog 10 #[.slice A0 l0.length c0] w fun e w' => e = .returned (.bool r) ∧ Drawn0 w w' := by
 have HR0 := Aside0.mk hr0
 have HC0 := Aside0.mk hc0
 clear hr0 hc0
 have H : (some (decide ((l0.length : Int) > 1048576))) = some r := h
 clear h
 obtain rfl := Option.some.inj H
 go_enter Tryd.func10, Tryd.ntmps10
 go_wp2
 go_ret
 exact ⟨by first | rfl | (simp; done) | (simp [*]; done), by repeat (first | exact Drawn0.refl _ | apply Drawn0.step)⟩
def IsS48 (w0 W : World) (g : Nat) (f0 : List Int) (f1 : Int) (f2 : Int) : Prop := ∃ A0 c0, W.heap[g]? = some (.cells #[.slice A0 f0.length c0, .int .i64 f1, .int .i64 f2] 48 (0, 0)) ∧ w0.heap.size ≤ g ∧ Kd.C (Kd.int .u8) w0 A0 f0.length f0
theorem IsS48.grown {w0 W : World} {g : Nat} {f0 : List Int} {f1 : Int} {f2 : Int} {W1 : World} {row : Option Nat} (h : IsS48 w0 W g f0 f1 f2) (hw : W.grownBy W1 row) (hne : some g ≠ row) : IsS48 w0 W1 g f0 f1 f2 := by
 obtain ⟨A0, c0, hb, hg, hr0⟩ := h
 exact ⟨A0, c0, blk_grown hb hw hne, hg, hr0⟩
theorem IsS48.own_neN {w0 W : World} {g : Nat} {f0 : List Int} {f1 : Int} {f2 : Int} {α : Type} {d : Kd α} {e : Nat} {base : Nat} {ok : Nat → Prop} {v : Value} {xs : List α} (h : IsS48 w0 W g f0 f1 f2) (ho : Kd.N d e W base ok v xs) (ht : e ≠ 48) : some g ≠ v.ownBlock := by
 obtain ⟨A0, c0, hb, hg, hr0⟩ := h
 exact Kd.N_ne ho hb ht
theorem IsS48.fresh {w0 W : World} {g : Nat} {f0 : List Int} {f1 : Int} {f2 : Int} (h : IsS48 w0 W g f0 f1 f2) : ∀ k, W.heap.size ≤ k → k ≠ g := by
 obtain ⟨A0, c0, hb, hg, hr0⟩ := h
 exact Kd.freshB hb
theorem IsS48.kept {w0 W : World} {g : Nat} {f0 : List Int} {f1 : Int} {f2 : Int} {W1 : World} {S : Nat → Prop} (h : IsS48 w0 W g f0 f1 f2) (hk : Kept W W1 S) (hne : ¬ S g) : IsS48 w0 W1 g f0 f1 f2 := by
 obtain ⟨A0, c0, hb, hg, hr0⟩ := h
 exact ⟨A0, c0, blk_kept hb hk hne, hg, hr0⟩
theorem IsS48.below {w0 W : World} {g : Nat} {f0 : List Int} {f1 : Int} {f2 : Int} {W1 : World} (h : IsS48 w0 W g f0 f1 f2) (hw : Below W.heap.size W W1) : IsS48 w0 W1 g f0 f1 f2 := h.grown (grown_of_below hw none) (by simp)
theorem IsS48.alloc {w0 W : World} {g : Nat} {f0 : List Int} {f1 : Int} {f2 : Int} (h : IsS48 w0 W g f0 f1 f2) (o : Obj) : IsS48 w0 (W.alloc o) g f0 f1 f2 := h.below (below_alloc (Below.refl _ _) o)
theorem IsS48.drewN {w0 W : World} {g : Nat} {f0 : List Int} {f1 : Int} {f2 : Int} (h : IsS48 w0 W g f0 f1 f2) (m : Nat) : IsS48 w0 (W.drewN m) g f0 f1 f2 := h
theorem IsS48.drew {w0 W : World} {g : Nat} {f0 : List Int} {f1 : Int} {f2 : Int} (h : IsS48 w0 W g f0 f1 f2) : IsS48 w0 W.drew g f0 f1 f2 := h
theorem IsS48.at_ {w0 W : World} {g : Nat} {f0 : List Int} {f1 : Int} {f2 : Int} {w' : World} {m : Nat} (hq : W.drewN m = w') (h : IsS48 w0 W g f0 f1 f2) : IsS48 w0 w' g f0 f1 f2 := by subst hq; exact IsS48.drewN h m
theorem IsS48.apart {w0 W : World} {g : Nat} {f0 : List Int} {f1 : Int} {f2 : Int} {α : Type} {d : Kd α} {e : Nat} {base : Nat} {ok : Nat → Prop} {v : Value} {xs : List α} (h : IsS48 w0 W g f0 f1 f2) (ho : d.R e W base ok v xs) (ht : ∀ q, q ∈ e :: d.E → q ≠ 48) : d.R e W base (fun k => ok k ∧ k ≠ g) v xs := by
 obtain ⟨A0, c0, hb, hg, hr0⟩ := h
 exact Kd.R_types ho hb ht
theorem IsS48.own_ne {w0 W : World} {g : Nat} {f0 : List Int} {f1 : Int} {f2 : Int} {α : Type} {d : Kd α} {e : Nat} {base : Nat} {ok : Nat → Prop} {v : Value} {xs : List α} (h : IsS48 w0 W g f0 f1 f2) (ho : d.R e W base ok v xs) (ht : e ≠ 48) : some g ≠ v.ownBlock := by
 obtain ⟨A0, c0, hb, hg, hr0⟩ := h
 exact Kd.R_ne ho hb ht
theorem IsS48.apartQ {w0 W : World} {g : Nat} {f0 : List Int} {f1 : Int} {f2 : Int} {α : Type} {d : Kd α} {e : Nat} {base : Nat} {ok : Nat → Prop} {v : Value} {xs : List α} (h : IsS48 w0 W g f0 f1 f2) (ho : d.Q e W base ok v xs) (ht : ∀ q, q ∈ e :: d.E → q ≠ 48) : d.Q e W base (fun k => ok k ∧ k ≠ g) v xs := by
 obtain ⟨A0, c0, hb, hg, hr0⟩ := h
 exact Kd.Q_types ho hb ht
theorem IsS48.own_neQ {w0 W : World} {g : Nat} {f0 : List Int} {f1 : Int} {f2 : Int} {α : Type} {d : Kd α} {e : Nat} {base : Nat} {ok : Nat → Prop} {v : Value} {xs : List α} (h : IsS48 w0 W g f0 f1 f2) (ho : d.Q e W base ok v xs) (ht : e ≠ 48) : some g ≠ v.ownBlock := by
 obtain ⟨A0, c0, hb, hg, hr0⟩ := h
 exact Kd.Q_ne ho hb ht
theorem IsS48.apartS {w0 W : World} {g : Nat} {f0 : List Int} {f1 : Int} {f2 : Int} {α : Type} {d : Kd α} {e : Nat} {base : Nat} {ok : Nat → Prop} {v : Value} {xs : List α} (h : IsS48 w0 W g f0 f1 f2) (ho : d.S e W base ok v xs) (ht : ∀ q, q ∈ e :: d.E → q ≠ 48) : d.S e W base (fun k => ok k ∧ k ≠ g) v xs := by
 obtain ⟨A0, c0, hb, hg, hr0⟩ := h
 exact Kd.S_types ho hb ht
theorem IsS48.own_neS {w0 W : World} {g : Nat} {f0 : List Int} {f1 : Int} {f2 : Int} {α : Type} {d : Kd α} {e : Nat} {base : Nat} {ok : Nat → Prop} {v : Value} {xs : List α} (h : IsS48 w0 W g f0 f1 f2) (ho : d.S e W base ok v xs) (ht : e ≠ 48) : some g ≠ v.ownBlock := by
 obtain ⟨A0, c0, hb, hg, hr0⟩ := h
 exact Kd.S_ne ho hb ht
theorem IsS48.lt {w0 W : World} {g : Nat} {f0 : List Int} {f1 : Int} {f2 : Int} (h : IsS48 w0 W g f0 f1 f2) : g < W.heap.size := by
 obtain ⟨A0, c0, hb, hg, hr0⟩ := h
 exact blk_lt hb
theorem IsS48.ge {w0 W : World} {g : Nat} {f0 : List Int} {f1 : Int} {f2 : Int} (h : IsS48 w0 W g f0 f1 f2) : w0.heap.size ≤ g := by
 obtain ⟨A0, c0, hb, hg, hr0⟩ := h
 exact hg
theorem IsS48.ne_blk {w0 W : World} {g : Nat} {f0 : List Int} {f1 : Int} {f2 : Int} {a : Nat} {cs : Array Value} {t : TypeId} {fr : Nat × Nat} (h : IsS48 w0 W g f0 f1 f2) (hb2 : W.heap[a]? = some (.cells cs t fr)) (ht : t ≠ 48) : g ≠ a := by
 obtain ⟨A0, c0, hb, hg, hr0⟩ := h
 rintro rfl
 rw [hb] at hb2
 injection hb2 with hb2
 injection hb2 with _ ht2
 exact ht ht2.symm
theorem IsS48.far {w0 W : World} {g : Nat} {f0 : List Int} {f1 : Int} {f2 : Int} {p : Addr} (h : IsS48 w0 W g f0 f1 f2) (hne : g ≠ p.block) (u : Value) : IsS48 w0 (W.setCell p u) g f0 f1 f2 := by
 obtain ⟨A0, c0, hb, hg, hr0⟩ := h
 exact ⟨A0, c0, blk_far hb hne u, hg, hr0⟩
theorem cellS48_0 {W : World} {g : Nat} {A0 : Option Addr} {c0 : Nat} {f0 : List Int} {f1 : Int} {f2 : Int} (h : W.heap[g]? = some (.cells #[.slice A0 f0.length c0, .int .i64 f1, .int .i64 f2] 48 (0, 0))) : W.cell? ⟨g, 0, none⟩ = some (.slice A0 f0.length c0) := (blk_cell h 0).trans rfl
theorem cellS48_1 {W : World} {g : Nat} {A0 : Option Addr} {c0 : Nat} {f0 : List Int} {f1 : Int} {f2 : Int} (h : W.heap[g]? = some (.cells #[.slice A0 f0.length c0, .int .i64 f1, .int .i64 f2] 48 (0, 0))) : W.cell? ⟨g, 1, none⟩ = some (.int .i64 f1) := (blk_cell h 1).trans rfl
theorem IsS48.set_1 {w0 W : World} {g : Nat} {f0 : List Int} {f1 : Int} {f2 : Int} (h : IsS48 w0 W g f0 f1 f2) (x : Int) : IsS48 w0 (W.setCell ⟨g, 1, none⟩ (.int .i64 x)) g f0 x f2 := by
 obtain ⟨A0, c0, hb, hg, hr0⟩ := h
 exact ⟨A0, c0, by simpa using blk_set hb 1 (.int .i64 x), hg, hr0⟩
theorem cellS48_2 {W : World} {g : Nat} {A0 : Option Addr} {c0 : Nat} {f0 : List Int} {f1 : Int} {f2 : Int} (h : W.heap[g]? = some (.cells #[.slice A0 f0.length c0, .int .i64 f1, .int .i64 f2] 48 (0, 0))) : W.cell? ⟨g, 2, none⟩ = some (.int .i64 f2) := (blk_cell h 2).trans rfl
theorem IsS48.set_2 {w0 W : World} {g : Nat} {f0 : List Int} {f1 : Int} {f2 : Int} (h : IsS48 w0 W g f0 f1 f2) (x : Int) : IsS48 w0 (W.setCell ⟨g, 2, none⟩ (.int .i64 x)) g f0 f1 x := by
 obtain ⟨A0, c0, hb, hg, hr0⟩ := h
 exact ⟨A0, c0, by simpa using blk_set hb 2 (.int .i64 x), hg, hr0⟩
theorem IsS48.new (w0 W : World) (A0 : Option Addr) (c0 : Nat) (f0 : List Int) (f1 : Int) (f2 : Int) (hB : Below w0.heap.size w0 W) (hr0 : Kd.C (Kd.int .u8) w0 A0 f0.length f0) : IsS48 w0 (W.alloc (.cells #[.slice A0 f0.length c0, .int .i64 f1, .int .i64 f2] 48)) W.heap.size f0 f1 f2 := ⟨A0, c0, by simpa using heap_alloc_new W _, hB.size, hr0⟩

theorem IsS48.go {w0 W W2 : World} {g : Nat} {f0 : List Int} {xf0 : List Int} {f1 : Int} {xf1 : Int} {f2 : Int} {xf2 : Int} (b : Aside0 (IsS48 w0 W g f0 f1 f2)) (f : IsS48 w0 W g f0 f1 f2 → IsS48 w0 W2 g xf0 xf1 xf2 := by intro h; repeat (first | (with_reducible first | exact h | apply IsS48.alloc | apply IsS48.drewN | apply IsS48.drew | apply IsS48.set_1 | apply IsS48.set_2 | refine IsS48.far ?_ (Aside0.out (by assumption)) _) | exact h)) : IsS48 w0 W2 g xf0 xf1 xf2 := f b.out
theorem IsS48.tb {B : Nat} {u w w2 : World} (b : Aside0 (Below B u w)) (f : Below B u w → Below B u w2 := by intro h; repeat (first | (with_reducible first | exact h | apply below_alloc | apply pw_below_drewN | apply below_drew1 | refine below_set ?_ (Aside0.out (by assumption)) | refine below_set ?_ (IsS48.ge (Aside0.out (by assumption)))) | exact h)) : Below B u w2 := f b.out
def spec_l1Byte.f (s0_0 : List Int) (s0_1 : Int) (s0_2 : Int) : Option (Int × Int × Int) := if s0_1 < (s0_0.length : Int) then (if 0 ≤ s0_1 then (some (Go.bits .and .i64 (wrap64 ((Go.bits .and .i64 (Go.bits .xor .i64 ((wrap64 ((wrap64 (s0_2 * 6364136223846793005)) + 1442695040888963407)) / 8589934592) ((wrap64 ((wrap64 (s0_2 * 6364136223846793005)) + 1442695040888963407)) / 35184372088832)) 255) + (wrap64 (rd s0_0 s0_1)))) 255, wrap64 (s0_1 + 1), wrap64 ((wrap64 (s0_2 * 6364136223846793005)) + 1442695040888963407))) else (none)) else (some (Go.bits .and .i64 (Go.bits .xor .i64 ((wrap64 ((wrap64 (s0_2 * 6364136223846793005)) + 1442695040888963407)) / 8589934592) ((wrap64 ((wrap64 (s0_2 * 6364136223846793005)) + 1442695040888963407)) / 35184372088832)) 255, s0_1, wrap64 ((wrap64 (s0_2 * 6364136223846793005)) + 1442695040888963407)))
set_option maxHeartbeats 8000000 in
set_option maxRecDepth 100000 in
theorem spec_l1Byte.calls (g : Nat) (s0_0 : List Int) (s0_1 : Int) (s0_2 : Int) (r1 : Int) (r2 : Int) (r3 : Int) (w0 w : World) (hI : IsS48 w0 w g s0_0 s0_1 s0_2) (hB : Below w0.heap.size w0 w) (h : spec_l1Byte.f s0_0 s0_1 s0_2 = some (r1, r2, r3)) :
  Calls Tryd.prog 29 #[.pointer (some ⟨g, 0, none⟩)] w fun e w' => e = .returned (.int .i64 r1) ∧ IsS48 w0 w' g s0_0 r2 r3 ∧ Below w0.heap.size w0 w' ∧ KeepBut w w' g none := by
 have HI0 := Aside0.mk hI
 have HK := Aside0.mk (KeepBut.refl w g none)
 have HL := Aside0.mk hB.size
 clear hI
 have HW0 := Aside0.mk hB.size
 have HB := Aside0.mk hB
 clear hB
 have H : (if s0_1 < (s0_0.length : Int) then (if 0 ≤ s0_1 then (some (Go.bits .and .i64 (wrap64 ((Go.bits .and .i64 (Go.bits .xor .i64 ((wrap64 ((wrap64 (s0_2 * 6364136223846793005)) + 1442695040888963407)) / 8589934592) ((wrap64 ((wrap64 (s0_2 * 6364136223846793005)) + 1442695040888963407)) / 35184372088832)) 255) + (wrap64 (rd s0_0 s0_1)))) 255, wrap64 (s0_1 + 1), wrap64 ((wrap64 (s0_2 * 6364136223846793005)) + 1442695040888963407))) else (none)) else (some (Go.bits .and .i64 (Go.bits .xor .i64 ((wrap64 ((wrap64 (s0_2 * 6364136223846793005)) + 1442695040888963407)) / 8589934592) ((wrap64 ((wrap64 (s0_2 * 6364136223846793005)) + 1442695040888963407)) / 35184372088832)) 255, s0_1, wrap64 ((wrap64 (s0_2 * 6364136223846793005)) + 1442695040888963407)))) = some (r1, r2, r3) := h
 clear h
 by_cases c2 : s0_1 < (s0_0.length : Int)
 ·rw [if_pos c2] at H
  have c2b0 := decide_eq_true c2
  clear c2
  by_cases c3 : 0 ≤ s0_1
  ·rw [if_pos c3] at H
   have c3b0 := decide_eq_true c3
   clear c3
   simp only [Option.some.injEq, Prod.mk.injEq] at H
   obtain ⟨rfl, rfl, rfl⟩ := H
   obtain ⟨ASz4_0, cSz4_0, HGz4, hgz4, HSz4_0⟩ := HI0.out
   have hcz4_0 := cellS48_0 HGz4
   have hcz4_1 := cellS48_1 HGz4
   have hcz4_2 := cellS48_2 HGz4
   have hfz4_1 := blk_frozen HGz4 1
   have hfz4_2 := blk_frozen HGz4 2
   clear HGz4 hgz4
   have p136 : 0 ≤ (s0_1 : Int) := od
   have q136 : s0_1 < (s0_0.length : Int) := od
   obtain ⟨ad136, e136, hx136_0⟩ := Kd.at_int HSz4_0 s0_1 p136 q136
   cases e136
   have hn136_0 : ad136.block ≠ g := Nat.ne_of_lt (Nat.lt_of_lt_of_le (by have := World.block_lt_of_cell? _ _ hx136_0; first | rwa [add_block] at this | exact this) (IsS48.ge HI0.out))
   replace hx136_0 := pw_cell_below HB.out hx136_0
   replace hx136_0 := (cell_far (p := ⟨g, 2, none⟩) (by first | (rw [add_block]; exact hn136_0) | (show (Addr.add _ _).block ≠ _; rw [add_block]; exact hn136_0) | exact hn136_0) (.int .i64 (wrap64 ((wrap64 (s0_2 * 6364136223846793005)) + 1442695040888963407)))).trans hx136_0
   (try have hy136_0 := fun (n_ : Nat) => (show (((w.drewN n_).setCell ⟨g, 2, none⟩ (.int .i64 (wrap64 ((wrap64 (s0_2 * 6364136223846793005)) + 1442695040888963407))))).cell? _ = some _ from hx136_0))
   clear hn136_0
   replace p136 := eq_true p136
   replace q136 := eq_true q136
   go_enter Tryd.func29, Tryd.ntmps29
   go_wp2
   repeat (go_quiet (fail); try go_wp2)
   go_ret
   exact ⟨er, IsS48.go HI0, IsS48.tb HB, kp HK⟩
  ·rw [if_neg c3] at H
   exact absurd H (by simp)
 ·rw [if_neg c2] at H
  have c2b0 := decide_eq_false c2
  clear c2
  simp only [Option.some.injEq, Prod.mk.injEq] at H
  obtain ⟨rfl, rfl, rfl⟩ := H
  obtain ⟨ASz5_0, cSz5_0, HGz5, hgz5, HSz5_0⟩ := HI0.out
  have hcz5_0 := cellS48_0 HGz5
  have hcz5_1 := cellS48_1 HGz5
  have hcz5_2 := cellS48_2 HGz5
  have hfz5_1 := blk_frozen HGz5 1
  have hfz5_2 := blk_frozen HGz5 2
  clear HGz5 hgz5
  go_enter Tryd.func29, Tryd.ntmps29
  go_wp2
  repeat (go_quiet (fail); try go_wp2)
  go_ret
  exact ⟨er, IsS48.go HI0, IsS48.tb HB, kp HK⟩
def spec_l1Below.f (s0_0 : List Int) (s0_1 : Int) (s0_2 : Int) (a1 : Int) : Option (Int × Int × Int) := if a1 ≤ 0 then (some (0, s0_1, s0_2)) else (if a1 ≤ 256 then ((spec_l1Byte.f s0_0 s0_1 s0_2).bind fun bt137 => (if a1 = 0 then (none) else (some (Int.tmod bt137.1 a1, bt137.2.1, bt137.2.2)))) else ((spec_l1Byte.f s0_0 s0_1 s0_2).bind fun bt140 => ((spec_l1Byte.f s0_0 bt140.2.1 bt140.2.2).bind fun bt143 => ((spec_l1Byte.f s0_0 bt143.2.1 bt143.2.2).bind fun bt146 => ((spec_l1Byte.f s0_0 bt146.2.1 bt146.2.2).bind fun bt149 => (if a1 = 0 then (none) else (some (Int.tmod (wrap64 ((wrap64 ((wrap64 ((wrap64 (bt140.1 * 16777216)) + (wrap64 (bt143.1 * 65536)))) + (wrap64 (bt146.1 * 256)))) + bt149.1)) a1, bt149.2.1, bt149.2.2))))))))
set_option maxHeartbeats 8000000 in
set_option maxRecDepth 100000 in
theorem spec_l1Below.calls (g : Nat) (s0_0 : List Int) (s0_1 : Int) (s0_2 : Int) (a1 : Int) (r1 : Int) (r2 : Int) (r3 : Int) (w0 w : World) (hI : IsS48 w0 w g s0_0 s0_1 s0_2) (hB : Below w0.heap.size w0 w) (h : spec_l1Below.f s0_0 s0_1 s0_2 a1 = some (r1, r2, r3)) :
  Calls Tryd.prog 26 #[.pointer (some ⟨g, 0, none⟩), .int .i64 a1] w fun e w' => e = .returned (.int .i64 r1) ∧ IsS48 w0 w' g s0_0 r2 r3 ∧ Below w0.heap.size w0 w' ∧ KeepBut w w' g none := by
 have HI0 := Aside0.mk hI
 have HK := Aside0.mk (KeepBut.refl w g none)
 have HL := Aside0.mk hB.size
 clear hI
 have HW0 := Aside0.mk hB.size
 have HB := Aside0.mk hB
 clear hB
 have H : (if a1 ≤ 0 then (some (0, s0_1, s0_2)) else (if a1 ≤ 256 then ((spec_l1Byte.f s0_0 s0_1 s0_2).bind fun bt137 => (if a1 = 0 then (none) else (some (Int.tmod bt137.1 a1, bt137.2.1, bt137.2.2)))) else ((spec_l1Byte.f s0_0 s0_1 s0_2).bind fun bt140 => ((spec_l1Byte.f s0_0 bt140.2.1 bt140.2.2).bind fun bt143 => ((spec_l1Byte.f s0_0 bt143.2.1 bt143.2.2).bind fun bt146 => ((spec_l1Byte.f s0_0 bt146.2.1 bt146.2.2).bind fun bt149 => (if a1 = 0 then (none) else (some (Int.tmod (wrap64 ((wrap64 ((wrap64 ((wrap64 (bt140.1 * 16777216)) + (wrap64 (bt143.1 * 65536)))) + (wrap64 (bt146.1 * 256)))) + bt149.1)) a1, bt149.2.1, bt149.2.2))))))))) = some (r1, r2, r3) := h
 clear h
 by_cases c3 : a1 ≤ 0
 ·rw [if_pos c3] at H
  have c3b0 := decide_eq_true c3
  clear c3
  simp only [Option.some.injEq, Prod.mk.injEq] at H
  obtain ⟨rfl, rfl, rfl⟩ := H
  go_enter Tryd.func26, Tryd.ntmps26
  go_wp2
  go_ret
  exact ⟨er, IsS48.go HI0, IsS48.tb HB, kp HK⟩
 ·rw [if_neg c3] at H
  have c3b0 := decide_eq_false c3
  clear c3
  by_cases c4 : a1 ≤ 256
  ·rw [if_pos c4] at H
   have c4b0 := decide_eq_true c4
   clear c4
   replace H := Option.bind_eq_some_iff.mp H
   obtain ⟨⟨t137, t138, t139⟩, A50, H⟩ := H
   replace H : (if a1 = 0 then (none) else (some (Int.tmod t137 a1, t138, t139))) = some (r1, r2, r3) := H
   have A5 := Aside0.mk A50
   clear A50
   by_cases c6 : a1 = 0
   ·rw [if_pos c6] at H
    exact absurd H (by simp)
   ·rw [if_neg c6] at H
    have c6b0 : (a1 == 0) = false := beq_eq_false_iff_ne.mpr c6
    have c6b1 : (a1 != 0) = true := bne_iff_ne.mpr c6
    simp only [Option.some.injEq, Prod.mk.injEq] at H
    obtain ⟨rfl, rfl, rfl⟩ := H
    go_enter Tryd.func26, Tryd.ntmps26
    go_wp2_with (first | ((with_reducible refine gate_callee (f := 29) rfl ?_); refine gL 14 Tryd.func29 #[.pointer (some ⟨g, 0, none⟩)] ?_; (with_reducible refine (spec_l1Byte.calls g s0_0 s0_1 s0_2 t137 t138 t139 w0 _ ?side1 ?side2 A5.out).mono ?_); (case side1 => repeat (first | (with_reducible first | exact HI0.out | apply IsS48.alloc | apply IsS48.drewN | apply IsS48.drew | apply IsS48.set_1 | apply IsS48.set_2) | exact HI0.out)); (case side2 => repeat (first | (with_reducible first | exact HB.out | apply below_alloc | apply pw_below_drewN | apply below_drew1 | refine below_set ?_ (IsS48.ge HI0.out)) | exact HB.out)); rintro e w7 ⟨rfl, hi, hb, hk⟩; refine ⟨_, rfl, ?_⟩; replace HK := Aside0.mk (KeepBut.trans (kp HK) hk (.inl rfl)); replace HB := Aside0.mk (hb); replace HI0 := Aside0.mk (hi); (try clear hb); (try clear hb2); (try clear hk); (try clear hi)))
    go_ret
    exact ⟨er, IsS48.go HI0, IsS48.tb HB, kp HK⟩
  ·rw [if_neg c4] at H
   have c4b0 := decide_eq_false c4
   clear c4
   replace H := Option.bind_eq_some_iff.mp H
   obtain ⟨⟨t140, t141, t142⟩, A80, H⟩ := H
   replace H : ((spec_l1Byte.f s0_0 t141 t142).bind fun bt143 => ((spec_l1Byte.f s0_0 bt143.2.1 bt143.2.2).bind fun bt146 => ((spec_l1Byte.f s0_0 bt146.2.1 bt146.2.2).bind fun bt149 => (if a1 = 0 then (none) else (some (Int.tmod (wrap64 ((wrap64 ((wrap64 ((wrap64 (t140 * 16777216)) + (wrap64 (bt143.1 * 65536)))) + (wrap64 (bt146.1 * 256)))) + bt149.1)) a1, bt149.2.1, bt149.2.2)))))) = some (r1, r2, r3) := H
   have A8 := Aside0.mk A80
   clear A80
   replace H := Option.bind_eq_some_iff.mp H
   obtain ⟨⟨t143, t144, t145⟩, A90, H⟩ := H
   replace H : ((spec_l1Byte.f s0_0 t144 t145).bind fun bt146 => ((spec_l1Byte.f s0_0 bt146.2.1 bt146.2.2).bind fun bt149 => (if a1 = 0 then (none) else (some (Int.tmod (wrap64 ((wrap64 ((wrap64 ((wrap64 (t140 * 16777216)) + (wrap64 (t143 * 65536)))) + (wrap64 (bt146.1 * 256)))) + bt149.1)) a1, bt149.2.1, bt149.2.2))))) = some (r1, r2, r3) := H
   have A9 := Aside0.mk A90
   clear A90
   replace H := Option.bind_eq_some_iff.mp H
   obtain ⟨⟨t146, t147, t148⟩, A100, H⟩ := H
   replace H : ((spec_l1Byte.f s0_0 t147 t148).bind fun bt149 => (if a1 = 0 then (none) else (some (Int.tmod (wrap64 ((wrap64 ((wrap64 ((wrap64 (t140 * 16777216)) + (wrap64 (t143 * 65536)))) + (wrap64 (t146 * 256)))) + bt149.1)) a1, bt149.2.1, bt149.2.2)))) = some (r1, r2, r3) := H
   have A10 := Aside0.mk A100
   clear A100
   replace H := Option.bind_eq_some_iff.mp H
   obtain ⟨⟨t149, t150, t151⟩, A110, H⟩ := H
   replace H : (if a1 = 0 then (none) else (some (Int.tmod (wrap64 ((wrap64 ((wrap64 ((wrap64 (t140 * 16777216)) + (wrap64 (t143 * 65536)))) + (wrap64 (t146 * 256)))) + t149)) a1, t150, t151))) = some (r1, r2, r3) := H
   have A11 := Aside0.mk A110
   clear A110
   by_cases c12 : a1 = 0
   ·rw [if_pos c12] at H
    exact absurd H (by simp)
   ·rw [if_neg c12] at H
    have c12b0 : (a1 == 0) = false := beq_eq_false_iff_ne.mpr c12
    have c12b1 : (a1 != 0) = true := bne_iff_ne.mpr c12
    simp only [Option.some.injEq, Prod.mk.injEq] at H
    obtain ⟨rfl, rfl, rfl⟩ := H
    go_enter Tryd.func26, Tryd.ntmps26
    go_wp2_with (first | ((with_reducible refine gate_callee (f := 29) rfl ?_); refine gL 18 Tryd.func29 #[.pointer (some ⟨g, 0, none⟩)] ?_; (with_reducible refine (spec_l1Byte.calls g s0_0 s0_1 s0_2 t140 t141 t142 w0 _ ?side1 ?side2 A8.out).mono ?_); (case side1 => repeat (first | (with_reducible first | exact HI0.out | apply IsS48.alloc | apply IsS48.drewN | apply IsS48.drew | apply IsS48.set_1 | apply IsS48.set_2) | exact HI0.out)); (case side2 => repeat (first | (with_reducible first | exact HB.out | apply below_alloc | apply pw_below_drewN | apply below_drew1 | refine below_set ?_ (IsS48.ge HI0.out)) | exact HB.out)); rintro e w13 ⟨rfl, hi, hb, hk⟩; refine ⟨_, rfl, ?_⟩; replace HK := Aside0.mk (KeepBut.trans (kp HK) hk (.inl rfl)); replace HB := Aside0.mk (hb); replace HI0 := Aside0.mk (hi); (try clear hb); (try clear hb2); (try clear hk); (try clear hi)) | ((with_reducible refine gate_callee (f := 29) rfl ?_); refine gL 20 Tryd.func29 #[.pointer (some ⟨g, 0, none⟩)] ?_; (with_reducible refine (spec_l1Byte.calls g s0_0 t141 t142 t143 t144 t145 w0 _ ?side1 ?side2 A9.out).mono ?_); (case side1 => repeat (first | (with_reducible first | exact HI0.out | apply IsS48.alloc | apply IsS48.drewN | apply IsS48.drew | apply IsS48.set_1 | apply IsS48.set_2) | exact HI0.out)); (case side2 => repeat (first | (with_reducible first | exact HB.out | apply below_alloc | apply pw_below_drewN | apply below_drew1 | refine below_set ?_ (IsS48.ge HI0.out)) | exact HB.out)); rintro e w14 ⟨rfl, hi, hb, hk⟩; refine ⟨_, rfl, ?_⟩; replace HK := Aside0.mk (KeepBut.trans (kp HK) hk (.inl rfl)); replace HB := Aside0.mk (hb); replace HI0 := Aside0.mk (hi); (try clear hb); (try clear hb2); (try clear hk); (try clear hi)) | ((with_reducible refine gate_callee (f := 29) rfl ?_); refine gL 22 Tryd.func29 #[.pointer (some ⟨g, 0, none⟩)] ?_; (with_reducible refine (spec_l1Byte.calls g s0_0 t144 t145 t146 t147 t148 w0 _ ?side1 ?side2 A10.out).mono ?_); (case side1 => repeat (first | (with_reducible first | exact HI0.out | apply IsS48.alloc | apply IsS48.drewN | apply IsS48.drew | apply IsS48.set_1 | apply IsS48.set_2) | exact HI0.out)); (case side2 => repeat (first | (with_reducible first | exact HB.out | apply below_alloc | apply pw_below_drewN | apply below_drew1 | refine below_set ?_ (IsS48.ge HI0.out)) | exact HB.out)); rintro e w15 ⟨rfl, hi, hb, hk⟩; refine ⟨_, rfl, ?_⟩; replace HK := Aside0.mk (KeepBut.trans (kp HK) hk (.inl rfl)); replace HB := Aside0.mk (hb); replace HI0 := Aside0.mk (hi); (try clear hb); (try clear hb2); (try clear hk); (try clear hi)) | ((with_reducible refine gate_callee (f := 29) rfl ?_); refine gL 24 Tryd.func29 #[.pointer (some ⟨g, 0, none⟩)] ?_; (with_reducible refine (spec_l1Byte.calls g s0_0 t147 t148 t149 t150 t151 w0 _ ?side1 ?side2 A11.out).mono ?_); (case side1 => repeat (first | (with_reducible first | exact HI0.out | apply IsS48.alloc | apply IsS48.drewN | apply IsS48.drew | apply IsS48.set_1 | apply IsS48.set_2) | exact HI0.out)); (case side2 => repeat (first | (with_reducible first | exact HB.out | apply below_alloc | apply pw_below_drewN | apply below_drew1 | refine below_set ?_ (IsS48.ge HI0.out)) | exact HB.out)); rintro e w16 ⟨rfl, hi, hb, hk⟩; refine ⟨_, rfl, ?_⟩; replace HK := Aside0.mk (KeepBut.trans (kp HK) hk (.inl rfl)); replace HB := Aside0.mk (hb); replace HI0 := Aside0.mk (hi); (try clear hb); (try clear hb2); (try clear hk); (try clear hi)))
    go_ret
    exact ⟨er, IsS48.go HI0, IsS48.tb HB, kp HK⟩
def spec_l1PickInt.f (s0_0 : List Int) (s0_1 : Int) (s0_2 : Int) (l1 : List Int) : Option (Int × Int × Int) := (spec_l1Below.f s0_0 s0_1 s0_2 (l1.length : Int)).bind fun bt152 => (if 0 ≤ bt152.1 then (if bt152.1 < (l1.length : Int) then (some (rd l1 bt152.1, bt152.2.1, bt152.2.2)) else (none)) else (none))
set_option maxHeartbeats 8000000 in
set_option maxRecDepth 100000 in
theorem spec_l1PickInt.calls (g : Nat) (s0_0 : List Int) (s0_1 : Int) (s0_2 : Int) (A1 : Option Addr) (c1 : Nat) (l1 : List Int) (r1 : Int) (r2 : Int) (r3 : Int) (w0 w : World) (hI : IsS48 w0 w g s0_0 s0_1 s0_2) (hB : Below w0.heap.size w0 w) (hr1 : Kd.C (Kd.int .i64) w A1 l1.length l1) (hc1 : l1.length ≤ c1) (hf1 : ∀ ad, A1 = some ad → 0 < l1.length → ad.block ≠ g) (h : spec_l1PickInt.f s0_0 s0_1 s0_2 l1 = some (r1, r2, r3)) :
  Calls Tryd.prog 23 #[.pointer (some ⟨g, 0, none⟩), .slice A1 l1.length c1] w fun e w' => e = .returned (.int .i64 r1) ∧ IsS48 w0 w' g s0_0 r2 r3 ∧ Below w0.heap.size w0 w' ∧ KeepBut w w' g none := by
 have HR1 := Aside0.mk hr1
 have HC1 := Aside0.mk hc1
 clear hr1 hc1
 have HI0 := Aside0.mk hI
 have HK := Aside0.mk (KeepBut.refl w g none)
 have HL := Aside0.mk hB.size
 clear hI
 have HW0 := Aside0.mk hB.size
 have HB := Aside0.mk hB
 clear hB
 have H : ((spec_l1Below.f s0_0 s0_1 s0_2 (l1.length : Int)).bind fun bt152 => (if 0 ≤ bt152.1 then (if bt152.1 < (l1.length : Int) then (some (rd l1 bt152.1, bt152.2.1, bt152.2.2)) else (none)) else (none))) = some (r1, r2, r3) := h
 clear h
 replace H := Option.bind_eq_some_iff.mp H
 obtain ⟨⟨t152, t153, t154⟩, A30, H⟩ := H
 replace H : (if 0 ≤ t152 then (if t152 < (l1.length : Int) then (some (rd l1 t152, t153, t154)) else (none)) else (none)) = some (r1, r2, r3) := H
 have A3 := Aside0.mk A30
 clear A30
 by_cases c4 : 0 ≤ t152
 ·rw [if_pos c4] at H
  have c4b0 := decide_eq_true c4
  clear c4
  by_cases c5 : t152 < (l1.length : Int)
  ·rw [if_pos c5] at H
   have c5b0 := decide_eq_true c5
   clear c5
   simp only [Option.some.injEq, Prod.mk.injEq] at H
   obtain ⟨rfl, rfl, rfl⟩ := H
   go_enter Tryd.func23, Tryd.ntmps23
   go_wp2_with (first | ((with_reducible refine gate_callee (f := 26) rfl ?_); refine gL 9 Tryd.func26 #[.pointer (some ⟨g, 0, none⟩), .int .i64 (l1.length : Int)] ?_; (with_reducible refine (spec_l1Below.calls g s0_0 s0_1 s0_2 (l1.length : Int) t152 t153 t154 w0 _ ?side1 ?side2 A3.out).mono ?_); (case side1 => repeat (first | (with_reducible first | exact HI0.out | apply IsS48.alloc | apply IsS48.drewN | apply IsS48.drew | apply IsS48.set_1 | apply IsS48.set_2) | exact HI0.out)); (case side2 => repeat (first | (with_reducible first | exact HB.out | apply below_alloc | apply pw_below_drewN | apply below_drew1 | refine below_set ?_ (IsS48.ge HI0.out)) | exact HB.out)); rintro e w6 ⟨rfl, hi, hb, hk⟩; refine ⟨_, rfl, ?_⟩; replace HK := Aside0.mk (KeepBut.trans (kp HK) hk (.inl rfl)); replace HB := Aside0.mk (hb); replace HI0 := Aside0.mk (hi); (try clear hb); (try clear hb2); (try clear hk); (try clear hi); have p155 : 0 ≤ (t152 : Int) := od; have q155 : t152 < (l1.length : Int) := od; obtain ⟨ad155, e155, hx155_0⟩ := Kd.at_int HR1.out t152 p155 q155; cases e155; replace hx155_0 := keep_cell HK.out hx155_0 (by first | (rw [add_block]; exact hf1 _ rfl (by omega)) | exact hf1 _ rfl (by omega) | exact hf1 ad155 rfl (by omega)); replace p155 := eq_true p155; replace q155 := eq_true q155))
   go_ret
   exact ⟨er, IsS48.go HI0, IsS48.tb HB, kp HK⟩
  ·rw [if_neg c5] at H
   exact absurd H (by simp)
 ·rw [if_neg c4] at H
  exact absurd H (by simp)
def spec_l1New.l0 : Nat → List Int → Int → Int → Option (List Int × Int × Int)
 | 0, _, _, _ => none
 | k + 1, x0, x3, x4 => if x4 < (x0.length : Int) then (if x4 < 4000 then (if 0 ≤ x4 then (spec_l1New.l0 k x0 (Go.bits .and .i64 (wrap64 ((wrap64 ((wrap64 (x3 * 131)) + (wrap64 (rd x0 x4)))) + 7)) 1073741823) (wrap64 (x4 + 1))) else (none)) else (some (x0, 0, x3))) else (some (x0, 0, x3))
def spec_l1New.f (k : Nat) (l0 : List Int) : Option (List Int × Int × Int) := spec_l1New.l0 k l0 (wrap64 (27323 + (l0.length : Int))) 0
theorem spec_l1New.mono_l : ∀ k, (∀ y0 y1 y2, LeO (spec_l1New.l0 k y0 y1 y2) (spec_l1New.l0 (k + 1) y0 y1 y2))
 | 0 => fun _ _ _ r h => by simp [spec_l1New.l0] at h
 | k + 1 => by
  have ih0 := spec_l1New.mono_l k
  ·intro y0 y1 y2
   unfold spec_l1New.l0
   repeat' first
   | (with_reducible exact ih0 _ _ _)
   | (with_reducible exact LeO.refl _)
   | (with_reducible exact LeO.none _)
   | (with_reducible refine LeO.ite ?_ ?_)
   | (with_reducible refine LeO.bind ?_ (fun _ => ?_))
   | exact ih0 _ _ _
   | exact LeO.none _
   | refine LeO.ite ?_ ?_
   | refine LeO.bind ?_ (fun _ => ?_)
theorem spec_l1New.mono : ∀ a0 k, LeO (spec_l1New.f k a0) (spec_l1New.f (k + 1) a0) := by
 intro a0 k
 have ih0 := spec_l1New.mono_l k
 unfold spec_l1New.f
 repeat' first
   | (with_reducible exact ih0 _ _ _)
   | (with_reducible exact LeO.refl _)
   | (with_reducible exact LeO.none _)
   | (with_reducible refine LeO.ite ?_ ?_)
   | (with_reducible refine LeO.bind ?_ (fun _ => ?_))
   | exact ih0 _ _ _
   | exact LeO.none _
   | refine LeO.ite ?_ ?_
   | refine LeO.bind ?_ (fun _ => ?_)
set_option maxHeartbeats 8000000 in
set_option maxRecDepth 100000 in
theorem spec_l1New.calls (k : Nat) (A0 : Option Addr) (c0 : Nat) (l0 : List Int) (r1 : List Int) (r2 : Int) (r3 : Int) (w0 w : World) (hB : Below w0.heap.size w0 w) (hr0 : Kd.C (Kd.int .u8) w0 A0 l0.length l0) (hc0 : l0.length ≤ c0) (h : spec_l1New.f k l0 = some (r1, r2, r3)) :
  Calls Tryd.prog 24 #[.slice A0 l0.length c0] w fun e w' => ∃ g_ : Nat, e = .returned (.pointer (some ⟨g_, 0, none⟩)) ∧ IsS48 w0 w' g_ r1 r2 r3 ∧ Below w0.heap.size w0 w' ∧ Below w.heap.size w w' := by
 have hu48 := Tryd.underlying48
 have HR0 := Aside0.mk hr0
 have HC0 := Aside0.mk hc0
 clear hr0 hc0
 have HBW := Aside0.mk (Below.refl w.heap.size w)
 have HW0 := Aside0.mk hB.size
 have HB := Aside0.mk hB
 clear hB
 have H : (spec_l1New.l0 k l0 (wrap64 (27323 + (l0.length : Int))) 0) = some (r1, r2, r3) := h
 clear h
 have H' := Aside0.mk H
 clear H
 go_enter Tryd.func24, Tryd.ntmps24
 go_wp2
 go_loopg [3, 4] k (fun kq v3 v4 w' => ∃ (x3_1 : Int) (x4_1 : Int), v3 = .int .i64 x3_1 ∧ v4 = .int .i64 x4_1 ∧ Aside0 (spec_l1New.l0 kq l0 x3_1 x4_1 = some (r1, r2, r3)) ∧ Aside0 (kq ≤ k) ∧ Aside0 (Below w.heap.size w w') ∧ Aside0 (Below w0.heap.size w0 w'))
 case atStart => exact ⟨(wrap64 (27323 + (l0.length : Int))), (0), (by first | rfl | (simp; done) | (simp [*]; done)), (by first | rfl | (simp; done) | (simp [*]; done)), H', ⟨Nat.le_refl _⟩, ⟨tb HBW⟩, ⟨tb HB⟩⟩
 case round =>
  clear H'
  obtain ⟨x3_1, x4_1, rfl, rfl, HA, HK1, HBW, HB⟩ := hrel
  cases gk with
  | zero => exact absurd HA.out (by simp [spec_l1New.l0])
  | succ k1 =>
   have H := HA.out
   clear HA
   simp only [spec_l1New.l0] at H
   by_cases c2 : x4_1 < (l0.length : Int)
   ·rw [if_pos c2] at H
    have c2b0 := decide_eq_true c2
    clear c2
    by_cases c3 : x4_1 < 4000
    ·rw [if_pos c3] at H
     have c3b0 := decide_eq_true c3
     clear c3
     by_cases c4 : 0 ≤ x4_1
     ·rw [if_pos c4] at H
      have c4b0 := decide_eq_true c4
      clear c4
      have H' := Aside0.mk H
      clear H
      have p156 : 0 ≤ (x4_1 : Int) := od
      have q156 : x4_1 < (l0.length : Int) := od
      obtain ⟨ad156, e156, hx156_0⟩ := Kd.at_int HR0.out x4_1 p156 q156
      cases e156
      replace hx156_0 := pw_cell_below HB.out hx156_0
      replace p156 := eq_true p156
      replace q156 := eq_true q156
      go_wp2
      go_roundg k1
      case measure => have := HK1.out; omega
      case rel => exact ⟨(Go.bits .and .i64 (wrap64 ((wrap64 ((wrap64 (x3_1 * 131)) + (wrap64 (rd l0 x4_1)))) + 7)) 1073741823), (wrap64 (x4_1 + 1)), (by first | rfl | (simp; done) | (simp [*]; done)), (by first | rfl | (simp; done) | (simp [*]; done)), H', ⟨by have := HK1.out; omega⟩, ⟨tb HBW⟩, ⟨tb HB⟩⟩
     ·rw [if_neg c4] at H
      exact absurd H (by simp)
    ·rw [if_neg c3] at H
     have c3b0 := decide_eq_false c3
     clear c3
     simp only [Option.some.injEq, Prod.mk.injEq] at H
     obtain ⟨rfl, rfl, rfl⟩ := H
     go_wp2_with (first | ((with_reducible refine gate_dst (N := 31) rfl ?_); refine bx (N := 31) (cs := #[.slice A0 l0.length c0, .int .i64 0, .int .i64 x3_1]) (t := 48) ?_; intro gb157 hg w5 hbox hb; replace HB := bs HB hb; have BK157 := Aside0.mk (hbox); have GW157 := Aside0.mk (ge_ hg HBW); have GE157 := Aside0.mk ((Nat.le_trans HW0.out (by rw [hg]; exact (below_size (tb HBW)) : w.heap.size ≤ gb157) : w0.heap.size ≤ gb157)); replace HBW := Aside0.mk (below_step HBW.out hb); clear hb hbox hg))
     go_ret
     exact ⟨_, rfl, (show IsS48 w0 _ gb157 l0 0 x3_1 from ⟨_, _, by (with_reducible repeat (first | refine blk_drewN ?_ _ | refine blk_drew ?_ | refine blk_alloc ?_ _)); exact BK157.out, GE157.out, HR0.out⟩), tb HB, by repeat (first | (with_reducible first | exact HBW.out | apply below_alloc | apply pw_below_drewN | apply below_drew1 | refine below_set ?_ GW157.out) | exact HBW.out)⟩
   ·rw [if_neg c2] at H
    have c2b0 := decide_eq_false c2
    clear c2
    simp only [Option.some.injEq, Prod.mk.injEq] at H
    obtain ⟨rfl, rfl, rfl⟩ := H
    go_wp2_with (first | ((with_reducible refine gate_dst (N := 31) rfl ?_); refine bx (N := 31) (cs := #[.slice A0 l0.length c0, .int .i64 0, .int .i64 x3_1]) (t := 48) ?_; intro gb158 hg w6 hbox hb; replace HB := bs HB hb; have BK158 := Aside0.mk (hbox); have GW158 := Aside0.mk (ge_ hg HBW); have GE158 := Aside0.mk ((Nat.le_trans HW0.out (by rw [hg]; exact (below_size (tb HBW)) : w.heap.size ≤ gb158) : w0.heap.size ≤ gb158)); replace HBW := Aside0.mk (below_step HBW.out hb); clear hb hbox hg))
    go_ret
    exact ⟨_, rfl, (show IsS48 w0 _ gb158 l0 0 x3_1 from ⟨_, _, by (with_reducible repeat (first | refine blk_drewN ?_ _ | refine blk_drew ?_ | refine blk_alloc ?_ _)); exact BK158.out, GE158.out, HR0.out⟩), tb HB, by repeat (first | (with_reducible first | exact HBW.out | apply below_alloc | apply pw_below_drewN | apply below_drew1 | refine below_set ?_ GW158.out) | exact HBW.out)⟩
def spec_DrawDigits.f (k : Nat) (l0 : List Int) : Option (Int) := (spec_l1New.f k l0).bind fun bt159 => ((spec_l1PickInt.f bt159.1 bt159.2.1 bt159.2.2 (([0, 7, (-12), 100000, 9223372036854775807, (-9223372036854775808)] : List Int))).bind fun bt166 => (some bt166.1))
theorem spec_DrawDigits.mono : ∀ a0 k, LeO (spec_DrawDigits.f k a0) (spec_DrawDigits.f (k + 1) a0) := by
 intro a0 k
 unfold spec_DrawDigits.f
 repeat' first
   | (with_reducible exact spec_l1New.mono _ _)
   | (with_reducible exact LeO.refl _)
   | (with_reducible exact LeO.none _)
   | (with_reducible refine LeO.ite ?_ ?_)
   | (with_reducible refine LeO.bind ?_ (fun _ => ?_))
   | exact spec_l1New.mono _ _
   | exact LeO.none _
   | refine LeO.ite ?_ ?_
   | refine LeO.bind ?_ (fun _ => ?_)
set_option maxHeartbeats 8000000 in
set_option maxRecDepth 100000 in
theorem spec_DrawDigits.calls (k : Nat) (A0 : Option Addr) (c0 : Nat) (l0 : List Int) (r : Int) (w : World) (hr0 : Kd.C (Kd.int .u8) w A0 l0.length l0) (hc0 : l0.length ≤ c0) (h : spec_DrawDigits.f k l0 = some r) :
  Calls Tryd.prog 11 #[.slice A0 l0.length c0] w fun e w' => e = .returned (.int .i64 r) ∧ Below w.heap.size w w' := by
 have HR0 := Aside0.mk hr0
 have HC0 := Aside0.mk hc0
 clear hr0 hc0
 have HB := Aside0.mk (Below.refl w.heap.size w)
 have H : ((spec_l1New.f k l0).bind fun bt159 => ((spec_l1PickInt.f bt159.1 bt159.2.1 bt159.2.2 (([0, 7, (-12), 100000, 9223372036854775807, (-9223372036854775808)] : List Int))).bind fun bt166 => (some bt166.1))) = some r := h
 clear h
 replace H := Option.bind_eq_some_iff.mp H
 obtain ⟨⟨t159, t160, t161⟩, A20, H⟩ := H
 replace H : ((spec_l1PickInt.f t159 t160 t161 (([0, 7, (-12), 100000, 9223372036854775807, (-9223372036854775808)] : List Int))).bind fun bt166 => (some bt166.1)) = some r := H
 have A2 := Aside0.mk A20
 clear A20
 obtain ⟨y163, hy163⟩ : ∃ y_ : List Int, y_ = (([0, 7, (-12), 100000, 9223372036854775807, (-9223372036854775808)] : List Int)) := ⟨_, rfl⟩
 replace H : ((spec_l1PickInt.f t159 t160 t161 y163).bind fun bt166 => (some bt166.1)) = some r := by first | (rw [hy163]; with_reducible exact H) | (have H2_ := (Option.bind_some _ _).symm.trans H; rw [hy163]; with_reducible exact H2_) | (have H2_ := (Option.bind_some _ _).symm.trans H; with_reducible exact H2_) | with_reducible exact H | (rw [hy163]; exact H) | exact H
 have Ny163 := Aside0.mk hy163
 clear hy163
 replace H := Option.bind_eq_some_iff.mp H
 obtain ⟨⟨t166, t167, t168⟩, A30, H⟩ := H
 replace H : (some t166) = some r := H
 have A3 := Aside0.mk A30
 clear A30
 obtain rfl := Option.some.inj H
 go_enter Tryd.func11, Tryd.ntmps11
 go_wp2_with (first | ((with_reducible refine gate_callee (f := 24) rfl ?_); refine gL 4 Tryd.func24 #[.slice A0 l0.length c0] ?_; (with_reducible refine (spec_l1New.calls k _ _ l0 t159 t160 t161 w _ ?side1 ?side2 ?side3 A2.out).mono ?_); (case side1 => repeat (first | (with_reducible first | exact HB.out | apply below_alloc | apply pw_below_drewN | apply below_drew1) | exact HB.out)); (case side2 => exact HR0.out); (case side3 => exact HC0.out); rintro e w4 ⟨g162, rfl, hi, hb, hb2⟩; refine ⟨_, rfl, ?_⟩; replace HB := Aside0.mk (hb); have HI162 := Aside0.mk (hi); (try clear hb); (try clear hb2); (try clear hk); (try clear hi)) | ((with_reducible refine gate_dst (N := 5) rfl ?_); refine Kd.R_lit (Kd.int .i64) _ 3 ?hg (N := 5) ?hd (xs := ([0, 7, (-12), 100000, 9223372036854775807, (-9223372036854775808)] : List Int)) (inner := [.int .i64 0, .int .i64 7, .int .i64 (-12), .int .i64 100000, .int .i64 9223372036854775807, .int .i64 (-9223372036854775808)]) (ok := fun _ => True) (okp := fun _ => True) ?hr ?hp (fun _ hk => hk) trivial (Below.refl _ _) (Nat.le_refl _) (by simp) ?_; (case hd => rfl); (case hg => rfl); (case hr => first | (go_simp; done) | (go_simp; rfl)); (case hp => exact (Reps.one (show Kd.M (Kd.int .i64) _ _ _ 0 [.int .i64 0] from rfl) (Reps.one (show Kd.M (Kd.int .i64) _ _ _ 7 [.int .i64 7] from rfl) (Reps.one (show Kd.M (Kd.int .i64) _ _ _ (-12) [.int .i64 (-12)] from rfl) (Reps.one (show Kd.M (Kd.int .i64) _ _ _ 100000 [.int .i64 100000] from rfl) (Reps.one (show Kd.M (Kd.int .i64) _ _ _ 9223372036854775807 [.int .i64 9223372036854775807] from rfl) (Reps.one (show Kd.M (Kd.int .i64) _ _ _ (-9223372036854775808) [.int .i64 (-9223372036854775808)] from rfl) (Reps.none _ _)))))))); intro v164 w5 ho6 hb hg_ hnew_; clear hg_ hnew_; (first | rw [← Ny163.out] at ho6 | (simp only [Int.reduceToNat] at ho6; rw [← Ny163.out] at ho6)); have HO165 := Aside0.mk (Kd.R_lower ho6 (below_size (IsS48.tb HB))); replace HI162 := Aside0.mk (IsS48.below (IsS48.go HI162) hb); replace HB := Aside0.mk (below_step (IsS48.tb HB) hb); clear hb ho6; obtain ⟨Ao7, co7, eo7⟩ := Kd.R_slice HO165.out; subst eo7) | ((with_reducible refine gate_callee (f := 23) rfl ?_); refine gL 6 Tryd.func23 #[.pointer (some ⟨g162, 0, none⟩), .slice Ao7 y163.length co7] ?_; (with_reducible refine (spec_l1PickInt.calls g162 t159 t160 t161 _ _ y163 t166 t167 t168 w _ ?side1 ?side2 ?side3 ?side4 ?side5 A3.out).mono ?_); (case side1 => repeat (first | (with_reducible first | exact HI162.out | apply IsS48.alloc | apply IsS48.drewN | apply IsS48.drew | apply IsS48.set_1 | apply IsS48.set_2) | exact HI162.out)); (case side2 => repeat (first | (with_reducible first | exact HB.out | apply below_alloc | apply pw_below_drewN | apply below_drew1 | refine below_set ?_ (IsS48.ge HI162.out)) | exact HB.out)); (case side3 => repeat (first | exact (Kd.R_reads' HO165.out).2.2 | (with_reducible refine Kd.C_alloc ?_ _) | (with_reducible refine Kd.C_drewN ?_ _) | (with_reducible refine Kd.C_drew ?_))); (case side4 => exact (Kd.R_reads' HO165.out).2.1); (case side5 => exact far_slice (IsS48.own_ne HI162.out HO165.out (by decide))); rintro e w8 ⟨rfl, hi, hb, hk⟩; refine ⟨_, rfl, ?_⟩; replace HO165 := Aside0.mk (Kd.R_mono (Kd.R_keep (IsS48.apart (show IsS48 w _ g162 t159 t160 t161 from IsS48.go HI162) (kr HO165.out) (by decide)) hk (fun _ h => h.2)) (fun _ h => h.1)); replace HB := Aside0.mk (hb); replace HI162 := Aside0.mk (hi); (try clear hb); (try clear hb2); (try clear hk); (try clear hi)))
 go_ret
 exact ⟨er, IsS48.tb HB⟩
def spec_l1Pick.f (s0_0 : List Int) (s0_1 : Int) (s0_2 : Int) (l1 : List ByteArray) : Option (ByteArray × Int × Int) := (spec_l1Below.f s0_0 s0_1 s0_2 (l1.length : Int)).bind fun bt169 => (if 0 ≤ bt169.1 then (if bt169.1 < (l1.length : Int) then (some (rdOf ByteArray.empty l1 bt169.1, bt169.2.1, bt169.2.2)) else (none)) else (none))
set_option maxHeartbeats 8000000 in
set_option maxRecDepth 100000 in
theorem spec_l1Pick.calls (g : Nat) (s0_0 : List Int) (s0_1 : Int) (s0_2 : Int) (A1 : Option Addr) (c1 : Nat) (l1 : List ByteArray) (r1 : ByteArray) (r2 : Int) (r3 : Int) (w0 w : World) (hI : IsS48 w0 w g s0_0 s0_1 s0_2) (hB : Below w0.heap.size w0 w) (hr1 : Kd.C Kd.string w A1 l1.length l1) (hc1 : l1.length ≤ c1) (hf1 : ∀ ad, A1 = some ad → 0 < l1.length → ad.block ≠ g) (h : spec_l1Pick.f s0_0 s0_1 s0_2 l1 = some (r1, r2, r3)) :
  Calls Tryd.prog 25 #[.pointer (some ⟨g, 0, none⟩), .slice A1 l1.length c1] w fun e w' => e = .returned (.string r1) ∧ IsS48 w0 w' g s0_0 r2 r3 ∧ Below w0.heap.size w0 w' ∧ KeepBut w w' g none := by
 have HR1 := Aside0.mk hr1
 have HC1 := Aside0.mk hc1
 clear hr1 hc1
 have HI0 := Aside0.mk hI
 have HK := Aside0.mk (KeepBut.refl w g none)
 have HL := Aside0.mk hB.size
 clear hI
 have HW0 := Aside0.mk hB.size
 have HB := Aside0.mk hB
 clear hB
 have H : ((spec_l1Below.f s0_0 s0_1 s0_2 (l1.length : Int)).bind fun bt169 => (if 0 ≤ bt169.1 then (if bt169.1 < (l1.length : Int) then (some (rdOf ByteArray.empty l1 bt169.1, bt169.2.1, bt169.2.2)) else (none)) else (none))) = some (r1, r2, r3) := h
 clear h
 replace H := Option.bind_eq_some_iff.mp H
 obtain ⟨⟨t169, t170, t171⟩, A30, H⟩ := H
 replace H : (if 0 ≤ t169 then (if t169 < (l1.length : Int) then (some (rdOf ByteArray.empty l1 t169, t170, t171)) else (none)) else (none)) = some (r1, r2, r3) := H
 have A3 := Aside0.mk A30
 clear A30
 by_cases c4 : 0 ≤ t169
 ·rw [if_pos c4] at H
  have c4b0 := decide_eq_true c4
  clear c4
  by_cases c5 : t169 < (l1.length : Int)
  ·rw [if_pos c5] at H
   have c5b0 := decide_eq_true c5
   clear c5
   simp only [Option.some.injEq, Prod.mk.injEq] at H
   obtain ⟨rfl, rfl, rfl⟩ := H
   go_enter Tryd.func25, Tryd.ntmps25
   go_wp2_with (first | ((with_reducible refine gate_callee (f := 26) rfl ?_); refine gL 9 Tryd.func26 #[.pointer (some ⟨g, 0, none⟩), .int .i64 (l1.length : Int)] ?_; (with_reducible refine (spec_l1Below.calls g s0_0 s0_1 s0_2 (l1.length : Int) t169 t170 t171 w0 _ ?side1 ?side2 A3.out).mono ?_); (case side1 => repeat (first | (with_reducible first | exact HI0.out | apply IsS48.alloc | apply IsS48.drewN | apply IsS48.drew | apply IsS48.set_1 | apply IsS48.set_2) | exact HI0.out)); (case side2 => repeat (first | (with_reducible first | exact HB.out | apply below_alloc | apply pw_below_drewN | apply below_drew1 | refine below_set ?_ (IsS48.ge HI0.out)) | exact HB.out)); rintro e w6 ⟨rfl, hi, hb, hk⟩; refine ⟨_, rfl, ?_⟩; replace HK := Aside0.mk (KeepBut.trans (kp HK) hk (.inl rfl)); replace HB := Aside0.mk (hb); replace HI0 := Aside0.mk (hi); (try clear hb); (try clear hb2); (try clear hk); (try clear hi); have p172 : 0 ≤ (t169 : Int) := od; have q172 : t169 < (l1.length : Int) := od; obtain ⟨ad172, e172, hx172_0⟩ := Kd.at_string HR1.out t169 p172 q172; cases e172; replace hx172_0 := keep_cell HK.out hx172_0 (by first | (rw [add_block]; exact hf1 _ rfl (by omega)) | exact hf1 _ rfl (by omega) | exact hf1 ad172 rfl (by omega)); replace p172 := eq_true p172; replace q172 := eq_true q172))
   go_ret
   exact ⟨er, IsS48.go HI0, IsS48.tb HB, kp HK⟩
  ·rw [if_neg c5] at H
   exact absurd H (by simp)
 ·rw [if_neg c4] at H
  exact absurd H (by simp)
def spec_DrawNumber.f (k : Nat) (l0 : List Int) : Option (ByteArray) := (spec_l1New.f k l0).bind fun bt173 => ((spec_l1Pick.f bt173.1 bt173.2.1 bt173.2.2 (([(⟨#[48]⟩ : ByteArray), (⟨#[55]⟩ : ByteArray), (⟨#[57, 57, 57, 57, 57, 57]⟩ : ByteArray), (⟨#[49, 48, 48, 48, 48, 48, 48]⟩ : ByteArray), (⟨#[48, 49]⟩ : ByteArray), (⟨#[]⟩ : ByteArray), (⟨#[45, 49]⟩ : ByteArray), (⟨#[120]⟩ : ByteArray), (⟨#[49, 50, 97]⟩ : ByteArray)] : List ByteArray))).bind fun bt180 => (some bt180.1))
theorem spec_DrawNumber.mono : ∀ a0 k, LeO (spec_DrawNumber.f k a0) (spec_DrawNumber.f (k + 1) a0) := by
 intro a0 k
 unfold spec_DrawNumber.f
 repeat' first
   | (with_reducible exact spec_l1New.mono _ _)
   | (with_reducible exact LeO.refl _)
   | (with_reducible exact LeO.none _)
   | (with_reducible refine LeO.ite ?_ ?_)
   | (with_reducible refine LeO.bind ?_ (fun _ => ?_))
   | exact spec_l1New.mono _ _
   | exact LeO.none _
   | refine LeO.ite ?_ ?_
   | refine LeO.bind ?_ (fun _ => ?_)
set_option maxHeartbeats 8000000 in
set_option maxRecDepth 100000 in
theorem spec_DrawNumber.calls (k : Nat) (A0 : Option Addr) (c0 : Nat) (l0 : List Int) (r : ByteArray) (w : World) (hr0 : Kd.C (Kd.int .u8) w A0 l0.length l0) (hc0 : l0.length ≤ c0) (h : spec_DrawNumber.f k l0 = some r) :
  Calls Tryd.prog 12 #[.slice A0 l0.length c0] w fun e w' => e = .returned (.string r) ∧ Below w.heap.size w w' := by
 have HR0 := Aside0.mk hr0
 have HC0 := Aside0.mk hc0
 clear hr0 hc0
 have HB := Aside0.mk (Below.refl w.heap.size w)
 have H : ((spec_l1New.f k l0).bind fun bt173 => ((spec_l1Pick.f bt173.1 bt173.2.1 bt173.2.2 (([(⟨#[48]⟩ : ByteArray), (⟨#[55]⟩ : ByteArray), (⟨#[57, 57, 57, 57, 57, 57]⟩ : ByteArray), (⟨#[49, 48, 48, 48, 48, 48, 48]⟩ : ByteArray), (⟨#[48, 49]⟩ : ByteArray), (⟨#[]⟩ : ByteArray), (⟨#[45, 49]⟩ : ByteArray), (⟨#[120]⟩ : ByteArray), (⟨#[49, 50, 97]⟩ : ByteArray)] : List ByteArray))).bind fun bt180 => (some bt180.1))) = some r := h
 clear h
 replace H := Option.bind_eq_some_iff.mp H
 obtain ⟨⟨t173, t174, t175⟩, A20, H⟩ := H
 replace H : ((spec_l1Pick.f t173 t174 t175 (([(⟨#[48]⟩ : ByteArray), (⟨#[55]⟩ : ByteArray), (⟨#[57, 57, 57, 57, 57, 57]⟩ : ByteArray), (⟨#[49, 48, 48, 48, 48, 48, 48]⟩ : ByteArray), (⟨#[48, 49]⟩ : ByteArray), (⟨#[]⟩ : ByteArray), (⟨#[45, 49]⟩ : ByteArray), (⟨#[120]⟩ : ByteArray), (⟨#[49, 50, 97]⟩ : ByteArray)] : List ByteArray))).bind fun bt180 => (some bt180.1)) = some r := H
 have A2 := Aside0.mk A20
 clear A20
 obtain ⟨y177, hy177⟩ : ∃ y_ : List ByteArray, y_ = (([(⟨#[48]⟩ : ByteArray), (⟨#[55]⟩ : ByteArray), (⟨#[57, 57, 57, 57, 57, 57]⟩ : ByteArray), (⟨#[49, 48, 48, 48, 48, 48, 48]⟩ : ByteArray), (⟨#[48, 49]⟩ : ByteArray), (⟨#[]⟩ : ByteArray), (⟨#[45, 49]⟩ : ByteArray), (⟨#[120]⟩ : ByteArray), (⟨#[49, 50, 97]⟩ : ByteArray)] : List ByteArray)) := ⟨_, rfl⟩
 replace H : ((spec_l1Pick.f t173 t174 t175 y177).bind fun bt180 => (some bt180.1)) = some r := by first | (rw [hy177]; with_reducible exact H) | (have H2_ := (Option.bind_some _ _).symm.trans H; rw [hy177]; with_reducible exact H2_) | (have H2_ := (Option.bind_some _ _).symm.trans H; with_reducible exact H2_) | with_reducible exact H | (rw [hy177]; exact H) | exact H
 have Ny177 := Aside0.mk hy177
 clear hy177
 replace H := Option.bind_eq_some_iff.mp H
 obtain ⟨⟨t180, t181, t182⟩, A30, H⟩ := H
 replace H : (some t180) = some r := H
 have A3 := Aside0.mk A30
 clear A30
 obtain rfl := Option.some.inj H
 go_enter Tryd.func12, Tryd.ntmps12
 go_wp2_with (first | ((with_reducible refine gate_callee (f := 24) rfl ?_); refine gL 4 Tryd.func24 #[.slice A0 l0.length c0] ?_; (with_reducible refine (spec_l1New.calls k _ _ l0 t173 t174 t175 w _ ?side1 ?side2 ?side3 A2.out).mono ?_); (case side1 => repeat (first | (with_reducible first | exact HB.out | apply below_alloc | apply pw_below_drewN | apply below_drew1) | exact HB.out)); (case side2 => exact HR0.out); (case side3 => exact HC0.out); rintro e w4 ⟨g176, rfl, hi, hb, hb2⟩; refine ⟨_, rfl, ?_⟩; replace HB := Aside0.mk (hb); have HI176 := Aside0.mk (hi); (try clear hb); (try clear hb2); (try clear hk); (try clear hi)) | ((with_reducible refine gate_dst (N := 5) rfl ?_); refine Kd.R_lit Kd.string _ 9 ?hg (N := 5) ?hd (xs := ([(⟨#[48]⟩ : ByteArray), (⟨#[55]⟩ : ByteArray), (⟨#[57, 57, 57, 57, 57, 57]⟩ : ByteArray), (⟨#[49, 48, 48, 48, 48, 48, 48]⟩ : ByteArray), (⟨#[48, 49]⟩ : ByteArray), (⟨#[]⟩ : ByteArray), (⟨#[45, 49]⟩ : ByteArray), (⟨#[120]⟩ : ByteArray), (⟨#[49, 50, 97]⟩ : ByteArray)] : List ByteArray)) (inner := [.string (⟨#[48]⟩ : ByteArray), .string (⟨#[55]⟩ : ByteArray), .string (⟨#[57, 57, 57, 57, 57, 57]⟩ : ByteArray), .string (⟨#[49, 48, 48, 48, 48, 48, 48]⟩ : ByteArray), .string (⟨#[48, 49]⟩ : ByteArray), .string (⟨#[]⟩ : ByteArray), .string (⟨#[45, 49]⟩ : ByteArray), .string (⟨#[120]⟩ : ByteArray), .string (⟨#[49, 50, 97]⟩ : ByteArray)]) (ok := fun _ => True) (okp := fun _ => True) ?hr ?hp (fun _ hk => hk) trivial (Below.refl _ _) (Nat.le_refl _) (by simp) ?_; (case hd => rfl); (case hg => rfl); (case hr => first | (go_simp; done) | (go_simp; rfl)); (case hp => exact (Reps.one (show Kd.M Kd.string _ _ _ (⟨#[48]⟩ : ByteArray) [.string (⟨#[48]⟩ : ByteArray)] from rfl) (Reps.one (show Kd.M Kd.string _ _ _ (⟨#[55]⟩ : ByteArray) [.string (⟨#[55]⟩ : ByteArray)] from rfl) (Reps.one (show Kd.M Kd.string _ _ _ (⟨#[57, 57, 57, 57, 57, 57]⟩ : ByteArray) [.string (⟨#[57, 57, 57, 57, 57, 57]⟩ : ByteArray)] from rfl) (Reps.one (show Kd.M Kd.string _ _ _ (⟨#[49, 48, 48, 48, 48, 48, 48]⟩ : ByteArray) [.string (⟨#[49, 48, 48, 48, 48, 48, 48]⟩ : ByteArray)] from rfl) (Reps.one (show Kd.M Kd.string _ _ _ (⟨#[48, 49]⟩ : ByteArray) [.string (⟨#[48, 49]⟩ : ByteArray)] from rfl) (Reps.one (show Kd.M Kd.string _ _ _ (⟨#[]⟩ : ByteArray) [.string (⟨#[]⟩ : ByteArray)] from rfl) (Reps.one (show Kd.M Kd.string _ _ _ (⟨#[45, 49]⟩ : ByteArray) [.string (⟨#[45, 49]⟩ : ByteArray)] from rfl) (Reps.one (show Kd.M Kd.string _ _ _ (⟨#[120]⟩ : ByteArray) [.string (⟨#[120]⟩ : ByteArray)] from rfl) (Reps.one (show Kd.M Kd.string _ _ _ (⟨#[49, 50, 97]⟩ : ByteArray) [.string (⟨#[49, 50, 97]⟩ : ByteArray)] from rfl) (Reps.none _ _))))))))))); intro v178 w5 ho6 hb hg_ hnew_; clear hg_ hnew_; (first | rw [← Ny177.out] at ho6 | (simp only [Int.reduceToNat] at ho6; rw [← Ny177.out] at ho6)); have HO179 := Aside0.mk (Kd.R_lower ho6 (below_size (IsS48.tb HB))); replace HI176 := Aside0.mk (IsS48.below (IsS48.go HI176) hb); replace HB := Aside0.mk (below_step (IsS48.tb HB) hb); clear hb ho6; obtain ⟨Ao7, co7, eo7⟩ := Kd.R_slice HO179.out; subst eo7) | ((with_reducible refine gate_callee (f := 25) rfl ?_); refine gL 6 Tryd.func25 #[.pointer (some ⟨g176, 0, none⟩), .slice Ao7 y177.length co7] ?_; (with_reducible refine (spec_l1Pick.calls g176 t173 t174 t175 _ _ y177 t180 t181 t182 w _ ?side1 ?side2 ?side3 ?side4 ?side5 A3.out).mono ?_); (case side1 => repeat (first | (with_reducible first | exact HI176.out | apply IsS48.alloc | apply IsS48.drewN | apply IsS48.drew | apply IsS48.set_1 | apply IsS48.set_2) | exact HI176.out)); (case side2 => repeat (first | (with_reducible first | exact HB.out | apply below_alloc | apply pw_below_drewN | apply below_drew1 | refine below_set ?_ (IsS48.ge HI176.out)) | exact HB.out)); (case side3 => repeat (first | exact (Kd.R_reads' HO179.out).2.2 | (with_reducible refine Kd.C_alloc ?_ _) | (with_reducible refine Kd.C_drewN ?_ _) | (with_reducible refine Kd.C_drew ?_))); (case side4 => exact (Kd.R_reads' HO179.out).2.1); (case side5 => exact far_slice (IsS48.own_ne HI176.out HO179.out (by decide))); rintro e w8 ⟨rfl, hi, hb, hk⟩; refine ⟨_, rfl, ?_⟩; replace HO179 := Aside0.mk (Kd.R_mono (Kd.R_keep (IsS48.apart (show IsS48 w _ g176 t173 t174 t175 from IsS48.go HI176) (kr HO179.out) (by decide)) hk (fun _ h => h.2)) (fun _ h => h.1)); replace HB := Aside0.mk (hb); replace HI176 := Aside0.mk (hi); (try clear hb); (try clear hb2); (try clear hk); (try clear hi)))
 go_ret
 exact ⟨er, IsS48.tb HB⟩
end Go.Proofs.YtopikhjcbcpiaaaDoor.Q
section
namespace Go.Proofs.YtopikhjcbcpiaaaDoor.Q
open Go.RowKit Go.Proofs.YtopikhjcbcpiaaaDoorW.PrintWords Go.Proofs.YtopikhjcbcpiaaaDoorW.PrintLast Go.Proofs.YtopikhjcbcpiaaaDoorW.PrintMore
attribute [local go_sem] max2_int min2_int max_two min_two max_three min_three max_four min_four
set_option linter.unusedVariables false
set_option linter.unusedSimpArgs false
def impl_Digits.f : Nat → Int → Option ByteArray
  | 0, _ => none
  | k + 1, n => if n < 0 then (if n > -10 then ((impl_Digits.f k (wrap64 (-n))).bind fun t => (if 1 + t.size ≤ 9223372036854775807 then (some ((⟨#[45]⟩ : ByteArray) ++ t)) else none)) else ((impl_Digits.f k (wrap64 (Int.tdiv n 10))).bind fun a => ((impl_Digits.f k (wrap64 (-(Int.tmod n 10)))).bind fun b => (if a.size + b.size ≤ 9223372036854775807 then (some (a ++ b)) else none)))) else (if n < 10 then (some (Utf8.encode (48 + n))) else ((impl_Digits.f k (wrap64 (Int.tdiv n 10))).bind fun a => (if a.size + (Utf8.encode (48 + n % 10)).size ≤ 9223372036854775807 then (some (a ++ Utf8.encode (48 + n % 10))) else none)))
theorem impl_Digits.mono : ∀ a0 k, LeO (impl_Digits.f k a0) (impl_Digits.f (k + 1) a0) := by
  intro a0 k
  induction k generalizing a0 with
  | zero => exact fun r h => by simp [impl_Digits.f] at h
  | succ k ih =>
    unfold impl_Digits.f
    repeat' first
      | (with_reducible exact ih _)
      | (with_reducible exact LeO.refl _)
      | (with_reducible exact LeO.none _)
      | (with_reducible refine LeO.ite ?_ ?_)
      | (with_reducible refine LeO.bind ?_ (fun _ => ?_))
set_option maxHeartbeats 4000000 in
set_option maxRecDepth 100000 in
theorem impl_Digits.same (k : Nat) : ∀ (a0 : Int) (r : ByteArray) (w : World) (h : impl_Digits.f k a0 = some r),
    Calls Tryd.prog 17 #[.int .i64 a0] w fun e w' => e = .returned (.string r) ∧ w' = w := by
  induction k with
  | zero => intro a0 r w h; exact absurd h (by simp [impl_Digits.f])
  | succ k ih =>
    intro a0 r w h
    simp only [impl_Digits.f] at h
    by_cases c1 : a0 < 0
    · rw [if_pos c1] at h
      by_cases c2 : a0 > -10
      · rw [if_pos c2] at h
        obtain ⟨t, h1, h⟩ := Option.bind_eq_some_iff.mp h
        by_cases c3 : 1 + t.size ≤ 9223372036854775807
        · rw [if_pos c3] at h
          obtain rfl := Option.some.inj h
          have c4 : (9223372036854775807 < 1 + t.size) = False := eq_false (Nat.not_lt.2 c3)
          have e1 : wrap64 (-a0) = -a0 := by unfold wrap64; omega
          rw [e1] at h1
          have C1 := ih _ t w h1
          have d1 : (a0 < 0) = True := eq_true c1
          have d2 : (-10 < a0) = True := eq_true c2
          clear h h1 ih
          go_enter Tryd.func17, Tryd.ntmps17
          go_wp2_with ((with_reducible refine gate_callee (f := 17) rfl ?_); refine gL 12 Tryd.func17 #[.int .i64 (-a0)] ?_; refine C1.mono ?_; rintro e w' ⟨rfl, rfl⟩; refine ⟨_, rfl, ?_⟩)
          go_ret
          exact ⟨rfl, rfl⟩
        · rw [if_neg c3] at h; cases h
      · rw [if_neg c2] at h
        obtain ⟨a, h1, h⟩ := Option.bind_eq_some_iff.mp h
        obtain ⟨b, h2, h⟩ := Option.bind_eq_some_iff.mp h
        by_cases c3 : a.size + b.size ≤ 9223372036854775807
        · rw [if_pos c3] at h
          obtain rfl := Option.some.inj h
          have c4 : (9223372036854775807 < a.size + b.size) = False := eq_false (Nat.not_lt.2 c3)
          have C1 := ih _ a w h1
          have C2 := ih _ b w h2
          have d1 : (a0 < 0) = True := eq_true c1
          have d2 : (-10 < a0) = False := eq_false c2
          clear h h1 h2 ih
          go_enter Tryd.func17, Tryd.ntmps17
          go_wp2_with (first | ((with_reducible refine gate_dst (N := 19) rfl ?_); refine gL 19 Tryd.func17 #[.int .i64 (wrap64 (Int.tdiv a0 10))] ?_; refine C1.mono ?_; rintro e w' ⟨rfl, rfl⟩; refine ⟨_, rfl, ?_⟩) | ((with_reducible refine gate_dst (N := 23) rfl ?_); refine gL 23 Tryd.func17 #[.int .i64 (wrap64 (-(Int.tmod a0 10)))] ?_; refine C2.mono ?_; rintro e w' ⟨rfl, rfl⟩; refine ⟨_, rfl, ?_⟩))
          go_ret
          exact ⟨rfl, rfl⟩
        · rw [if_neg c3] at h; cases h
    · rw [if_neg c1] at h
      by_cases c2 : a0 < 10
      · rw [if_pos c2] at h
        obtain rfl := Option.some.inj h
        have d1 : (a0 < 0) = False := eq_false c1
        have d2 : (a0 < 10) = True := eq_true c2
        clear h ih
        go_enter Tryd.func17, Tryd.ntmps17
        go_wp2
        go_ret
        exact ⟨rfl, rfl⟩
      · rw [if_neg c2] at h
        obtain ⟨a, h1, h⟩ := Option.bind_eq_some_iff.mp h
        by_cases c3 : a.size + (Utf8.encode (48 + a0 % 10)).size ≤ 9223372036854775807
        · rw [if_pos c3] at h
          obtain rfl := Option.some.inj h
          have c4 : (9223372036854775807 < a.size + (Utf8.encode (48 + a0 % 10)).size) = False := eq_false (Nat.not_lt.2 c3)
          have C1 := ih _ a w h1
          have d1 : (a0 < 0) = False := eq_false c1
          have d2 : (a0 < 10) = False := eq_false c2
          clear h h1 ih
          go_enter Tryd.func17, Tryd.ntmps17
          go_wp2_with (go_at_call 17; refine C1.mono ?_; rintro e w' ⟨rfl, rfl⟩)
          go_ret
          exact ⟨rfl, rfl⟩
        · rw [if_neg c3] at h; cases h
theorem impl_Digits.calls (k : Nat) (a0 : Int) (r : ByteArray) (w : World) (h : impl_Digits.f k a0 = some r) :
    Calls Tryd.prog 17 #[.int .i64 a0] w fun e w' => e = .returned (.string r) ∧ Below w.heap.size w w' :=
  (impl_Digits.same k a0 r w h).mono fun e w' hh => ⟨hh.1, by rw [hh.2]; exact Below.refl _ _⟩
end Go.Proofs.YtopikhjcbcpiaaaDoor.Q
end
namespace Go.Proofs.YtopikhjcbcpiaaaDoor.Q
open Go.RowKit Go.Proofs.YtopikhjcbcpiaaaDoorW.PrintWords Go.Proofs.YtopikhjcbcpiaaaDoorW.PrintLast Go.Proofs.YtopikhjcbcpiaaaDoorW.PrintMore
attribute [local go_sem] max2_int min2_int max_two min_two max_three min_three max_four min_four   -- for this text's walks alone
set_option linter.unusedVariables false
set_option linter.unusedSimpArgs false
mutual
def impl_Number.j0 : Nat → ByteArray → Bool → Option (Int × Bool)
 | 0, _, _ => none
 | k + 1, x0, x12 => if x12 = true then (some (0, false)) else (impl_Number.l0 k x0 0 (x0.size : Int) 0)
def impl_Number.l0 : Nat → ByteArray → Int → Int → Int → Option (Int × Bool)
 | 0, _, _, _, _ => none
 | k + 1, x0, x4, x14, x15 => if x15 < x14 then (if 0 ≤ x15 then (if x15 < (x0.size : Int) then (if (bt x0 x15) < 48 then (some (0, false)) else (if (bt x0 x15) > 57 then (some (0, false)) else (impl_Number.l0 k x0 (wrap64 ((wrap64 (10 * x4)) + (((bt x0 x15) - 48) % 256))) x14 (wrap64 (x15 + 1))))) else (none)) else (none)) else ((impl_Digits.f k x4).bind fun t183 => (if t183.toList = x0.toList then (some (x4, true)) else (some (0, false))))
end
def impl_Number.f (k : Nat) (a0 : ByteArray) : Option (Int × Bool) := if a0.toList = ([] : List UInt8) then (impl_Number.j0 k a0 true) else (impl_Number.j0 k a0 (decide ((a0.size : Int) > 6)))
theorem impl_Number.mono_l : ∀ k, (∀ y0 y1, LeO (impl_Number.j0 k y0 y1) (impl_Number.j0 (k + 1) y0 y1)) ∧ (∀ y0 y1 y2 y3, LeO (impl_Number.l0 k y0 y1 y2 y3) (impl_Number.l0 (k + 1) y0 y1 y2 y3))
 | 0 => ⟨fun _ _ r h => by simp [impl_Number.j0] at h, fun _ _ _ _ r h => by simp [impl_Number.l0] at h⟩
 | k + 1 => by
  obtain ⟨ih0, ih1⟩ := impl_Number.mono_l k
  refine ⟨?_, ?_⟩
  ·intro y0 y1
   unfold impl_Number.j0
   repeat' first
   | (with_reducible exact ih0 _ _)
   | (with_reducible exact ih1 _ _ _ _)
   | (with_reducible exact impl_Digits.mono _ _)
   | (with_reducible exact LeO.refl _)
   | (with_reducible exact LeO.none _)
   | (with_reducible refine LeO.ite ?_ ?_)
   | (with_reducible refine LeO.bind ?_ (fun _ => ?_))
   | exact ih0 _ _
   | exact ih1 _ _ _ _
   | exact impl_Digits.mono _ _
   | exact LeO.none _
   | refine LeO.ite ?_ ?_
   | refine LeO.bind ?_ (fun _ => ?_)
  ·intro y0 y1 y2 y3
   unfold impl_Number.l0
   repeat' first
   | (with_reducible exact ih0 _ _)
   | (with_reducible exact ih1 _ _ _ _)
   | (with_reducible exact impl_Digits.mono _ _)
   | (with_reducible exact LeO.refl _)
   | (with_reducible exact LeO.none _)
   | (with_reducible refine LeO.ite ?_ ?_)
   | (with_reducible refine LeO.bind ?_ (fun _ => ?_))
   | exact ih0 _ _
   | exact ih1 _ _ _ _
   | exact impl_Digits.mono _ _
   | exact LeO.none _
   | refine LeO.ite ?_ ?_
   | refine LeO.bind ?_ (fun _ => ?_)
theorem impl_Number.mono : ∀ a0 k, LeO (impl_Number.f k a0) (impl_Number.f (k + 1) a0) := by
 intro a0 k
 obtain ⟨ih0, ih1⟩ := impl_Number.mono_l k
 unfold impl_Number.f
 repeat' first
   | (with_reducible exact ih0 _ _)
   | (with_reducible exact ih1 _ _ _ _)
   | (with_reducible exact impl_Digits.mono _ _)
   | (with_reducible exact LeO.refl _)
   | (with_reducible exact LeO.none _)
   | (with_reducible refine LeO.ite ?_ ?_)
   | (with_reducible refine LeO.bind ?_ (fun _ => ?_))
   | exact ih0 _ _
   | exact ih1 _ _ _ _
   | exact impl_Digits.mono _ _
   | exact LeO.none _
   | refine LeO.ite ?_ ?_
   | refine LeO.bind ?_ (fun _ => ?_)
set_option maxHeartbeats 8000000 in
set_option maxRecDepth 100000 in
theorem impl_Number.calls (k : Nat) (a0 : ByteArray) (r1 : Int) (r2 : Bool) (w : World) (h : impl_Number.f k a0 = some (r1, r2)) :
  Calls Tryd.prog 13 #[.string a0] w fun e w' => e = .returned (.tuple #[.int .i64 r1, .bool r2]) ∧ Below w.heap.size w w' := by
 have HB := Aside0.mk (Below.refl w.heap.size w)
 have H : (if a0.toList = ([] : List UInt8) then (impl_Number.j0 k a0 true) else (impl_Number.j0 k a0 (decide ((a0.size : Int) > 6)))) = some (r1, r2) := h
 clear h
 have HC2 := Aside0.mk H
 clear H
 go_enter Tryd.func13, Tryd.ntmps13
 go_upto_region 1 with (fail)
 go_cut [12] (fun v12 wc => ∃ (kq : Nat) (x12_1 : Bool), v12 = .bool x12_1 ∧ Aside0 (impl_Number.j0 kq a0 x12_1 = some (r1, r2)) ∧ Aside0 (kq ≤ k) ∧ Aside0 (Below w.heap.size w wc))
 case first =>
  have H := HC2.out
  clear HC2
  by_cases c3 : a0.toList = ([] : List UInt8)
  ·rw [if_pos c3] at H
   have c3b0 : (a0.toList == ([] : List UInt8)) = true := beq_iff_eq.mpr c3
   have c3b1 : (a0.toList != ([] : List UInt8)) = false := bne_eq_false_iff_eq.mpr c3
   clear c3
   (first | rw [c3b0] | (simp only [i64_w, i32_w]; rw [c3b0]) | skip)
   have H' := Aside0.mk H
   clear H
   go_wp2
   go_meet
   case rel => exact ⟨_, (true), (by first | rfl | (simp; done) | (simp [*]; done)), H', ⟨by first | omega | exact Nat.le_refl _⟩, ⟨tb HB⟩⟩
  ·rw [if_neg c3] at H
   have c3b0 : (a0.toList == ([] : List UInt8)) = false := beq_eq_false_iff_ne.mpr c3
   have c3b1 : (a0.toList != ([] : List UInt8)) = true := bne_iff_ne.mpr c3
   (first | rw [c3b0] | (simp only [i64_w, i32_w]; rw [c3b0]) | skip)
   have H' := Aside0.mk H
   clear H
   go_wp2
   go_meet
   case rel => exact ⟨_, (decide ((a0.size : Int) > 6)), (by first | rfl | (simp; done) | (simp [*]; done)), H', ⟨by first | omega | exact Nat.le_refl _⟩, ⟨tb HB⟩⟩
 case rest =>
  clear HC2
  try clear c1
  try clear p2
  try clear c3
  try clear c3b0
  try clear c3b1
  obtain ⟨kq, x12_1, rfl, HA, HJ1, HB⟩ := hcut
  cases kq with
  | zero => exact absurd HA.out (by simp [impl_Number.j0])
  | succ kj1 =>
   have H := HA.out
   clear HA
   simp only [impl_Number.j0] at H
   by_cases c4 : x12_1 = true
   ·subst c4
    have H1 : (some (0, false)) = some (r1, r2) := by rw [if_pos rfl] at H; exact H
    clear H
    have H := H1
    clear H1
    simp only [Option.some.injEq, Prod.mk.injEq] at H
    obtain ⟨rfl, rfl⟩ := H
    go_wp2
    go_ret2
    exact ⟨er, tb HB⟩
   ·replace c4 := Bool.eq_false_iff.mpr c4
    subst c4
    have H1 : (impl_Number.l0 kj1 a0 0 (a0.size : Int) 0) = some (r1, r2) := by rw [if_neg (show ¬ (false = true) by decide)] at H; exact H
    clear H
    have H := H1
    clear H1
    have H' := Aside0.mk H
    clear H
    go_wp2
    go_loopg [4, 15] kj1 (fun kq v4 v15 w' => ∃ (x4_2 : Int) (x15_2 : Int), v4 = .int .i64 x4_2 ∧ v15 = .int .i64 x15_2 ∧ Aside0 (impl_Number.l0 kq a0 x4_2 (a0.size : Int) x15_2 = some (r1, r2)) ∧ Aside0 (kq ≤ kj1) ∧ Aside0 (Below w.heap.size w w'))
    case atStart => exact ⟨(0), (0), (by first | rfl | (simp; done) | (simp [*]; done)), (by first | rfl | (simp; done) | (simp [*]; done)), H', ⟨Nat.le_refl _⟩, ⟨tb HB⟩⟩
    case round =>
     clear H'
     try clear c1
     try clear p2
     try clear c3
     try clear c3b0
     try clear c3b1
     try clear c4
     try clear p2
     obtain ⟨x4_2, x15_2, rfl, rfl, HA, HK2, HB⟩ := hrel
     cases gk with
     | zero => exact absurd HA.out (by simp [impl_Number.l0])
     | succ k2 =>
      have H := HA.out
      clear HA
      simp only [impl_Number.l0] at H
      by_cases c5 : x15_2 < (a0.size : Int)
      ·rw [if_pos c5] at H
       have c5b0 := decide_eq_true c5
       clear c5
       by_cases c6 : 0 ≤ x15_2
       ·rw [if_pos c6] at H
        have c6b0 := decide_eq_true c6
        clear c6
        by_cases c7 : x15_2 < (a0.size : Int)
        ·rw [if_pos c7] at H
         have c7b0 := decide_eq_true c7
         clear c7
         by_cases c9 : (bt a0 x15_2) < 48
         ·rw [if_pos c9] at H
          have c9b0 := decide_eq_true c9
          clear c9
          simp only [Option.some.injEq, Prod.mk.injEq] at H
          obtain ⟨rfl, rfl⟩ := H
          have p8 : 0 ≤ (x15_2 : Int) := od
          have q8 : x15_2 < (a0.size : Int) := od
          have hx8 := bt_at a0 x15_2
          replace p8 := eq_true p8
          replace q8 := eq_true q8
          go_wp2
          go_ret2
          exact ⟨er, tb HB⟩
         ·rw [if_neg c9] at H
          have c9b0 := decide_eq_false c9
          clear c9
          by_cases c11 : (bt a0 x15_2) > 57
          ·rw [if_pos c11] at H
           have c11b0 := decide_eq_true c11
           clear c11
           simp only [Option.some.injEq, Prod.mk.injEq] at H
           obtain ⟨rfl, rfl⟩ := H
           have p8 : 0 ≤ (x15_2 : Int) := od
           have q8 : x15_2 < (a0.size : Int) := od
           have hx8 := bt_at a0 x15_2
           replace p8 := eq_true p8
           replace q8 := eq_true q8
           have p10 : 0 ≤ (x15_2 : Int) := od
           have q10 : x15_2 < (a0.size : Int) := od
           have hx10 := bt_at a0 x15_2
           replace p10 := eq_true p10
           replace q10 := eq_true q10
           go_wp2
           go_ret2
           exact ⟨er, tb HB⟩
          ·rw [if_neg c11] at H
           have c11b0 := decide_eq_false c11
           clear c11
           have H' := Aside0.mk H
           clear H
           have p8 : 0 ≤ (x15_2 : Int) := od
           have q8 : x15_2 < (a0.size : Int) := od
           have hx8 := bt_at a0 x15_2
           replace p8 := eq_true p8
           replace q8 := eq_true q8
           have p10 : 0 ≤ (x15_2 : Int) := od
           have q10 : x15_2 < (a0.size : Int) := od
           have hx10 := bt_at a0 x15_2
           replace p10 := eq_true p10
           replace q10 := eq_true q10
           have p12 : 0 ≤ (x15_2 : Int) := od
           have q12 : x15_2 < (a0.size : Int) := od
           have hx12 := bt_at a0 x15_2
           replace p12 := eq_true p12
           replace q12 := eq_true q12
           go_wp2
           go_roundg k2
           case measure => have := HJ1.out; have := HK2.out; omega
           case rel => exact ⟨(wrap64 ((wrap64 (10 * x4_2)) + (((bt a0 x15_2) - 48) % 256))), (wrap64 (x15_2 + 1)), (by first | rfl | (simp; done) | (simp [*]; done)), (by first | rfl | (simp; done) | (simp [*]; done)), H', ⟨by have := HJ1.out; have := HK2.out; omega⟩, ⟨tb HB⟩⟩
        ·rw [if_neg c7] at H
         exact absurd H (by simp)
       ·rw [if_neg c6] at H
        exact absurd H (by simp)
      ·rw [if_neg c5] at H
       have c5b0 := decide_eq_false c5
       clear c5
       replace H := Option.bind_eq_some_iff.mp H
       obtain ⟨t183, A130, H⟩ := H
       replace H : (if t183.toList = a0.toList then (some (x4_2, true)) else (some (0, false))) = some (r1, r2) := H
       have A13 := Aside0.mk A130
       clear A130
       by_cases c14 : t183.toList = a0.toList
       ·rw [if_pos c14] at H
        have c14b0 : (t183.toList == a0.toList) = true := beq_iff_eq.mpr c14
        have c14b1 : (t183.toList != a0.toList) = false := bne_eq_false_iff_eq.mpr c14
        clear c14
        simp only [Option.some.injEq, Prod.mk.injEq] at H
        obtain ⟨rfl, rfl⟩ := H
        go_wp2_with (first | ((with_reducible refine gate_callee (f := 17) rfl ?_); refine gL 38 Tryd.func17 #[.int .i64 x4_2] ?_; (with_reducible refine (impl_Digits.calls k2 x4_2 t183 _ A13.out).mono ?_); rintro e w15 ⟨rfl, hb⟩; refine ⟨_, rfl, ?_⟩; replace HB := bs HB hb; (try clear hb); (try clear hb2); (try clear hk); (try clear hi)))
        go_ret2
        exact ⟨er, tb HB⟩
       ·rw [if_neg c14] at H
        have c14b0 : (t183.toList == a0.toList) = false := beq_eq_false_iff_ne.mpr c14
        have c14b1 : (t183.toList != a0.toList) = true := bne_iff_ne.mpr c14
        simp only [Option.some.injEq, Prod.mk.injEq] at H
        obtain ⟨rfl, rfl⟩ := H
        go_wp2_with (first | ((with_reducible refine gate_callee (f := 17) rfl ?_); refine gL 38 Tryd.func17 #[.int .i64 x4_2] ?_; (with_reducible refine (impl_Digits.calls k2 x4_2 t183 _ A13.out).mono ?_); rintro e w16 ⟨rfl, hb⟩; refine ⟨_, rfl, ?_⟩; replace HB := bs HB hb; (try clear hb); (try clear hb2); (try clear hk); (try clear hi)))
        go_ret2
        exact ⟨er, tb HB⟩
def spec_Digits.l0 : Nat → Int → Bool → ByteArray → Option (ByteArray)
 | 0, _, _, _ => none
 | k + 1, x0, x3, x4 => if x0 = 0 then (if x3 = true then (if 1 + x4.size ≤ 9223372036854775807 then (some ((⟨#[45]⟩ : ByteArray) ++ x4)) else (none)) else (some x4)) else (if (Int.tmod x0 10) < 0 then ((some (([(wrap64 (48 + (wrap64 (-(Int.tmod x0 10))))) % 256] : List Int) : List Int)).bind fun y184 => (if (strOfNums y184).size + x4.size ≤ 9223372036854775807 then (spec_Digits.l0 k (wrap64 (Int.tdiv x0 10)) x3 ((strOfNums y184) ++ x4)) else (none))) else ((some (([(wrap64 (48 + (Int.tmod x0 10))) % 256] : List Int) : List Int)).bind fun y187 => (if (strOfNums y187).size + x4.size ≤ 9223372036854775807 then (spec_Digits.l0 k (wrap64 (Int.tdiv x0 10)) x3 ((strOfNums y187) ++ x4)) else (none))))
def spec_Digits.f (k : Nat) (a0 : Int) : Option (ByteArray) := if a0 = 0 then (some (⟨#[48]⟩ : ByteArray)) else (spec_Digits.l0 k a0 (decide (a0 < 0)) (⟨#[]⟩ : ByteArray))
theorem spec_Digits.mono_l : ∀ k, (∀ y0 y1 y2, LeO (spec_Digits.l0 k y0 y1 y2) (spec_Digits.l0 (k + 1) y0 y1 y2))
 | 0 => fun _ _ _ r h => by simp [spec_Digits.l0] at h
 | k + 1 => by
  have ih0 := spec_Digits.mono_l k
  ·intro y0 y1 y2
   unfold spec_Digits.l0
   repeat' first
   | (with_reducible exact ih0 _ _ _)
   | (with_reducible exact LeO.refl _)
   | (with_reducible exact LeO.none _)
   | (with_reducible refine LeO.ite ?_ ?_)
   | (with_reducible refine LeO.bind ?_ (fun _ => ?_))
   | exact ih0 _ _ _
   | exact LeO.none _
   | refine LeO.ite ?_ ?_
   | refine LeO.bind ?_ (fun _ => ?_)
theorem spec_Digits.mono : ∀ a0 k, LeO (spec_Digits.f k a0) (spec_Digits.f (k + 1) a0) := by
 intro a0 k
 have ih0 := spec_Digits.mono_l k
 unfold spec_Digits.f
 repeat' first
   | (with_reducible exact ih0 _ _ _)
   | (with_reducible exact LeO.refl _)
   | (with_reducible exact LeO.none _)
   | (with_reducible refine LeO.ite ?_ ?_)
   | (with_reducible refine LeO.bind ?_ (fun _ => ?_))
   | exact ih0 _ _ _
   | exact LeO.none _
   | refine LeO.ite ?_ ?_
   | refine LeO.bind ?_ (fun _ => ?_)
set_option maxHeartbeats 8000000 in
set_option maxRecDepth 100000 in
theorem spec_Digits.calls (k : Nat) (a0 : Int) (r : ByteArray) (w : World) (h : spec_Digits.f k a0 = some r) :
  Calls Tryd.prog 18 #[.int .i64 a0] w fun e w' => e = .returned (.string r) ∧ Below w.heap.size w w' := by
 have HB := Aside0.mk (Below.refl w.heap.size w)
 have H : (if a0 = 0 then (some (⟨#[48]⟩ : ByteArray)) else (spec_Digits.l0 k a0 (decide (a0 < 0)) (⟨#[]⟩ : ByteArray))) = some r := h
 clear h
 by_cases c2 : a0 = 0
 ·rw [if_pos c2] at H
  have c2b0 : (a0 == 0) = true := beq_iff_eq.mpr c2
  have c2b1 : (a0 != 0) = false := bne_eq_false_iff_eq.mpr c2
  clear c2
  obtain rfl := Option.some.inj H
  go_enter Tryd.func18, Tryd.ntmps18
  go_wp2
  go_ret
  exact ⟨er, tb HB⟩
 ·rw [if_neg c2] at H
  have c2b0 : (a0 == 0) = false := beq_eq_false_iff_ne.mpr c2
  have c2b1 : (a0 != 0) = true := bne_iff_ne.mpr c2
  have H' := Aside0.mk H
  clear H
  go_enter Tryd.func18, Tryd.ntmps18
  go_wp2
  go_loopg [0, 4] k (fun kq v0 v4 w' => ∃ (x0_1 : Int) (x4_1 : ByteArray), v0 = .int .i64 x0_1 ∧ v4 = .string x4_1 ∧ Aside0 (spec_Digits.l0 kq x0_1 (decide (a0 < 0)) x4_1 = some r) ∧ Aside0 (kq ≤ k) ∧ Aside0 (Below w.heap.size w w'))
  case atStart => exact ⟨(a0), ((⟨#[]⟩ : ByteArray)), (by first | rfl | (simp; done) | (simp [*]; done)), (by first | rfl | (simp; done) | (simp [*]; done)), H', ⟨Nat.le_refl _⟩, ⟨tb HB⟩⟩
  case round =>
   clear H'
   try clear c1
   try clear c2
   try clear c2b0
   try clear c2b1
   try clear p2
   obtain ⟨x0_1, x4_1, rfl, rfl, HA, HK1, HB⟩ := hrel
   cases gk with
   | zero => exact absurd HA.out (by simp [spec_Digits.l0])
   | succ k1 =>
    have H := HA.out
    clear HA
    simp only [spec_Digits.l0] at H
    by_cases c3 : x0_1 = 0
    ·rw [if_pos c3] at H
     have c3b0 : (x0_1 == 0) = true := beq_iff_eq.mpr c3
     have c3b1 : (x0_1 != 0) = false := bne_eq_false_iff_eq.mpr c3
     clear c3
     by_cases c4 : (decide (a0 < 0)) = true
     ·rw [if_pos c4] at H
      have c4b0 : (decide (a0 < 0)) = true := c4
      clear c4
      by_cases c5 : 1 + x4_1.size ≤ 9223372036854775807
      ·rw [if_pos c5] at H
       have c5b0 := eq_true c5
       have c5b1 := decide_eq_true c5
       try have c5b2 : (9223372036854775807 < 1 + x4_1.size) = False := eq_false (Nat.not_lt.2 c5)
       obtain rfl := Option.some.inj H
       go_wp2
       any_goals (exfalso; have h_ := of_decide_eq_true c4b0; omega)
       go_ret
       exact ⟨er, tb HB⟩
      ·rw [if_neg c5] at H
       exact absurd H (by simp)
     ·rw [if_neg c4] at H
      have c4b0 : (decide (a0 < 0)) = false := by simpa using c4
      clear c4
      obtain rfl := Option.some.inj H
      go_wp2
      any_goals (exfalso; have h_ := of_decide_eq_false c4b0; omega)
      go_ret
      exact ⟨er, tb HB⟩
    ·rw [if_neg c3] at H
     have c3b0 : (x0_1 == 0) = false := beq_eq_false_iff_ne.mpr c3
     have c3b1 : (x0_1 != 0) = true := bne_iff_ne.mpr c3
     by_cases c6 : (Int.tmod x0_1 10) < 0
     ·rw [if_pos c6] at H
      have c6b0 := decide_eq_true c6
      clear c6
      obtain ⟨y184, hy184⟩ : ∃ y_ : List Int, y_ = (([(wrap64 (48 + (wrap64 (-(Int.tmod x0_1 10))))) % 256] : List Int)) := ⟨_, rfl⟩
      replace H : (if (strOfNums y184).size + x4_1.size ≤ 9223372036854775807 then (spec_Digits.l0 k1 (wrap64 (Int.tdiv x0_1 10)) (decide (a0 < 0)) ((strOfNums y184) ++ x4_1)) else (none)) = some r := by first | (rw [hy184]; with_reducible exact H) | (have H2_ := (Option.bind_some _ _).symm.trans H; rw [hy184]; with_reducible exact H2_) | (have H2_ := (Option.bind_some _ _).symm.trans H; with_reducible exact H2_) | with_reducible exact H | (rw [hy184]; exact H) | exact H
      have Ny184 := Aside0.mk hy184
      clear hy184
      by_cases c7 : (strOfNums y184).size + x4_1.size ≤ 9223372036854775807
      ·rw [if_pos c7] at H
       have c7b0 := eq_true c7
       have c7b1 := decide_eq_true c7
       try have c7b2 : (9223372036854775807 < (strOfNums y184).size + x4_1.size) = False := eq_false (Nat.not_lt.2 c7)
       have H' := Aside0.mk H
       clear H
       go_wp2_with (first | ((with_reducible refine gate_dst (N := 21) rfl ?_); refine Kd.R_lit (Kd.int .u8) _ 5 ?hg (N := 21) ?hd (xs := ([(wrap64 (48 + (wrap64 (-(Int.tmod x0_1 10))))) % 256] : List Int)) (inner := [.int .u8 ((wrap64 (48 + (wrap64 (-(Int.tmod x0_1 10))))) % 256)]) (ok := fun _ => True) (okp := fun _ => True) ?hr ?hp (fun _ hk => hk) trivial (Below.refl _ _) (Nat.le_refl _) (by simp) ?_; (case hd => rfl); (case hg => rfl); (case hr => first | (go_simp; done) | (go_simp; rfl)); (case hp => exact (Reps.one (show Kd.M (Kd.int .u8) _ _ _ ((wrap64 (48 + (wrap64 (-(Int.tmod x0_1 10))))) % 256) [.int .u8 ((wrap64 (48 + (wrap64 (-(Int.tmod x0_1 10))))) % 256)] from rfl) (Reps.none _ _))); intro v185 w8 ho9 hb hg_ hnew_; clear hg_ hnew_; (first | rw [← Ny184.out] at ho9 | (simp only [Int.reduceToNat] at ho9; rw [← Ny184.out] at ho9)); have HO186 := Aside0.mk (Kd.R_lower ho9 (below_size (tb HB))); replace HB := bs HB hb; clear hb ho9; have hcv10 := own_string (P := Tryd.prog) Tryd.underlying27 Tryd.underlying5 Tryd.underlying9 (Kd.own_of_R HO186.out)))
       go_roundg k1
       case measure => have := HK1.out; omega
       case rel => exact ⟨(wrap64 (Int.tdiv x0_1 10)), ((strOfNums y184) ++ x4_1), (by first | rfl | (simp; done) | (simp [*]; done)), (by first | rfl | (simp; done) | (simp [*]; done)), H', ⟨by have := HK1.out; omega⟩, ⟨tb HB⟩⟩
      ·rw [if_neg c7] at H
       exact absurd H (by simp)
     ·rw [if_neg c6] at H
      have c6b0 := decide_eq_false c6
      clear c6
      obtain ⟨y187, hy187⟩ : ∃ y_ : List Int, y_ = (([(wrap64 (48 + (Int.tmod x0_1 10))) % 256] : List Int)) := ⟨_, rfl⟩
      replace H : (if (strOfNums y187).size + x4_1.size ≤ 9223372036854775807 then (spec_Digits.l0 k1 (wrap64 (Int.tdiv x0_1 10)) (decide (a0 < 0)) ((strOfNums y187) ++ x4_1)) else (none)) = some r := by first | (rw [hy187]; with_reducible exact H) | (have H2_ := (Option.bind_some _ _).symm.trans H; rw [hy187]; with_reducible exact H2_) | (have H2_ := (Option.bind_some _ _).symm.trans H; with_reducible exact H2_) | with_reducible exact H | (rw [hy187]; exact H) | exact H
      have Ny187 := Aside0.mk hy187
      clear hy187
      by_cases c11 : (strOfNums y187).size + x4_1.size ≤ 9223372036854775807
      ·rw [if_pos c11] at H
       have c11b0 := eq_true c11
       have c11b1 := decide_eq_true c11
       try have c11b2 : (9223372036854775807 < (strOfNums y187).size + x4_1.size) = False := eq_false (Nat.not_lt.2 c11)
       have H' := Aside0.mk H
       clear H
       go_wp2_with (first | ((with_reducible refine gate_dst (N := 21) rfl ?_); refine Kd.R_lit (Kd.int .u8) _ 5 ?hg (N := 21) ?hd (xs := ([(wrap64 (48 + (Int.tmod x0_1 10))) % 256] : List Int)) (inner := [.int .u8 ((wrap64 (48 + (Int.tmod x0_1 10))) % 256)]) (ok := fun _ => True) (okp := fun _ => True) ?hr ?hp (fun _ hk => hk) trivial (Below.refl _ _) (Nat.le_refl _) (by simp) ?_; (case hd => rfl); (case hg => rfl); (case hr => first | (go_simp; done) | (go_simp; rfl)); (case hp => exact (Reps.one (show Kd.M (Kd.int .u8) _ _ _ ((wrap64 (48 + (Int.tmod x0_1 10))) % 256) [.int .u8 ((wrap64 (48 + (Int.tmod x0_1 10))) % 256)] from rfl) (Reps.none _ _))); intro v188 w12 ho13 hb hg_ hnew_; clear hg_ hnew_; (first | rw [← Ny187.out] at ho13 | (simp only [Int.reduceToNat] at ho13; rw [← Ny187.out] at ho13)); have HO189 := Aside0.mk (Kd.R_lower ho13 (below_size (tb HB))); replace HB := bs HB hb; clear hb ho13; have hcv14 := own_string (P := Tryd.prog) Tryd.underlying27 Tryd.underlying5 Tryd.underlying9 (Kd.own_of_R HO189.out)))
       go_roundg k1
       case measure => have := HK1.out; omega
       case rel => exact ⟨(wrap64 (Int.tdiv x0_1 10)), ((strOfNums y187) ++ x4_1), (by first | rfl | (simp; done) | (simp [*]; done)), (by first | rfl | (simp; done) | (simp [*]; done)), H', ⟨by have := HK1.out; omega⟩, ⟨tb HB⟩⟩
      ·rw [if_neg c11] at H
       exact absurd H (by simp)
mutual
def spec_Number.j0 : Nat → ByteArray → Bool → Option (Int × Bool)
 | 0, _, _ => none
 | k + 1, x0, x13 => if x13 = true then (some (0, false)) else (spec_Number.l0 k x0 0 0)
def spec_Number.l0 : Nat → ByteArray → Int → Int → Option (Int × Bool)
 | 0, _, _, _ => none
 | k + 1, x0, x4, x5 => if x5 < (x0.size : Int) then (if 0 ≤ x5 then (if (bt x0 x5) < 48 then (some (0, false)) else (if (bt x0 x5) > 57 then (some (0, false)) else (spec_Number.l0 k x0 (wrap64 ((wrap64 ((wrap64 (10 * x4)) + (wrap64 (bt x0 x5)))) - 48)) (wrap64 (x5 + 1))))) else (none)) else ((spec_Digits.f k x4).bind fun t190 => (if t190.toList = x0.toList then (some (x4, true)) else (some (0, false))))
end
def spec_Number.f (k : Nat) (a0 : ByteArray) : Option (Int × Bool) := if (a0.size : Int) < 1 then (spec_Number.j0 k a0 true) else (spec_Number.j0 k a0 (decide ((a0.size : Int) > 6)))
theorem spec_Number.mono_l : ∀ k, (∀ y0 y1, LeO (spec_Number.j0 k y0 y1) (spec_Number.j0 (k + 1) y0 y1)) ∧ (∀ y0 y1 y2, LeO (spec_Number.l0 k y0 y1 y2) (spec_Number.l0 (k + 1) y0 y1 y2))
 | 0 => ⟨fun _ _ r h => by simp [spec_Number.j0] at h, fun _ _ _ r h => by simp [spec_Number.l0] at h⟩
 | k + 1 => by
  obtain ⟨ih0, ih1⟩ := spec_Number.mono_l k
  refine ⟨?_, ?_⟩
  ·intro y0 y1
   unfold spec_Number.j0
   repeat' first
   | (with_reducible exact ih0 _ _)
   | (with_reducible exact ih1 _ _ _)
   | (with_reducible exact spec_Digits.mono _ _)
   | (with_reducible exact LeO.refl _)
   | (with_reducible exact LeO.none _)
   | (with_reducible refine LeO.ite ?_ ?_)
   | (with_reducible refine LeO.bind ?_ (fun _ => ?_))
   | exact ih0 _ _
   | exact ih1 _ _ _
   | exact spec_Digits.mono _ _
   | exact LeO.none _
   | refine LeO.ite ?_ ?_
   | refine LeO.bind ?_ (fun _ => ?_)
  ·intro y0 y1 y2
   unfold spec_Number.l0
   repeat' first
   | (with_reducible exact ih0 _ _)
   | (with_reducible exact ih1 _ _ _)
   | (with_reducible exact spec_Digits.mono _ _)
   | (with_reducible exact LeO.refl _)
   | (with_reducible exact LeO.none _)
   | (with_reducible refine LeO.ite ?_ ?_)
   | (with_reducible refine LeO.bind ?_ (fun _ => ?_))
   | exact ih0 _ _
   | exact ih1 _ _ _
   | exact spec_Digits.mono _ _
   | exact LeO.none _
   | refine LeO.ite ?_ ?_
   | refine LeO.bind ?_ (fun _ => ?_)
theorem spec_Number.mono : ∀ a0 k, LeO (spec_Number.f k a0) (spec_Number.f (k + 1) a0) := by
 intro a0 k
 obtain ⟨ih0, ih1⟩ := spec_Number.mono_l k
 unfold spec_Number.f
 repeat' first
   | (with_reducible exact ih0 _ _)
   | (with_reducible exact ih1 _ _ _)
   | (with_reducible exact spec_Digits.mono _ _)
   | (with_reducible exact LeO.refl _)
   | (with_reducible exact LeO.none _)
   | (with_reducible refine LeO.ite ?_ ?_)
   | (with_reducible refine LeO.bind ?_ (fun _ => ?_))
   | exact ih0 _ _
   | exact ih1 _ _ _
   | exact spec_Digits.mono _ _
   | exact LeO.none _
   | refine LeO.ite ?_ ?_
   | refine LeO.bind ?_ (fun _ => ?_)
set_option maxHeartbeats 8000000 in
set_option maxRecDepth 100000 in
theorem spec_Number.calls (k : Nat) (a0 : ByteArray) (r1 : Int) (r2 : Bool) (w : World) (h : spec_Number.f k a0 = some (r1, r2)) :
  Calls Tryd.prog 14 #[.string a0] w fun e w' => e = .returned (.tuple #[.int .i64 r1, .bool r2]) ∧ Below w.heap.size w w' := by
 have HB := Aside0.mk (Below.refl w.heap.size w)
 have H : (if (a0.size : Int) < 1 then (spec_Number.j0 k a0 true) else (spec_Number.j0 k a0 (decide ((a0.size : Int) > 6)))) = some (r1, r2) := h
 clear h
 have HC2 := Aside0.mk H
 clear H
 go_enter Tryd.func14, Tryd.ntmps14
 go_upto_region 1 with (fail)
 go_cut [13] (fun v13 wc => ∃ (kq : Nat) (x13_1 : Bool), v13 = .bool x13_1 ∧ Aside0 (spec_Number.j0 kq a0 x13_1 = some (r1, r2)) ∧ Aside0 (kq ≤ k) ∧ Aside0 (Below w.heap.size w wc))
 case first =>
  have H := HC2.out
  clear HC2
  by_cases c3 : (a0.size : Int) < 1
  ·rw [if_pos c3] at H
   have c3b0 := decide_eq_true c3
   have c3b1 : decide (a0.size < 1) = true := decide_eq_true (by omega)
   clear c3
   (first | rw [c3b0] | (simp only [i64_w, i32_w]; rw [c3b0]) | skip)
   have H' := Aside0.mk H
   clear H
   go_wp2
   go_meet
   case rel => exact ⟨_, (true), (by first | rfl | (simp; done) | (simp [*]; done)), H', ⟨by first | omega | exact Nat.le_refl _⟩, ⟨tb HB⟩⟩
  ·rw [if_neg c3] at H
   have c3b0 := decide_eq_false c3
   have c3b1 : decide (a0.size < 1) = false := decide_eq_false (by omega)
   clear c3
   (first | rw [c3b0] | (simp only [i64_w, i32_w]; rw [c3b0]) | skip)
   have H' := Aside0.mk H
   clear H
   go_wp2
   go_meet
   case rel => exact ⟨_, (decide ((a0.size : Int) > 6)), (by first | rfl | (simp; done) | (simp [*]; done)), H', ⟨by first | omega | exact Nat.le_refl _⟩, ⟨tb HB⟩⟩
 case rest =>
  clear HC2
  try clear c1
  try clear p2
  try clear c3
  try clear c3b0
  try clear c3b1
  obtain ⟨kq, x13_1, rfl, HA, HJ1, HB⟩ := hcut
  cases kq with
  | zero => exact absurd HA.out (by simp [spec_Number.j0])
  | succ kj1 =>
   have H := HA.out
   clear HA
   simp only [spec_Number.j0] at H
   by_cases c4 : x13_1 = true
   ·subst c4
    have H1 : (some (0, false)) = some (r1, r2) := by rw [if_pos rfl] at H; exact H
    clear H
    have H := H1
    clear H1
    simp only [Option.some.injEq, Prod.mk.injEq] at H
    obtain ⟨rfl, rfl⟩ := H
    go_wp2
    go_ret2
    exact ⟨er, tb HB⟩
   ·replace c4 := Bool.eq_false_iff.mpr c4
    subst c4
    have H1 : (spec_Number.l0 kj1 a0 0 0) = some (r1, r2) := by rw [if_neg (show ¬ (false = true) by decide)] at H; exact H
    clear H
    have H := H1
    clear H1
    have H' := Aside0.mk H
    clear H
    go_wp2
    go_loopg [4, 5] kj1 (fun kq v4 v5 w' => ∃ (x4_2 : Int) (x5_2 : Int), v4 = .int .i64 x4_2 ∧ v5 = .int .i64 x5_2 ∧ Aside0 (spec_Number.l0 kq a0 x4_2 x5_2 = some (r1, r2)) ∧ Aside0 (kq ≤ kj1) ∧ Aside0 (Below w.heap.size w w'))
    case atStart => exact ⟨(0), (0), (by first | rfl | (simp; done) | (simp [*]; done)), (by first | rfl | (simp; done) | (simp [*]; done)), H', ⟨Nat.le_refl _⟩, ⟨tb HB⟩⟩
    case round =>
     clear H'
     try clear c1
     try clear p2
     try clear c3
     try clear c3b0
     try clear c3b1
     try clear c4
     try clear p2
     obtain ⟨x4_2, x5_2, rfl, rfl, HA, HK2, HB⟩ := hrel
     cases gk with
     | zero => exact absurd HA.out (by simp [spec_Number.l0])
     | succ k2 =>
      have H := HA.out
      clear HA
      simp only [spec_Number.l0] at H
      by_cases c5 : x5_2 < (a0.size : Int)
      ·rw [if_pos c5] at H
       have c5b0 := decide_eq_true c5
       clear c5
       by_cases c6 : 0 ≤ x5_2
       ·rw [if_pos c6] at H
        have c6b0 := decide_eq_true c6
        clear c6
        by_cases c8 : (bt a0 x5_2) < 48
        ·rw [if_pos c8] at H
         have c8b0 := decide_eq_true c8
         clear c8
         simp only [Option.some.injEq, Prod.mk.injEq] at H
         obtain ⟨rfl, rfl⟩ := H
         have p7 : 0 ≤ (x5_2 : Int) := od
         have q7 : x5_2 < (a0.size : Int) := od
         have hx7 := bt_at a0 x5_2
         replace p7 := eq_true p7
         replace q7 := eq_true q7
         go_wp2
         go_ret2
         exact ⟨er, tb HB⟩
        ·rw [if_neg c8] at H
         have c8b0 := decide_eq_false c8
         clear c8
         by_cases c10 : (bt a0 x5_2) > 57
         ·rw [if_pos c10] at H
          have c10b0 := decide_eq_true c10
          clear c10
          simp only [Option.some.injEq, Prod.mk.injEq] at H
          obtain ⟨rfl, rfl⟩ := H
          have p7 : 0 ≤ (x5_2 : Int) := od
          have q7 : x5_2 < (a0.size : Int) := od
          have hx7 := bt_at a0 x5_2
          replace p7 := eq_true p7
          replace q7 := eq_true q7
          have p9 : 0 ≤ (x5_2 : Int) := od
          have q9 : x5_2 < (a0.size : Int) := od
          have hx9 := bt_at a0 x5_2
          replace p9 := eq_true p9
          replace q9 := eq_true q9
          go_wp2
          go_ret2
          exact ⟨er, tb HB⟩
         ·rw [if_neg c10] at H
          have c10b0 := decide_eq_false c10
          clear c10
          have H' := Aside0.mk H
          clear H
          have p7 : 0 ≤ (x5_2 : Int) := od
          have q7 : x5_2 < (a0.size : Int) := od
          have hx7 := bt_at a0 x5_2
          replace p7 := eq_true p7
          replace q7 := eq_true q7
          have p9 : 0 ≤ (x5_2 : Int) := od
          have q9 : x5_2 < (a0.size : Int) := od
          have hx9 := bt_at a0 x5_2
          replace p9 := eq_true p9
          replace q9 := eq_true q9
          have p11 : 0 ≤ (x5_2 : Int) := od
          have q11 : x5_2 < (a0.size : Int) := od
          have hx11 := bt_at a0 x5_2
          replace p11 := eq_true p11
          replace q11 := eq_true q11
          go_wp2
          go_roundg k2
          case measure => have := HJ1.out; have := HK2.out; omega
          case rel => exact ⟨(wrap64 ((wrap64 ((wrap64 (10 * x4_2)) + (wrap64 (bt a0 x5_2)))) - 48)), (wrap64 (x5_2 + 1)), (by first | rfl | (simp; done) | (simp [*]; done)), (by first | rfl | (simp; done) | (simp [*]; done)), H', ⟨by have := HJ1.out; have := HK2.out; omega⟩, ⟨tb HB⟩⟩
       ·rw [if_neg c6] at H
        exact absurd H (by simp)
      ·rw [if_neg c5] at H
       have c5b0 := decide_eq_false c5
       clear c5
       replace H := Option.bind_eq_some_iff.mp H
       obtain ⟨t190, A120, H⟩ := H
       replace H : (if t190.toList = a0.toList then (some (x4_2, true)) else (some (0, false))) = some (r1, r2) := H
       have A12 := Aside0.mk A120
       clear A120
       by_cases c13 : t190.toList = a0.toList
       ·rw [if_pos c13] at H
        have c13b0 : (t190.toList == a0.toList) = true := beq_iff_eq.mpr c13
        have c13b1 : (t190.toList != a0.toList) = false := bne_eq_false_iff_eq.mpr c13
        clear c13
        simp only [Option.some.injEq, Prod.mk.injEq] at H
        obtain ⟨rfl, rfl⟩ := H
        go_wp2_with (first | ((with_reducible refine gate_callee (f := 18) rfl ?_); refine gL 39 Tryd.func18 #[.int .i64 x4_2] ?_; (with_reducible refine (spec_Digits.calls k2 x4_2 t190 _ A12.out).mono ?_); rintro e w14 ⟨rfl, hb⟩; refine ⟨_, rfl, ?_⟩; replace HB := bs HB hb; (try clear hb); (try clear hb2); (try clear hk); (try clear hi)))
        go_ret2
        exact ⟨er, tb HB⟩
       ·rw [if_neg c13] at H
        have c13b0 : (t190.toList == a0.toList) = false := beq_eq_false_iff_ne.mpr c13
        have c13b1 : (t190.toList != a0.toList) = true := bne_iff_ne.mpr c13
        simp only [Option.some.injEq, Prod.mk.injEq] at H
        obtain ⟨rfl, rfl⟩ := H
        go_wp2_with (first | ((with_reducible refine gate_callee (f := 18) rfl ?_); refine gL 39 Tryd.func18 #[.int .i64 x4_2] ?_; (with_reducible refine (spec_Digits.calls k2 x4_2 t190 _ A12.out).mono ?_); rintro e w15 ⟨rfl, hb⟩; refine ⟨_, rfl, ?_⟩; replace HB := bs HB hb; (try clear hb); (try clear hb2); (try clear hk); (try clear hi)))
        go_ret2
        exact ⟨er, tb HB⟩
def spec_DrawNumsText.l0 : Nat → List Int → Int → List Int → Int → Int → Option (List Int)
 | 0, _, _, _, _, _ => none
 | k + 1, x4, x5, x195000, x195001, x195002 => (spec_l1Below.f x195000 x195001 x195002 5).bind fun bt198 => (if x5 < bt198.1 then ((spec_l1Below.f x195000 bt198.2.1 bt198.2.2 20).bind fun bt201 => (if x4.length < 17592186044416 then (spec_DrawNumsText.l0 k (x4 ++ [wrap64 (bt201.1 - 3)]) (wrap64 (x5 + 1)) x195000 bt201.2.1 bt201.2.2) else (none))) else (some x4))
def spec_DrawNumsText.f (k : Nat) (l0 : List Int) : Option (List Int) := (spec_l1New.f k l0).bind fun bt191 => (spec_DrawNumsText.l0 k (([] : List Int)) 0 bt191.1 bt191.2.1 bt191.2.2)
theorem spec_DrawNumsText.mono_l : ∀ k, (∀ y0 y1 y2 y3 y4, LeO (spec_DrawNumsText.l0 k y0 y1 y2 y3 y4) (spec_DrawNumsText.l0 (k + 1) y0 y1 y2 y3 y4))
 | 0 => fun _ _ _ _ _ r h => by simp [spec_DrawNumsText.l0] at h
 | k + 1 => by
  have ih0 := spec_DrawNumsText.mono_l k
  ·intro y0 y1 y2 y3 y4
   unfold spec_DrawNumsText.l0
   repeat' first
   | (with_reducible exact ih0 _ _ _ _ _)
   | (with_reducible exact spec_l1New.mono _ _)
   | (with_reducible exact LeO.refl _)
   | (with_reducible exact LeO.none _)
   | (with_reducible refine LeO.ite ?_ ?_)
   | (with_reducible refine LeO.bind ?_ (fun _ => ?_))
   | exact ih0 _ _ _ _ _
   | exact spec_l1New.mono _ _
   | exact LeO.none _
   | refine LeO.ite ?_ ?_
   | refine LeO.bind ?_ (fun _ => ?_)
theorem spec_DrawNumsText.mono : ∀ a0 k, LeO (spec_DrawNumsText.f k a0) (spec_DrawNumsText.f (k + 1) a0) := by
 intro a0 k
 have ih0 := spec_DrawNumsText.mono_l k
 unfold spec_DrawNumsText.f
 repeat' first
   | (with_reducible exact ih0 _ _ _ _ _)
   | (with_reducible exact spec_l1New.mono _ _)
   | (with_reducible exact LeO.refl _)
   | (with_reducible exact LeO.none _)
   | (with_reducible refine LeO.ite ?_ ?_)
   | (with_reducible refine LeO.bind ?_ (fun _ => ?_))
   | exact ih0 _ _ _ _ _
   | exact spec_l1New.mono _ _
   | exact LeO.none _
   | refine LeO.ite ?_ ?_
   | refine LeO.bind ?_ (fun _ => ?_)
set_option maxHeartbeats 8000000 in
set_option maxRecDepth 100000 in
theorem spec_DrawNumsText.calls (k : Nat) (A0 : Option Addr) (c0 : Nat) (l0 : List Int) (r : List Int) (w : World) (hr0 : Kd.C (Kd.int .u8) w A0 l0.length l0) (hc0 : l0.length ≤ c0) (h : spec_DrawNumsText.f k l0 = some r) :
  Calls Tryd.prog 15 #[.slice A0 l0.length c0] w fun e w' => ∃ v0_ : Value, e = .returned (v0_) ∧ Kd.R (Kd.int .i64) 3 w' w.heap.size (fun _ => True) v0_ r ∧ Below w.heap.size w w' := by
 have HR0 := Aside0.mk hr0
 have HC0 := Aside0.mk hc0
 clear hr0 hc0
 have HB := Aside0.mk (Below.refl w.heap.size w)
 have H : ((spec_l1New.f k l0).bind fun bt191 => (spec_DrawNumsText.l0 k (([] : List Int)) 0 bt191.1 bt191.2.1 bt191.2.2)) = some r := h
 clear h
 replace H := Option.bind_eq_some_iff.mp H
 obtain ⟨⟨t191, t192, t193⟩, A20, H⟩ := H
 replace H : (spec_DrawNumsText.l0 k (([] : List Int)) 0 t191 t192 t193) = some r := H
 have A2 := Aside0.mk A20
 clear A20
 obtain ⟨y195, hy195⟩ : ∃ y_ : List Int, y_ = (([] : List Int)) := ⟨_, rfl⟩
 replace H : (spec_DrawNumsText.l0 k y195 0 t191 t192 t193) = some r := by first | (rw [hy195]; with_reducible exact H) | (have H2_ := (Option.bind_some _ _).symm.trans H; rw [hy195]; with_reducible exact H2_) | (have H2_ := (Option.bind_some _ _).symm.trans H; with_reducible exact H2_) | with_reducible exact H | (rw [hy195]; exact H) | exact H
 have Ny195 := Aside0.mk hy195
 clear hy195
 have H' := Aside0.mk H
 clear H
 go_enter Tryd.func15, Tryd.ntmps15
 go_wp2_with (first | ((with_reducible refine gate_callee (f := 24) rfl ?_); refine gL 7 Tryd.func24 #[.slice A0 l0.length c0] ?_; (with_reducible refine (spec_l1New.calls k _ _ l0 t191 t192 t193 w _ ?side1 ?side2 ?side3 A2.out).mono ?_); (case side1 => repeat (first | (with_reducible first | exact HB.out | apply below_alloc | apply pw_below_drewN | apply below_drew1) | exact HB.out)); (case side2 => exact HR0.out); (case side3 => exact HC0.out); rintro e w3 ⟨g194, rfl, hi, hb, hb2⟩; refine ⟨_, rfl, ?_⟩; replace HB := Aside0.mk (hb); have HI194 := Aside0.mk (hi); (try clear hb); (try clear hb2); (try clear hk); (try clear hi)) | ((with_reducible refine gate_dst (N := 8) rfl ?_); refine Kd.R_lit (Kd.int .i64) _ 3 ?hg (N := 8) ?hd (xs := ([] : List Int)) (inner := []) (ok := fun _ => True) (okp := fun _ => True) ?hr ?hp (fun _ hk => hk) trivial (Below.refl _ _) (Nat.le_refl _) (by simp) ?_; (case hd => rfl); (case hg => rfl); (case hr => first | (go_simp; done) | (go_simp; rfl)); (case hp => exact (Reps.none _ _)); intro v196 w4 ho5 hb hg_ hnew_; clear hg_ hnew_; (first | rw [← Ny195.out] at ho5 | (simp only [Int.reduceToNat] at ho5; rw [← Ny195.out] at ho5)); have HO197 := Aside0.mk (Kd.R_lower ho5 (below_size (IsS48.tb HB))); replace HI194 := Aside0.mk (IsS48.below (IsS48.go HI194) hb); replace HB := Aside0.mk (below_step (IsS48.tb HB) hb); clear hb ho5))
 go_loopg [4, 5] k (fun kq v4 v5 w' => ∃ (x4_1 : List Int) (x5_1 : Int) (x195001_1 : Int) (x195002_1 : Int), v5 = .int .i64 x5_1 ∧ Aside0 (spec_DrawNumsText.l0 kq x4_1 x5_1 t191 x195001_1 x195002_1 = some r) ∧ Aside0 (kq ≤ k) ∧ Aside0 (Kd.R (Kd.int .i64) 3 w' w.heap.size (fun _ => True) v4 x4_1) ∧ Aside0 (IsS48 w w' g194 t191 x195001_1 x195002_1) ∧ Aside0 (Below w.heap.size w w'))
 case atStart => exact ⟨(y195), (0), (t192), (t193), (by first | rfl | (simp; done) | (simp [*]; done)), H', ⟨Nat.le_refl _⟩, ⟨kr HO197.out⟩, ⟨IsS48.go HI194⟩, ⟨IsS48.tb HB⟩⟩
 case round =>
  clear H'
  try clear c1
  try clear c2
  try clear p2
  obtain ⟨x4_1, x5_1, x195001_1, x195002_1, rfl, HA, HK1, HO_4, HI194, HB⟩ := hrel
  cases gk with
  | zero => exact absurd HA.out (by simp [spec_DrawNumsText.l0])
  | succ k1 =>
   have H := HA.out
   clear HA
   simp only [spec_DrawNumsText.l0] at H
   replace H := Option.bind_eq_some_iff.mp H
   obtain ⟨⟨t198, t199, t200⟩, A60, H⟩ := H
   replace H : (if x5_1 < t198 then ((spec_l1Below.f t191 t199 t200 20).bind fun bt201 => (if x4_1.length < 17592186044416 then (spec_DrawNumsText.l0 k1 (x4_1 ++ [wrap64 (bt201.1 - 3)]) (wrap64 (x5_1 + 1)) t191 bt201.2.1 bt201.2.2) else (none))) else (some x4_1)) = some r := H
   have A6 := Aside0.mk A60
   clear A60
   by_cases c7 : x5_1 < t198
   ·rw [if_pos c7] at H
    have c7b0 := decide_eq_true c7
    clear c7
    replace H := Option.bind_eq_some_iff.mp H
    obtain ⟨⟨t201, t202, t203⟩, A80, H⟩ := H
    replace H : (if x4_1.length < 17592186044416 then (spec_DrawNumsText.l0 k1 (x4_1 ++ [wrap64 (t201 - 3)]) (wrap64 (x5_1 + 1)) t191 t202 t203) else (none)) = some r := H
    have A8 := Aside0.mk A80
    clear A80
    by_cases c9 : x4_1.length < 17592186044416
    ·rw [if_pos c9] at H
     have LMc9 := Aside0.mk c9
     clear c9
     obtain ⟨y204, hy204⟩ : ∃ y_ : List Int, y_ = (x4_1 ++ [wrap64 (t201 - 3)]) := ⟨_, rfl⟩
     replace H : (spec_DrawNumsText.l0 k1 y204 (wrap64 (x5_1 + 1)) t191 t202 t203) = some r := by first | (rw [hy204]; with_reducible exact H) | (have H2_ := (Option.bind_some _ _).symm.trans H; rw [hy204]; with_reducible exact H2_) | (have H2_ := (Option.bind_some _ _).symm.trans H; with_reducible exact H2_) | with_reducible exact H | (rw [hy204]; exact H) | exact H
     have Ny204 := Aside0.mk hy204
     clear hy204
     have H' := Aside0.mk H
     clear H
     go_wp2_with (first | ((with_reducible refine gate_callee (f := 26) rfl ?_); refine gL 11 Tryd.func26 #[.pointer (some ⟨g194, 0, none⟩), .int .i64 5] ?_; (with_reducible refine (spec_l1Below.calls g194 t191 x195001_1 x195002_1 5 t198 t199 t200 w _ ?side1 ?side2 A6.out).mono ?_); (case side1 => repeat (first | (with_reducible first | exact HI194.out | apply IsS48.alloc | apply IsS48.drewN | apply IsS48.drew | apply IsS48.set_1 | apply IsS48.set_2) | exact HI194.out)); (case side2 => repeat (first | (with_reducible first | exact HB.out | apply below_alloc | apply pw_below_drewN | apply below_drew1 | refine below_set ?_ (IsS48.ge HI194.out)) | exact HB.out)); rintro e w10 ⟨rfl, hi, hb, hk⟩; refine ⟨_, rfl, ?_⟩; replace HO_4 := Aside0.mk (Kd.R_mono (Kd.R_keep (IsS48.apart (show IsS48 w _ g194 t191 x195001_1 x195002_1 from IsS48.go HI194) (kr HO_4.out) (by decide)) hk (fun _ h => h.2)) (fun _ h => h.1)); replace HB := Aside0.mk (hb); replace HI194 := Aside0.mk (hi); (try clear hb); (try clear hb2); (try clear hk); (try clear hi)) | ((with_reducible refine gate_callee (f := 26) rfl ?_); refine gL 17 Tryd.func26 #[.pointer (some ⟨g194, 0, none⟩), .int .i64 20] ?_; (with_reducible refine (spec_l1Below.calls g194 t191 t199 t200 20 t201 t202 t203 w _ ?side1 ?side2 A8.out).mono ?_); (case side1 => repeat (first | (with_reducible first | exact HI194.out | apply IsS48.alloc | apply IsS48.drewN | apply IsS48.drew | apply IsS48.set_1 | apply IsS48.set_2) | exact HI194.out)); (case side2 => repeat (first | (with_reducible first | exact HB.out | apply below_alloc | apply pw_below_drewN | apply below_drew1 | refine below_set ?_ (IsS48.ge HI194.out)) | exact HB.out)); rintro e w11 ⟨rfl, hi, hb, hk⟩; refine ⟨_, rfl, ?_⟩; replace HO_4 := Aside0.mk (Kd.R_mono (Kd.R_keep (IsS48.apart (show IsS48 w _ g194 t191 t199 t200 from IsS48.go HI194) (kr HO_4.out) (by decide)) hk (fun _ h => h.2)) (fun _ h => h.1)); replace HB := Aside0.mk (hb); replace HI194 := Aside0.mk (hi); (try clear hb); (try clear hb2); (try clear hk); (try clear hi)) | ((with_reducible refine gate_builtin (b := .append) (xs := #[.tmp 15, .tmp 19]) rfl ?_); at_builtin; refine Kd.R_append (Kd.int .i64) (w0 := w) w.heap.size rfl (.tmp 15) (.tmp 19) 33 3 (.int .i64 0) 8 rfl Tryd.underlying33 info3 rfl (by decide) (by omega) u4 x4_1 (wrap64 (t201 - 3)) [.int .i64 (wrap64 (t201 - 3))] (fun _ => True) (fun _ => False) rfl rfl ?aP (fun _ hk => hk.elim) ?aF ?aO ?aB ?aS ?aL ?_; (case aP => exact rfl); (case aB => exact (IsS48.tb HB)); (case aF => exact (fun _ _ => trivial)); (case aO => exact (kr HO_4.out)); (case aS => exact (below_size (IsS48.tb HB))); (case aL => have := LMc9.out; omega); intro v205 w12 ho hb hg hat; rw [← Ny204.out] at ho; replace HI194 := Aside0.mk (IsS48.grown (IsS48.go HI194) hg (IsS48.own_ne HI194.out HO_4.out (by decide))); replace HB := Aside0.mk (hb); have HO206 := Aside0.mk (ho); clear HO_4; clear ho hb hg hat))
     go_roundg k1
     case measure => have := HK1.out; omega
     case rel => exact ⟨(y204), (wrap64 (x5_1 + 1)), (t202), (t203), (by first | rfl | (simp; done) | (simp [*]; done)), H', ⟨by have := HK1.out; omega⟩, ⟨kr HO206.out⟩, ⟨IsS48.go HI194⟩, ⟨IsS48.tb HB⟩⟩
    ·rw [if_neg c9] at H
     exact absurd H (by simp)
   ·rw [if_neg c7] at H
    have c7b0 := decide_eq_false c7
    clear c7
    obtain rfl := Option.some.inj H
    go_wp2_with (first | ((with_reducible refine gate_callee (f := 26) rfl ?_); refine gL 11 Tryd.func26 #[.pointer (some ⟨g194, 0, none⟩), .int .i64 5] ?_; (with_reducible refine (spec_l1Below.calls g194 t191 x195001_1 x195002_1 5 t198 t199 t200 w _ ?side1 ?side2 A6.out).mono ?_); (case side1 => repeat (first | (with_reducible first | exact HI194.out | apply IsS48.alloc | apply IsS48.drewN | apply IsS48.drew | apply IsS48.set_1 | apply IsS48.set_2) | exact HI194.out)); (case side2 => repeat (first | (with_reducible first | exact HB.out | apply below_alloc | apply pw_below_drewN | apply below_drew1 | refine below_set ?_ (IsS48.ge HI194.out)) | exact HB.out)); rintro e w13 ⟨rfl, hi, hb, hk⟩; refine ⟨_, rfl, ?_⟩; replace HO_4 := Aside0.mk (Kd.R_mono (Kd.R_keep (IsS48.apart (show IsS48 w _ g194 t191 x195001_1 x195002_1 from IsS48.go HI194) (kr HO_4.out) (by decide)) hk (fun _ h => h.2)) (fun _ h => h.1)); replace HB := Aside0.mk (hb); replace HI194 := Aside0.mk (hi); (try clear hb); (try clear hb2); (try clear hk); (try clear hi)))
    go_ret
    exact ⟨_, er, kr HO_4.out, IsS48.tb HB⟩
def spec_DrawSplit.f (k : Nat) (l0 : List Int) : Option (ByteArray × Int) := (spec_l1New.f k l0).bind fun bt207 => ((spec_l1Pick.f bt207.1 bt207.2.1 bt207.2.2 (([(⟨#[]⟩ : ByteArray), (⟨#[97]⟩ : ByteArray), (⟨#[97, 44, 98]⟩ : ByteArray), (⟨#[44]⟩ : ByteArray), (⟨#[97, 44, 44, 98, 44]⟩ : ByteArray), (⟨#[97, 47, 98, 44, 99, 47]⟩ : ByteArray)] : List ByteArray))).bind fun bt214 => ((spec_l1PickInt.f bt207.1 bt214.2.1 bt214.2.2 (([44, 47] : List Int))).bind fun bt220 => (some (bt214.1, (bt220.1) % 256))))
theorem spec_DrawSplit.mono : ∀ a0 k, LeO (spec_DrawSplit.f k a0) (spec_DrawSplit.f (k + 1) a0) := by
 intro a0 k
 unfold spec_DrawSplit.f
 repeat' first
   | (with_reducible exact spec_l1New.mono _ _)
   | (with_reducible exact LeO.refl _)
   | (with_reducible exact LeO.none _)
   | (with_reducible refine LeO.ite ?_ ?_)
   | (with_reducible refine LeO.bind ?_ (fun _ => ?_))
   | exact spec_l1New.mono _ _
   | exact LeO.none _
   | refine LeO.ite ?_ ?_
   | refine LeO.bind ?_ (fun _ => ?_)
set_option maxHeartbeats 8000000 in
set_option maxRecDepth 100000 in
theorem spec_DrawSplit.calls (k : Nat) (A0 : Option Addr) (c0 : Nat) (l0 : List Int) (r1 : ByteArray) (r2 : Int) (w : World) (hr0 : Kd.C (Kd.int .u8) w A0 l0.length l0) (hc0 : l0.length ≤ c0) (h : spec_DrawSplit.f k l0 = some (r1, r2)) :
  Calls Tryd.prog 16 #[.slice A0 l0.length c0] w fun e w' => e = .returned (.tuple #[.string r1, .int .u8 r2]) ∧ Below w.heap.size w w' := by
 have HR0 := Aside0.mk hr0
 have HC0 := Aside0.mk hc0
 clear hr0 hc0
 have HB := Aside0.mk (Below.refl w.heap.size w)
 have H : ((spec_l1New.f k l0).bind fun bt207 => ((spec_l1Pick.f bt207.1 bt207.2.1 bt207.2.2 (([(⟨#[]⟩ : ByteArray), (⟨#[97]⟩ : ByteArray), (⟨#[97, 44, 98]⟩ : ByteArray), (⟨#[44]⟩ : ByteArray), (⟨#[97, 44, 44, 98, 44]⟩ : ByteArray), (⟨#[97, 47, 98, 44, 99, 47]⟩ : ByteArray)] : List ByteArray))).bind fun bt214 => ((spec_l1PickInt.f bt207.1 bt214.2.1 bt214.2.2 (([44, 47] : List Int))).bind fun bt220 => (some (bt214.1, (bt220.1) % 256))))) = some (r1, r2) := h
 clear h
 replace H := Option.bind_eq_some_iff.mp H
 obtain ⟨⟨t207, t208, t209⟩, A20, H⟩ := H
 replace H : ((spec_l1Pick.f t207 t208 t209 (([(⟨#[]⟩ : ByteArray), (⟨#[97]⟩ : ByteArray), (⟨#[97, 44, 98]⟩ : ByteArray), (⟨#[44]⟩ : ByteArray), (⟨#[97, 44, 44, 98, 44]⟩ : ByteArray), (⟨#[97, 47, 98, 44, 99, 47]⟩ : ByteArray)] : List ByteArray))).bind fun bt214 => ((spec_l1PickInt.f t207 bt214.2.1 bt214.2.2 (([44, 47] : List Int))).bind fun bt220 => (some (bt214.1, (bt220.1) % 256)))) = some (r1, r2) := H
 have A2 := Aside0.mk A20
 clear A20
 obtain ⟨y211, hy211⟩ : ∃ y_ : List ByteArray, y_ = (([(⟨#[]⟩ : ByteArray), (⟨#[97]⟩ : ByteArray), (⟨#[97, 44, 98]⟩ : ByteArray), (⟨#[44]⟩ : ByteArray), (⟨#[97, 44, 44, 98, 44]⟩ : ByteArray), (⟨#[97, 47, 98, 44, 99, 47]⟩ : ByteArray)] : List ByteArray)) := ⟨_, rfl⟩
 replace H : ((spec_l1Pick.f t207 t208 t209 y211).bind fun bt214 => ((spec_l1PickInt.f t207 bt214.2.1 bt214.2.2 (([44, 47] : List Int))).bind fun bt220 => (some (bt214.1, (bt220.1) % 256)))) = some (r1, r2) := by first | (rw [hy211]; with_reducible exact H) | (have H2_ := (Option.bind_some _ _).symm.trans H; rw [hy211]; with_reducible exact H2_) | (have H2_ := (Option.bind_some _ _).symm.trans H; with_reducible exact H2_) | with_reducible exact H | (rw [hy211]; exact H) | exact H
 have Ny211 := Aside0.mk hy211
 clear hy211
 replace H := Option.bind_eq_some_iff.mp H
 obtain ⟨⟨t214, t215, t216⟩, A30, H⟩ := H
 replace H : ((spec_l1PickInt.f t207 t215 t216 (([44, 47] : List Int))).bind fun bt220 => (some (t214, (bt220.1) % 256))) = some (r1, r2) := H
 have A3 := Aside0.mk A30
 clear A30
 obtain ⟨y217, hy217⟩ : ∃ y_ : List Int, y_ = (([44, 47] : List Int)) := ⟨_, rfl⟩
 replace H : ((spec_l1PickInt.f t207 t215 t216 y217).bind fun bt220 => (some (t214, (bt220.1) % 256))) = some (r1, r2) := by first | (rw [hy217]; with_reducible exact H) | (have H2_ := (Option.bind_some _ _).symm.trans H; rw [hy217]; with_reducible exact H2_) | (have H2_ := (Option.bind_some _ _).symm.trans H; with_reducible exact H2_) | with_reducible exact H | (rw [hy217]; exact H) | exact H
 have Ny217 := Aside0.mk hy217
 clear hy217
 replace H := Option.bind_eq_some_iff.mp H
 obtain ⟨⟨t220, t221, t222⟩, A40, H⟩ := H
 replace H : (some (t214, (t220) % 256)) = some (r1, r2) := H
 have A4 := Aside0.mk A40
 clear A40
 simp only [Option.some.injEq, Prod.mk.injEq] at H
 obtain ⟨rfl, rfl⟩ := H
 go_enter Tryd.func16, Tryd.ntmps16
 go_wp2_with (first | ((with_reducible refine gate_callee (f := 24) rfl ?_); refine gL 7 Tryd.func24 #[.slice A0 l0.length c0] ?_; (with_reducible refine (spec_l1New.calls k _ _ l0 t207 t208 t209 w _ ?side1 ?side2 ?side3 A2.out).mono ?_); (case side1 => repeat (first | (with_reducible first | exact HB.out | apply below_alloc | apply pw_below_drewN | apply below_drew1) | exact HB.out)); (case side2 => exact HR0.out); (case side3 => exact HC0.out); rintro e w5 ⟨g210, rfl, hi, hb, hb2⟩; refine ⟨_, rfl, ?_⟩; replace HB := Aside0.mk (hb); have HI210 := Aside0.mk (hi); (try clear hb); (try clear hb2); (try clear hk); (try clear hi)) | ((with_reducible refine gate_dst (N := 9) rfl ?_); refine Kd.R_lit Kd.string _ 9 ?hg (N := 9) ?hd (xs := ([(⟨#[]⟩ : ByteArray), (⟨#[97]⟩ : ByteArray), (⟨#[97, 44, 98]⟩ : ByteArray), (⟨#[44]⟩ : ByteArray), (⟨#[97, 44, 44, 98, 44]⟩ : ByteArray), (⟨#[97, 47, 98, 44, 99, 47]⟩ : ByteArray)] : List ByteArray)) (inner := [.string (⟨#[]⟩ : ByteArray), .string (⟨#[97]⟩ : ByteArray), .string (⟨#[97, 44, 98]⟩ : ByteArray), .string (⟨#[44]⟩ : ByteArray), .string (⟨#[97, 44, 44, 98, 44]⟩ : ByteArray), .string (⟨#[97, 47, 98, 44, 99, 47]⟩ : ByteArray)]) (ok := fun _ => True) (okp := fun _ => True) ?hr ?hp (fun _ hk => hk) trivial (Below.refl _ _) (Nat.le_refl _) (by simp) ?_; (case hd => rfl); (case hg => rfl); (case hr => first | (go_simp; done) | (go_simp; rfl)); (case hp => exact (Reps.one (show Kd.M Kd.string _ _ _ (⟨#[]⟩ : ByteArray) [.string (⟨#[]⟩ : ByteArray)] from rfl) (Reps.one (show Kd.M Kd.string _ _ _ (⟨#[97]⟩ : ByteArray) [.string (⟨#[97]⟩ : ByteArray)] from rfl) (Reps.one (show Kd.M Kd.string _ _ _ (⟨#[97, 44, 98]⟩ : ByteArray) [.string (⟨#[97, 44, 98]⟩ : ByteArray)] from rfl) (Reps.one (show Kd.M Kd.string _ _ _ (⟨#[44]⟩ : ByteArray) [.string (⟨#[44]⟩ : ByteArray)] from rfl) (Reps.one (show Kd.M Kd.string _ _ _ (⟨#[97, 44, 44, 98, 44]⟩ : ByteArray) [.string (⟨#[97, 44, 44, 98, 44]⟩ : ByteArray)] from rfl) (Reps.one (show Kd.M Kd.string _ _ _ (⟨#[97, 47, 98, 44, 99, 47]⟩ : ByteArray) [.string (⟨#[97, 47, 98, 44, 99, 47]⟩ : ByteArray)] from rfl) (Reps.none _ _)))))))); intro v212 w6 ho7 hb hg_ hnew_; clear hg_ hnew_; (first | rw [← Ny211.out] at ho7 | (simp only [Int.reduceToNat] at ho7; rw [← Ny211.out] at ho7)); have HO213 := Aside0.mk (Kd.R_lower ho7 (below_size (IsS48.tb HB))); replace HI210 := Aside0.mk (IsS48.below (IsS48.go HI210) hb); replace HB := Aside0.mk (below_step (IsS48.tb HB) hb); clear hb ho7; obtain ⟨Ao8, co8, eo8⟩ := Kd.R_slice HO213.out; subst eo8) | ((with_reducible refine gate_callee (f := 25) rfl ?_); refine gL 10 Tryd.func25 #[.pointer (some ⟨g210, 0, none⟩), .slice Ao8 y211.length co8] ?_; (with_reducible refine (spec_l1Pick.calls g210 t207 t208 t209 _ _ y211 t214 t215 t216 w _ ?side1 ?side2 ?side3 ?side4 ?side5 A3.out).mono ?_); (case side1 => repeat (first | (with_reducible first | exact HI210.out | apply IsS48.alloc | apply IsS48.drewN | apply IsS48.drew | apply IsS48.set_1 | apply IsS48.set_2) | exact HI210.out)); (case side2 => repeat (first | (with_reducible first | exact HB.out | apply below_alloc | apply pw_below_drewN | apply below_drew1 | refine below_set ?_ (IsS48.ge HI210.out)) | exact HB.out)); (case side3 => repeat (first | exact (Kd.R_reads' HO213.out).2.2 | (with_reducible refine Kd.C_alloc ?_ _) | (with_reducible refine Kd.C_drewN ?_ _) | (with_reducible refine Kd.C_drew ?_))); (case side4 => exact (Kd.R_reads' HO213.out).2.1); (case side5 => exact far_slice (IsS48.own_ne HI210.out HO213.out (by decide))); rintro e w9 ⟨rfl, hi, hb, hk⟩; refine ⟨_, rfl, ?_⟩; replace HO213 := Aside0.mk (Kd.R_mono (Kd.R_keep (IsS48.apart (show IsS48 w _ g210 t207 t208 t209 from IsS48.go HI210) (kr HO213.out) (by decide)) hk (fun _ h => h.2)) (fun _ h => h.1)); replace HB := Aside0.mk (hb); replace HI210 := Aside0.mk (hi); (try clear hb); (try clear hb2); (try clear hk); (try clear hi)) | ((with_reducible refine gate_dst (N := 13) rfl ?_); refine Kd.R_lit (Kd.int .i64) _ 3 ?hg (N := 13) ?hd (xs := ([44, 47] : List Int)) (inner := [.int .i64 44, .int .i64 47]) (ok := fun _ => True) (okp := fun _ => True) ?hr ?hp (fun _ hk => hk) trivial (Below.refl _ _) (Nat.le_refl _) (by simp) ?_; (case hd => rfl); (case hg => rfl); (case hr => first | (go_simp; done) | (go_simp; rfl)); (case hp => exact (Reps.one (show Kd.M (Kd.int .i64) _ _ _ 44 [.int .i64 44] from rfl) (Reps.one (show Kd.M (Kd.int .i64) _ _ _ 47 [.int .i64 47] from rfl) (Reps.none _ _)))); intro v218 w10 ho11 hb hg_ hnew_; clear hg_ hnew_; (first | rw [← Ny217.out] at ho11 | (simp only [Int.reduceToNat] at ho11; rw [← Ny217.out] at ho11)); replace HO213 := rb HO213 hb; have HO219 := Aside0.mk (Kd.R_lower ho11 (below_size (IsS48.tb HB))); replace HI210 := Aside0.mk (IsS48.below (IsS48.go HI210) hb); replace HB := Aside0.mk (below_step (IsS48.tb HB) hb); clear hb ho11; obtain ⟨Ao12, co12, eo12⟩ := Kd.R_slice HO219.out; subst eo12) | ((with_reducible refine gate_callee (f := 23) rfl ?_); refine gL 14 Tryd.func23 #[.pointer (some ⟨g210, 0, none⟩), .slice Ao12 y217.length co12] ?_; (with_reducible refine (spec_l1PickInt.calls g210 t207 t215 t216 _ _ y217 t220 t221 t222 w _ ?side1 ?side2 ?side3 ?side4 ?side5 A4.out).mono ?_); (case side1 => repeat (first | (with_reducible first | exact HI210.out | apply IsS48.alloc | apply IsS48.drewN | apply IsS48.drew | apply IsS48.set_1 | apply IsS48.set_2) | exact HI210.out)); (case side2 => repeat (first | (with_reducible first | exact HB.out | apply below_alloc | apply pw_below_drewN | apply below_drew1 | refine below_set ?_ (IsS48.ge HI210.out)) | exact HB.out)); (case side3 => repeat (first | exact (Kd.R_reads' HO219.out).2.2 | (with_reducible refine Kd.C_alloc ?_ _) | (with_reducible refine Kd.C_drewN ?_ _) | (with_reducible refine Kd.C_drew ?_))); (case side4 => exact (Kd.R_reads' HO219.out).2.1); (case side5 => exact far_slice (IsS48.own_ne HI210.out HO219.out (by decide))); rintro e w13 ⟨rfl, hi, hb, hk⟩; refine ⟨_, rfl, ?_⟩; replace HO213 := Aside0.mk (Kd.R_mono (Kd.R_keep (IsS48.apart (show IsS48 w _ g210 t207 t215 t216 from IsS48.go HI210) (kr HO213.out) (by decide)) hk (fun _ h => h.2)) (fun _ h => h.1)); replace HO219 := Aside0.mk (Kd.R_mono (Kd.R_keep (IsS48.apart (show IsS48 w _ g210 t207 t215 t216 from IsS48.go HI210) (kr HO219.out) (by decide)) hk (fun _ h => h.2)) (fun _ h => h.1)); replace HB := Aside0.mk (hb); replace HI210 := Aside0.mk (hi); (try clear hb); (try clear hb2); (try clear hk); (try clear hi)))
 go_ret2
 exact ⟨er, IsS48.tb HB⟩
end Go.Proofs.YtopikhjcbcpiaaaDoor.Q
section
namespace Go.Proofs.YtopikhjcbcpiaaaDoor.Q
open Go.Shelf Go.RowKit Go.Proofs.YtopikhjcbcpiaaaDoorW.PrintWords
def lays156_ren : Go.Shelf.Ren := ⟨fun | 156 => 27 | 165 => 30 | 166 => 31 | 169 => 32 | 240 => 36 | 241 => 37 | 276 => 42 | 277 => 43 | n => n, fun | 31 => 22 | 9 => 9 | 3 => 3 | 4 => 4 | 0 => 0 | 20 => 20 | 72 => 52 | 76 => 56 | 70 => 50 | 37 => 27 | 75 => 55 | 127 => 62 | 164 => 67 | 5 => 5 | 80 => 58 | n => n, fun | n => n⟩
theorem lays156 : Go.Proofs.Lays.n156 Tryd.prog lays156_ren := {
  mixed := by kernel_rfl
  f156 := Tryd.func27.trans (congrArg some (by kernel_rfl))
  f165 := Tryd.func30.trans (congrArg some (by kernel_rfl))
  f166 := Tryd.func31.trans (congrArg some (by kernel_rfl))
  f169 := Tryd.func32.trans (congrArg some (by kernel_rfl))
  f240 := Tryd.func36.trans (congrArg some (by kernel_rfl))
  f241 := Tryd.func37.trans (congrArg some (by kernel_rfl))
  f276 := Tryd.func42.trans (congrArg some (by kernel_rfl))
  f277 := Tryd.func43.trans (congrArg some (by kernel_rfl))
  t0 := Tryd.underlying0
  a0 := Tryd.isAgg0
  z0 := Tryd.sizeOf0
  v0 := Tryd.zeroValue0
  t3 := Tryd.underlying3
  a3 := Tryd.isAgg3
  z3 := Tryd.sizeOf3
  v3 := Tryd.zeroValue3
  t4 := Tryd.underlying4
  a4 := Tryd.isAgg4
  z4 := Tryd.sizeOf4
  v4 := Tryd.zeroValue4
  t9 := Tryd.underlying9
  a9 := Tryd.isAgg9
  z9 := Tryd.sizeOf9
  v9 := Tryd.zeroValue9
  t20 := Tryd.underlying20
  a20 := Tryd.isAgg20
  z20 := Tryd.sizeOf20
  v20 := Tryd.zeroValue20
  t31 := Tryd.underlying22
  a31 := Tryd.isAgg22
  z31 := Tryd.sizeOf22
  v31 := Tryd.zeroValue22
  t37 := Tryd.underlying27
  a37 := Tryd.isAgg27
  z37 := Tryd.sizeOf27
  v37 := Tryd.zeroValue27
  t70 := Tryd.underlying50
  a70 := Tryd.isAgg50
  z70 := Tryd.sizeOf50
  v70 := Tryd.zeroValue50
  t72 := Tryd.underlying52
  a72 := Tryd.isAgg52
  z72 := Tryd.sizeOf52
  v72 := Tryd.zeroValue52
  t75 := Tryd.underlying55
  a75 := Tryd.isAgg55
  z75 := Tryd.sizeOf55
  v75 := Tryd.zeroValue55
  t76 := Tryd.underlying56
  a76 := Tryd.isAgg56
  z76 := Tryd.sizeOf56
  v76 := Tryd.zeroValue56
  t127 := Tryd.underlying62
  a127 := Tryd.isAgg62
  z127 := Tryd.sizeOf62
  v127 := Tryd.zeroValue62
  t164 := Tryd.underlying67
  a164 := Tryd.isAgg67
  z164 := Tryd.sizeOf67
  v164 := Tryd.zeroValue67 }
theorem builder_Extra_156 : Builder.Extra Tryd.prog lays156_ren := {
  sizeBuilder := by kernel_rfl
  liesBuilder := by kernel_rfl
  t5 := Tryd.underlying5
  a5 := Tryd.isAgg5
  z5 := Tryd.sizeOf5
  v5 := Tryd.zeroValue5
  infoByte := by kernel_rfl
  cellsByte := by kernel_rfl
  sizeByte := by kernel_rfl
  neB5 := by decide }
def strings_Join.f (l0 : List ByteArray) (a1 : ByteArray) : Option ByteArray :=
  if l0.length ≤ 140737488355328 ∧ (Lib.join (l0.map (·.data.toList)) a1.data.toList).length ≤ 140737488355328 then some ⟨(Lib.join (l0.map (·.data.toList)) a1.data.toList).toArray⟩ else none
theorem strings_Join.calls (A0 : Option Addr) (c0 : Nat) (l0 : List ByteArray) (a1 : ByteArray) (r : ByteArray) (w : World) (hr0 : Kd.C Kd.string w A0 l0.length l0) (hc0 : l0.length ≤ c0) (h : strings_Join.f l0 a1 = some r) :
    Calls Tryd.prog 27 #[.slice A0 l0.length c0, .string a1] w fun e w' => e = .returned (.string r) ∧ Below w.heap.size w w' := by
  unfold strings_Join.f at h
  by_cases hc : l0.length ≤ 140737488355328 ∧ (Lib.join (l0.map (·.data.toList)) a1.data.toList).length ≤ 140737488355328
  · rw [if_pos hc] at h
    obtain rfl := Option.some.inj h
    by_cases hn : l0 = []
    · subst hn
      exact (Any.strings_Join_none lays156 builder_Extra_156 A0 c0 a1 w).mono fun e w' hh => ⟨hh.1, by rw [hh.2]; exact Below.refl _ _⟩
    · have hpos : 0 < l0.length := by
        cases l0 with
        | nil => exact absurd rfl hn
        | cons _ _ => simp
      obtain ⟨ad, rfl, hcell⟩ := hr0.2.2 hpos
      have cells : ∀ (j : Nat) x, l0[j]? = some x → w.cell? (ad.add j) = some (.string x) := fun j x hx => by
        obtain ⟨c, hcl, hK, hcc⟩ := hcell j x hx
        have hK' : c = [.string x] := hK
        subst hK'
        have := hcc 0 _ rfl
        simpa [show (Kd.string).sz = 1 from rfl] using this
      have h0 := cells 0 l0[0] (List.getElem?_eq_getElem hpos)
      obtain ⟨bk, o, spot⟩ := ad
      have hs : spot = none := by
        cases spot with
        | none => rfl
        | some s =>
          exfalso
          unfold World.cell? at h0
          split at h0
          · simp [Addr.add] at h0
          · cases h0
      subst hs
      have hbk : bk < w.heap.size := World.block_lt_of_cell? w _ h0
      exact Any.strings_Join lays156 builder_Extra_156 bk o c0 l0 a1 w (fun j x hx => by
        have h1 := cells j x hx
        rcases Nat.eq_zero_or_pos j with rfl | hj
        · simpa [Addr.add] using h1
        · rw [Addr.add, if_neg (by omega)] at h1; exact h1) hbk hc.1 hc0 hc.2
  · rw [if_neg hc] at h; cases h
end Go.Proofs.YtopikhjcbcpiaaaDoor.Q
end
namespace Go.Proofs.YtopikhjcbcpiaaaDoor.Q
open Go.RowKit Go.Proofs.YtopikhjcbcpiaaaDoorW.PrintWords Go.Proofs.YtopikhjcbcpiaaaDoorW.PrintLast Go.Proofs.YtopikhjcbcpiaaaDoorW.PrintMore
attribute [local go_sem] max2_int min2_int max_two min_two max_three min_three max_four min_four   -- for this text's walks alone
set_option linter.unusedVariables false
set_option linter.unusedSimpArgs false
def impl_NumsText.l0 : Nat → List ByteArray → List Int → Int → Int → Option (ByteArray)
 | 0, _, _, _, _ => none
 | k + 1, x3, x7, x8, x9 => if x9 < x8 then (if 0 ≤ x9 then (if x9 < (x7.length : Int) then ((impl_Digits.f k (rd x7 x9)).bind fun t227 => (if x3.length < 8796093022208 then (impl_NumsText.l0 k (x3 ++ [t227]) x7 x8 (wrap64 (x9 + 1))) else (none))) else (none)) else (none)) else ((strings_Join.f x3 (⟨#[44]⟩ : ByteArray)).bind fun t231 => (some t231))
def impl_NumsText.f (k : Nat) (l0 : List Int) : Option (ByteArray) := impl_NumsText.l0 k (([] : List ByteArray)) l0 (l0.length : Int) 0
theorem impl_NumsText.mono_l : ∀ k, (∀ y0 y1 y2 y3, LeO (impl_NumsText.l0 k y0 y1 y2 y3) (impl_NumsText.l0 (k + 1) y0 y1 y2 y3))
 | 0 => fun _ _ _ _ r h => by simp [impl_NumsText.l0] at h
 | k + 1 => by
  have ih0 := impl_NumsText.mono_l k
  ·intro y0 y1 y2 y3
   unfold impl_NumsText.l0
   repeat' first
   | (with_reducible exact ih0 _ _ _ _)
   | (with_reducible exact impl_Digits.mono _ _)
   | (with_reducible exact LeO.refl _)
   | (with_reducible exact LeO.none _)
   | (with_reducible refine LeO.ite ?_ ?_)
   | (with_reducible refine LeO.bind ?_ (fun _ => ?_))
   | exact ih0 _ _ _ _
   | exact impl_Digits.mono _ _
   | exact LeO.none _
   | refine LeO.ite ?_ ?_
   | refine LeO.bind ?_ (fun _ => ?_)
theorem impl_NumsText.mono : ∀ a0 k, LeO (impl_NumsText.f k a0) (impl_NumsText.f (k + 1) a0) := by
 intro a0 k
 have ih0 := impl_NumsText.mono_l k
 unfold impl_NumsText.f
 repeat' first
   | (with_reducible exact ih0 _ _ _ _)
   | (with_reducible exact impl_Digits.mono _ _)
   | (with_reducible exact LeO.refl _)
   | (with_reducible exact LeO.none _)
   | (with_reducible refine LeO.ite ?_ ?_)
   | (with_reducible refine LeO.bind ?_ (fun _ => ?_))
   | exact ih0 _ _ _ _
   | exact impl_Digits.mono _ _
   | exact LeO.none _
   | refine LeO.ite ?_ ?_
   | refine LeO.bind ?_ (fun _ => ?_)
set_option maxHeartbeats 8000000 in
set_option maxRecDepth 100000 in
theorem impl_NumsText.calls (k : Nat) (A0 : Option Addr) (c0 : Nat) (l0 : List Int) (r : ByteArray) (w : World) (hr0 : Kd.C (Kd.int .i64) w A0 l0.length l0) (hc0 : l0.length ≤ c0) (h : impl_NumsText.f k l0 = some r) :
  Calls Tryd.prog 19 #[.slice A0 l0.length c0] w fun e w' => e = .returned (.string r) ∧ Below w.heap.size w w' := by
 have HR0 := Aside0.mk hr0
 have HC0 := Aside0.mk hc0
 clear hr0 hc0
 have HB := Aside0.mk (Below.refl w.heap.size w)
 have H : (impl_NumsText.l0 k (([] : List ByteArray)) l0 (l0.length : Int) 0) = some r := h
 clear h
 obtain ⟨y223, hy223⟩ : ∃ y_ : List ByteArray, y_ = (([] : List ByteArray)) := ⟨_, rfl⟩
 replace H : (impl_NumsText.l0 k y223 l0 (l0.length : Int) 0) = some r := by first | (rw [hy223]; with_reducible exact H) | (have H2_ := (Option.bind_some _ _).symm.trans H; rw [hy223]; with_reducible exact H2_) | (have H2_ := (Option.bind_some _ _).symm.trans H; with_reducible exact H2_) | with_reducible exact H | (rw [hy223]; exact H) | exact H
 have Ny223 := Aside0.mk hy223
 clear hy223
 have H' := Aside0.mk H
 clear H
 go_enter Tryd.func19, Tryd.ntmps19
 go_wp2_with (first | ((with_reducible refine gate_dst (N := 6) rfl ?_); refine Kd.R_lit Kd.string _ 9 ?hg (N := 6) ?hd (xs := ([] : List ByteArray)) (inner := []) (ok := fun _ => True) (okp := fun _ => True) ?hr ?hp (fun _ hk => hk) trivial (Below.refl _ _) (Nat.le_refl _) (by simp) ?_; (case hd => rfl); (case hg => rfl); (case hr => first | (go_simp; done) | (go_simp; rfl)); (case hp => exact (Reps.none _ _)); intro v224 w2 ho3 hb hg_ hnew_; clear hg_ hnew_; (first | rw [← Ny223.out] at ho3 | (simp only [Int.reduceToNat] at ho3; rw [← Ny223.out] at ho3)); have HO225 := Aside0.mk (Kd.R_lower ho3 (below_size (tb HB))); replace HB := bs HB hb; clear hb ho3))
 go_loopg [3, 9] k (fun kq v3 v9 w' => ∃ (x3_1 : List ByteArray) (x9_1 : Int), v9 = .int .i64 x9_1 ∧ Aside0 (impl_NumsText.l0 kq x3_1 l0 (l0.length : Int) x9_1 = some r) ∧ Aside0 (kq ≤ k) ∧ Aside0 (Kd.R Kd.string 9 w' w.heap.size (fun _ => True) v3 x3_1) ∧ Aside0 (Below w.heap.size w w'))
 case atStart => exact ⟨(y223), (0), (by first | rfl | (simp; done) | (simp [*]; done)), H', ⟨Nat.le_refl _⟩, ⟨kr HO225.out⟩, ⟨tb HB⟩⟩
 case round =>
  clear H'
  try clear c1
  try clear p2
  obtain ⟨x3_1, x9_1, rfl, HA, HK1, HO_3, HB⟩ := hrel
  cases gk with
  | zero => exact absurd HA.out (by simp [impl_NumsText.l0])
  | succ k1 =>
   have H := HA.out
   clear HA
   simp only [impl_NumsText.l0] at H
   by_cases c4 : x9_1 < (l0.length : Int)
   ·rw [if_pos c4] at H
    have c4b0 := decide_eq_true c4
    clear c4
    by_cases c5 : 0 ≤ x9_1
    ·rw [if_pos c5] at H
     have c5b0 := decide_eq_true c5
     clear c5
     by_cases c6 : x9_1 < (l0.length : Int)
     ·rw [if_pos c6] at H
      have c6b0 := decide_eq_true c6
      clear c6
      replace H := Option.bind_eq_some_iff.mp H
      obtain ⟨t227, A70, H⟩ := H
      replace H : (if x3_1.length < 8796093022208 then (impl_NumsText.l0 k1 (x3_1 ++ [t227]) l0 (l0.length : Int) (wrap64 (x9_1 + 1))) else (none)) = some r := H
      have A7 := Aside0.mk A70
      clear A70
      by_cases c8 : x3_1.length < 8796093022208
      ·rw [if_pos c8] at H
       have LMc8 := Aside0.mk c8
       clear c8
       obtain ⟨y228, hy228⟩ : ∃ y_ : List ByteArray, y_ = (x3_1 ++ [t227]) := ⟨_, rfl⟩
       replace H : (impl_NumsText.l0 k1 y228 l0 (l0.length : Int) (wrap64 (x9_1 + 1))) = some r := by first | (rw [hy228]; with_reducible exact H) | (have H2_ := (Option.bind_some _ _).symm.trans H; rw [hy228]; with_reducible exact H2_) | (have H2_ := (Option.bind_some _ _).symm.trans H; with_reducible exact H2_) | with_reducible exact H | (rw [hy228]; exact H) | exact H
       have Ny228 := Aside0.mk hy228
       clear hy228
       have H' := Aside0.mk H
       clear H
       have p226 : 0 ≤ (x9_1 : Int) := od
       have q226 : x9_1 < (l0.length : Int) := od
       obtain ⟨ad226, e226, hx226_0⟩ := Kd.at_int HR0.out x9_1 p226 q226
       cases e226
       replace hx226_0 := ox HB hx226_0
       replace p226 := eq_true p226
       replace q226 := eq_true q226
       go_wp2_with (first | ((with_reducible refine gate_callee (f := 17) rfl ?_); refine gL 15 Tryd.func17 #[.int .i64 (rd l0 x9_1)] ?_; (with_reducible refine (impl_Digits.calls k1 (rd l0 x9_1) t227 _ A7.out).mono ?_); rintro e w9 ⟨rfl, hb⟩; refine ⟨_, rfl, ?_⟩; replace HO_3 := rb HO_3 hb; replace HB := bs HB hb; (try clear hb); (try clear hb2); (try clear hk); (try clear hi)) | ((with_reducible refine gate_builtin (b := .append) (xs := #[.tmp 13, .tmp 16]) rfl ?_); at_builtin; refine Kd.R_append Kd.string (w0 := w) w.heap.size rfl (.tmp 13) (.tmp 16) 22 9 (.string ⟨#[]⟩) 16 rfl Tryd.underlying22 info9 rfl (by decide) (by omega) u3 x3_1 t227 [.string t227] (fun _ => True) (fun _ => False) rfl rfl ?aP (fun _ hk => hk.elim) ?aF ?aO ?aB ?aS ?aL ?_; (case aP => exact rfl); (case aB => exact (tb HB)); (case aF => exact (fun _ _ => trivial)); (case aO => exact (kr HO_3.out)); (case aS => exact (below_size (tb HB))); (case aL => have := LMc8.out; omega); intro v229 w10 ho hb hg hat; rw [← Ny228.out] at ho; replace HB := Aside0.mk (hb); have HO230 := Aside0.mk (ho); clear HO_3; clear ho hb hg hat))
       go_roundg k1
       case measure => have := HK1.out; omega
       case rel => exact ⟨(y228), (wrap64 (x9_1 + 1)), (by first | rfl | (simp; done) | (simp [*]; done)), H', ⟨by have := HK1.out; omega⟩, ⟨kr HO230.out⟩, ⟨tb HB⟩⟩
      ·rw [if_neg c8] at H
       exact absurd H (by simp)
     ·rw [if_neg c6] at H
      exact absurd H (by simp)
    ·rw [if_neg c5] at H
     exact absurd H (by simp)
   ·rw [if_neg c4] at H
    have c4b0 := decide_eq_false c4
    clear c4
    replace H := Option.bind_eq_some_iff.mp H
    obtain ⟨t231, A110, H⟩ := H
    replace H : (some t231) = some r := H
    have A11 := Aside0.mk A110
    clear A110
    obtain rfl := Option.some.inj H
    obtain ⟨Ao12, co12, eo12⟩ := Kd.R_slice HO_3.out
    subst eo12
    go_wp2_with (first | ((with_reducible refine gate_callee (f := 27) rfl ?_); refine gL 20 Tryd.func27 #[.slice Ao12 x3_1.length co12, .string (⟨#[44]⟩ : ByteArray)] ?_; (with_reducible refine (strings_Join.calls _ _ x3_1 (⟨#[44]⟩ : ByteArray) t231 _ ?side1 ?side2 A11.out).mono ?_); (case side1 => repeat (first | exact (Kd.R_reads' HO_3.out).2.2 | (with_reducible refine Kd.C_alloc ?_ _) | (with_reducible refine Kd.C_drewN ?_ _) | (with_reducible refine Kd.C_drew ?_))); (case side2 => exact (Kd.R_reads' HO_3.out).2.1); rintro e w13 ⟨rfl, hb⟩; refine ⟨_, rfl, ?_⟩; replace HO_3 := rb HO_3 hb; replace HB := bs HB hb; (try clear hb); (try clear hb2); (try clear hk); (try clear hi)))
    go_ret
    exact ⟨er, tb HB⟩
def spec_NumsText.l0 : Nat → List Int → ByteArray → Int → Option (ByteArray)
 | 0, _, _, _ => none
 | k + 1, x0, x3, x4 => if x4 < (x0.length : Int) then (if x4 > 0 then (if x3.size + 1 ≤ 9223372036854775807 then (if 0 ≤ x4 then ((spec_Digits.f k (rd x0 x4)).bind fun t233 => (if (x3 ++ (⟨#[44]⟩ : ByteArray)).size + t233.size ≤ 9223372036854775807 then (spec_NumsText.l0 k x0 ((x3 ++ (⟨#[44]⟩ : ByteArray)) ++ t233) (wrap64 (x4 + 1))) else (none))) else (none)) else (none)) else (if 0 ≤ x4 then ((spec_Digits.f k (rd x0 x4)).bind fun t235 => (if x3.size + t235.size ≤ 9223372036854775807 then (spec_NumsText.l0 k x0 (x3 ++ t235) (wrap64 (x4 + 1))) else (none))) else (none))) else (some x3)
def spec_NumsText.f (k : Nat) (l0 : List Int) : Option (ByteArray) := spec_NumsText.l0 k l0 (⟨#[]⟩ : ByteArray) 0
theorem spec_NumsText.mono_l : ∀ k, (∀ y0 y1 y2, LeO (spec_NumsText.l0 k y0 y1 y2) (spec_NumsText.l0 (k + 1) y0 y1 y2))
 | 0 => fun _ _ _ r h => by simp [spec_NumsText.l0] at h
 | k + 1 => by
  have ih0 := spec_NumsText.mono_l k
  ·intro y0 y1 y2
   unfold spec_NumsText.l0
   repeat' first
   | (with_reducible exact ih0 _ _ _)
   | (with_reducible exact spec_Digits.mono _ _)
   | (with_reducible exact LeO.refl _)
   | (with_reducible exact LeO.none _)
   | (with_reducible refine LeO.ite ?_ ?_)
   | (with_reducible refine LeO.bind ?_ (fun _ => ?_))
   | exact ih0 _ _ _
   | exact spec_Digits.mono _ _
   | exact LeO.none _
   | refine LeO.ite ?_ ?_
   | refine LeO.bind ?_ (fun _ => ?_)
theorem spec_NumsText.mono : ∀ a0 k, LeO (spec_NumsText.f k a0) (spec_NumsText.f (k + 1) a0) := by
 intro a0 k
 have ih0 := spec_NumsText.mono_l k
 unfold spec_NumsText.f
 repeat' first
   | (with_reducible exact ih0 _ _ _)
   | (with_reducible exact spec_Digits.mono _ _)
   | (with_reducible exact LeO.refl _)
   | (with_reducible exact LeO.none _)
   | (with_reducible refine LeO.ite ?_ ?_)
   | (with_reducible refine LeO.bind ?_ (fun _ => ?_))
   | exact ih0 _ _ _
   | exact spec_Digits.mono _ _
   | exact LeO.none _
   | refine LeO.ite ?_ ?_
   | refine LeO.bind ?_ (fun _ => ?_)
set_option maxHeartbeats 8000000 in
set_option maxRecDepth 100000 in
theorem spec_NumsText.calls (k : Nat) (A0 : Option Addr) (c0 : Nat) (l0 : List Int) (r : ByteArray) (w : World) (hr0 : Kd.C (Kd.int .i64) w A0 l0.length l0) (hc0 : l0.length ≤ c0) (h : spec_NumsText.f k l0 = some r) :
  Calls Tryd.prog 20 #[.slice A0 l0.length c0] w fun e w' => e = .returned (.string r) ∧ Below w.heap.size w w' := by
 have HR0 := Aside0.mk hr0
 have HC0 := Aside0.mk hc0
 clear hr0 hc0
 have HB := Aside0.mk (Below.refl w.heap.size w)
 have H : (spec_NumsText.l0 k l0 (⟨#[]⟩ : ByteArray) 0) = some r := h
 clear h
 have H' := Aside0.mk H
 clear H
 go_enter Tryd.func20, Tryd.ntmps20
 go_wp2
 go_loopg [3, 4] k (fun kq v3 v4 w' => ∃ (x3_1 : ByteArray) (x4_1 : Int), v3 = .string x3_1 ∧ v4 = .int .i64 x4_1 ∧ Aside0 (spec_NumsText.l0 kq l0 x3_1 x4_1 = some r) ∧ Aside0 (kq ≤ k) ∧ Aside0 (Below w.heap.size w w'))
 case atStart => exact ⟨((⟨#[]⟩ : ByteArray)), (0), (by first | rfl | (simp; done) | (simp [*]; done)), (by first | rfl | (simp; done) | (simp [*]; done)), H', ⟨Nat.le_refl _⟩, ⟨tb HB⟩⟩
 case round =>
  clear H'
  obtain ⟨x3_1, x4_1, rfl, rfl, HA, HK1, HB⟩ := hrel
  cases gk with
  | zero => exact absurd HA.out (by simp [spec_NumsText.l0])
  | succ k1 =>
   have H := HA.out
   clear HA
   simp only [spec_NumsText.l0] at H
   by_cases c2 : x4_1 < (l0.length : Int)
   ·rw [if_pos c2] at H
    have c2b0 := decide_eq_true c2
    clear c2
    by_cases c3 : x4_1 > 0
    ·rw [if_pos c3] at H
     have c3b0 := decide_eq_true c3
     clear c3
     by_cases c4 : x3_1.size + 1 ≤ 9223372036854775807
     ·rw [if_pos c4] at H
      have c4b0 := eq_true c4
      have c4b1 := decide_eq_true c4
      try have c4b2 : (9223372036854775807 < x3_1.size + 1) = False := eq_false (Nat.not_lt.2 c4)
      by_cases c5 : 0 ≤ x4_1
      ·rw [if_pos c5] at H
       have c5b0 := decide_eq_true c5
       clear c5
       replace H := Option.bind_eq_some_iff.mp H
       obtain ⟨t233, A60, H⟩ := H
       replace H : (if (x3_1 ++ (⟨#[44]⟩ : ByteArray)).size + t233.size ≤ 9223372036854775807 then (spec_NumsText.l0 k1 l0 ((x3_1 ++ (⟨#[44]⟩ : ByteArray)) ++ t233) (wrap64 (x4_1 + 1))) else (none)) = some r := H
       have A6 := Aside0.mk A60
       clear A60
       by_cases c7 : (x3_1 ++ (⟨#[44]⟩ : ByteArray)).size + t233.size ≤ 9223372036854775807
       ·rw [if_pos c7] at H
        have c7b0 := eq_true c7
        have c7b1 := decide_eq_true c7
        try have c7b2 : (9223372036854775807 < (x3_1 ++ (⟨#[44]⟩ : ByteArray)).size + t233.size) = False := eq_false (Nat.not_lt.2 c7)
        have c7b3 : (9223372036854775807 < x3_1.size + 1 + t233.size) = False := eq_false (Nat.not_lt.2 (by have h_ := c7; rw [ByteArray.size_append] at h_; exact h_))
        have H' := Aside0.mk H
        clear H
        have p232 : 0 ≤ (x4_1 : Int) := od
        have q232 : x4_1 < (l0.length : Int) := od
        obtain ⟨ad232, e232, hx232_0⟩ := Kd.at_int HR0.out x4_1 p232 q232
        cases e232
        replace hx232_0 := ox HB hx232_0
        replace p232 := eq_true p232
        replace q232 := eq_true q232
        go_wp2_with (first | ((with_reducible refine gate_callee (f := 18) rfl ?_); refine gL 20 Tryd.func18 #[.int .i64 (rd l0 x4_1)] ?_; (with_reducible refine (spec_Digits.calls k1 (rd l0 x4_1) t233 _ A6.out).mono ?_); rintro e w8 ⟨rfl, hb⟩; refine ⟨_, rfl, ?_⟩; replace HB := bs HB hb; (try clear hb); (try clear hb2); (try clear hk); (try clear hi)))
        go_roundg k1
        case measure => have := HK1.out; omega
        case rel => exact ⟨((x3_1 ++ (⟨#[44]⟩ : ByteArray)) ++ t233), (wrap64 (x4_1 + 1)), (by first | rfl | (simp; done) | (simp [*]; done)), (by first | rfl | (simp; done) | (simp [*]; done)), H', ⟨by have := HK1.out; omega⟩, ⟨tb HB⟩⟩
       ·rw [if_neg c7] at H
        exact absurd H (by simp)
      ·rw [if_neg c5] at H
       exact absurd H (by simp)
     ·rw [if_neg c4] at H
      exact absurd H (by simp)
    ·rw [if_neg c3] at H
     have c3b0 := decide_eq_false c3
     clear c3
     by_cases c9 : 0 ≤ x4_1
     ·rw [if_pos c9] at H
      have c9b0 := decide_eq_true c9
      clear c9
      replace H := Option.bind_eq_some_iff.mp H
      obtain ⟨t235, A100, H⟩ := H
      replace H : (if x3_1.size + t235.size ≤ 9223372036854775807 then (spec_NumsText.l0 k1 l0 (x3_1 ++ t235) (wrap64 (x4_1 + 1))) else (none)) = some r := H
      have A10 := Aside0.mk A100
      clear A100
      by_cases c11 : x3_1.size + t235.size ≤ 9223372036854775807
      ·rw [if_pos c11] at H
       have c11b0 := eq_true c11
       have c11b1 := decide_eq_true c11
       try have c11b2 : (9223372036854775807 < x3_1.size + t235.size) = False := eq_false (Nat.not_lt.2 c11)
       have H' := Aside0.mk H
       clear H
       have p234 : 0 ≤ (x4_1 : Int) := od
       have q234 : x4_1 < (l0.length : Int) := od
       obtain ⟨ad234, e234, hx234_0⟩ := Kd.at_int HR0.out x4_1 p234 q234
       cases e234
       replace hx234_0 := ox HB hx234_0
       replace p234 := eq_true p234
       replace q234 := eq_true q234
       go_wp2_with (first | ((with_reducible refine gate_callee (f := 18) rfl ?_); refine gL 20 Tryd.func18 #[.int .i64 (rd l0 x4_1)] ?_; (with_reducible refine (spec_Digits.calls k1 (rd l0 x4_1) t235 _ A10.out).mono ?_); rintro e w12 ⟨rfl, hb⟩; refine ⟨_, rfl, ?_⟩; replace HB := bs HB hb; (try clear hb); (try clear hb2); (try clear hk); (try clear hi)))
       go_roundg k1
       case measure => have := HK1.out; omega
       case rel => exact ⟨(x3_1 ++ t235), (wrap64 (x4_1 + 1)), (by first | rfl | (simp; done) | (simp [*]; done)), (by first | rfl | (simp; done) | (simp [*]; done)), H', ⟨by have := HK1.out; omega⟩, ⟨tb HB⟩⟩
      ·rw [if_neg c11] at H
       exact absurd H (by simp)
     ·rw [if_neg c9] at H
      exact absurd H (by simp)
   ·rw [if_neg c2] at H
    have c2b0 := decide_eq_false c2
    clear c2
    obtain rfl := Option.some.inj H
    go_wp2
    go_ret
    exact ⟨er, tb HB⟩
end Go.Proofs.YtopikhjcbcpiaaaDoor.Q
section
namespace Go.Proofs.YtopikhjcbcpiaaaDoor.Q
open Go.Shelf Go.RowKit Go.Proofs.YtopikhjcbcpiaaaDoorW.PrintWords Go.Proofs.YtopikhjcbcpiaaaDoorW.PrintLast Go.Proofs.YtopikhjcbcpiaaaDoorW.PrintMore
set_option linter.unusedVariables false
set_option linter.unusedSimpArgs false
def lays146_ren : Go.Shelf.Ren := ⟨fun | 146 => 21 | 221 => 28 | 268 => 33 | 138 => 34 | 143 => 35 | 195 => 38 | 197 => 39 | 218 => 40 | 219 => 41 | 260 => 44 | 217 => 45 | 225 => 46 | 224 => 47 | 267 => 48 | 266 => 49 | 314 => 50 | n => n, fun | 9 => 9 | 31 => 22 | 3 => 3 | 4 => 4 | 0 => 0 | 105 => 64 | 21 => 21 | 5 => 5 | 46 => 61 | 119 => 71 | 139 => 74 | 138 => 73 | 146 => 76 | 51 => 75 | n => n, fun | 1 => 0 | 3 => 1 | 4 => 2 | n => n⟩
theorem lays146 : Go.Proofs.Lays.n146 Tryd.prog lays146_ren := {
  mixed := by kernel_rfl
  f138 := Tryd.func34.trans (congrArg some (by kernel_rfl))
  f143 := Tryd.func35.trans (congrArg some (by kernel_rfl))
  f146 := Tryd.func21.trans (congrArg some (by kernel_rfl))
  f195 := Tryd.func38.trans (congrArg some (by kernel_rfl))
  f197 := Tryd.func39.trans (congrArg some (by kernel_rfl))
  f217 := Tryd.func45.trans (congrArg some (by kernel_rfl))
  f218 := Tryd.func40.trans (congrArg some (by kernel_rfl))
  f219 := Tryd.func41.trans (congrArg some (by kernel_rfl))
  f221 := Tryd.func28.trans (congrArg some (by kernel_rfl))
  f224 := Tryd.func47.trans (congrArg some (by kernel_rfl))
  f225 := Tryd.func46.trans (congrArg some (by kernel_rfl))
  f260 := Tryd.func44.trans (congrArg some (by kernel_rfl))
  f266 := Tryd.func49.trans (congrArg some (by kernel_rfl))
  f267 := Tryd.func48.trans (congrArg some (by kernel_rfl))
  f268 := Tryd.func33.trans (congrArg some (by kernel_rfl))
  f314 := Tryd.func50.trans (congrArg some (by kernel_rfl))
  t0 := Tryd.underlying0
  a0 := Tryd.isAgg0
  z0 := Tryd.sizeOf0
  v0 := Tryd.zeroValue0
  t3 := Tryd.underlying3
  a3 := Tryd.isAgg3
  z3 := Tryd.sizeOf3
  v3 := Tryd.zeroValue3
  t4 := Tryd.underlying4
  a4 := Tryd.isAgg4
  z4 := Tryd.sizeOf4
  v4 := Tryd.zeroValue4
  t5 := Tryd.underlying5
  a5 := Tryd.isAgg5
  z5 := Tryd.sizeOf5
  v5 := Tryd.zeroValue5
  t9 := Tryd.underlying9
  a9 := Tryd.isAgg9
  z9 := Tryd.sizeOf9
  v9 := Tryd.zeroValue9
  t21 := Tryd.underlying21
  a21 := Tryd.isAgg21
  z21 := Tryd.sizeOf21
  v21 := Tryd.zeroValue21
  t31 := Tryd.underlying22
  a31 := Tryd.isAgg22
  z31 := Tryd.sizeOf22
  v31 := Tryd.zeroValue22
  t46 := Tryd.underlying61
  a46 := Tryd.isAgg61
  z46 := Tryd.sizeOf61
  v46 := Tryd.zeroValue61
  t51 := Tryd.underlying75
  a51 := Tryd.isAgg75
  z51 := Tryd.sizeOf75
  v51 := Tryd.zeroValue75
  t105 := Tryd.underlying64
  a105 := Tryd.isAgg64
  z105 := Tryd.sizeOf64
  v105 := Tryd.zeroValue64
  t119 := Tryd.underlying71
  a119 := Tryd.isAgg71
  z119 := Tryd.sizeOf71
  t138 := Tryd.underlying73
  a138 := Tryd.isAgg73
  z138 := Tryd.sizeOf73
  v138 := Tryd.zeroValue73
  t139 := Tryd.underlying74
  a139 := Tryd.isAgg74
  z139 := Tryd.sizeOf74
  v139 := Tryd.zeroValue74
  t146 := Tryd.underlying76
  a146 := Tryd.isAgg76
  z146 := Tryd.sizeOf76
  v146 := Tryd.zeroValue76
  g1 := by kernel_rfl
  g3 := by kernel_rfl
  g4 := by kernel_rfl }
def impl_Split.f (a0 : ByteArray) (a1 : Int) : Option (List ByteArray) :=
  if a0.size < 4294967281 then some (Lib.splitB (strOfNums [a1]) 0 (Lib.countB a0 (strOfNums [a1])) a0) else none
theorem maxlen_below {w : World} (h : ∃ m, w.cell? ⟨0, 0, none⟩ = some (.int .i64 m)) : ∀ W, Below w.heap.size w W → ∃ m, W.cell? ⟨0, 0, none⟩ = some (.int .i64 m) := by
  obtain ⟨m, hm⟩ := h
  exact fun W hb => ⟨m, pw_cell_below hb hm⟩
theorem sep_size (a1 : Int) : 1 ≤ (strOfNums [a1]).size := by
  unfold strOfNums
  simp [ByteArray.size]
set_option maxHeartbeats 4000000 in
set_option maxRecDepth 100000 in
theorem impl_Split.calls (a0 : ByteArray) (a1 : Int) (r : List ByteArray) (w : World) (hm : ∃ m, w.cell? ⟨0, 0, none⟩ = some (.int .i64 m)) (h : impl_Split.f a0 a1 = some r) :
    Calls Tryd.prog 6 #[.string a0, .int .u8 a1] w fun e w' => ∃ v0_ : Value, e = .returned (v0_) ∧ Kd.R Kd.string 9 w' w.heap.size (fun _ => True) v0_ r ∧ Below w.heap.size w w' := by
  unfold impl_Split.f at h
  by_cases hs : a0.size < 4294967281
  · rw [if_pos hs] at h
    have HR := Aside0.mk (Option.some.inj h)
    have HM := Aside0.mk (maxlen_below hm)
    have HS := Aside0.mk hs
    have HB := Aside0.mk (Below.refl w.heap.size w)
    clear h hm hs
    go_enter Tryd.func6, Tryd.ntmps6
    go_wp2_with (first
      | ((with_reducible refine gate_dst (N := 7) rfl ?_); refine Kd.R_lit (Kd.int .u8) _ 5 ?hg (N := 7) ?hd (xs := ([a1] : List Int)) (inner := [.int .u8 a1]) (ok := fun _ => True) (okp := fun _ => True) ?hr ?hp (fun _ hk => hk) trivial (Below.refl _ _) (Nat.le_refl _) (by simp) ?_; (case hd => rfl); (case hg => rfl); (case hr => first | (go_simp; done) | (go_simp; rfl)); (case hp => exact (Reps.one (show Kd.M (Kd.int .u8) _ _ _ a1 [.int .u8 a1] from rfl) (Reps.none _ _))); intro v185 w8 ho9 hb hg_ hnew_; clear hg_ hnew_; have HO := Aside0.mk ho9; replace HB := Aside0.mk hb; clear hb ho9; have hcv10 := own_string (P := Tryd.prog) Tryd.underlying27 Tryd.underlying5 Tryd.underlying9 (Kd.own_of_R HO.out))
      | (go_at_call 21; obtain ⟨m, hm⟩ := HM.out _ HB.out; refine (Any.strings_Split lays146 (by kernel_rfl) a0 (strOfNums [a1]) m _ HS.out hm (sep_size a1)).mono ?_; rintro e w' ⟨rfl, rfl⟩))
    go_ret
    have hlen := Lib.splitB_all (strOfNums [a1]) (sep_size a1) 0 _ a0 rfl
    have hle := Lib.countB_le (strOfNums [a1]) (sep_size a1) a0.size a0 (Nat.le_refl _)
    have hs := HS.out
    have ho := own_lit_of (enc := Value.string) w8 w.heap.size 9 (Lib.splitB (strOfNums [a1]) 0 (Lib.countB a0 (strOfNums [a1])) a0) (below_size HB.out) (by omega)
    rw [hlen] at ho
    refine ⟨_, rfl, ?_, below_alloc HB.out _⟩
    rw [← HR.out]
    refine Kd.R_of_own (enc := Value.string) ?_ (fun _ _ => trivial)
    rw [hlen]
    exact ho
  · rw [if_neg hs] at h; cases h
end Go.Proofs.YtopikhjcbcpiaaaDoor.Q
end
namespace Go.Proofs.YtopikhjcbcpiaaaDoor.Q
open Go.RowKit Go.Proofs.YtopikhjcbcpiaaaDoorW.PrintWords Go.Proofs.YtopikhjcbcpiaaaDoorW.PrintLast Go.Proofs.YtopikhjcbcpiaaaDoorW.PrintMore
attribute [local go_sem] max2_int min2_int max_two min_two max_three min_three max_four min_four   -- for this text's walks alone
set_option linter.unusedVariables false
set_option linter.unusedSimpArgs false
mutual
def laws_FnNumbers.j0 : Nat → ByteArray → Int → List ByteArray → Bool → Option (Bool)
 | 0, _, _, _, _ => none
 | k + 1, x10, x11, x12, x71 => if x71 = true then (some false) else (laws_FnNumbers.l0 k x10 x11 x12 (⟨#[]⟩ : ByteArray) 0)
def laws_FnNumbers.l0 : Nat → ByteArray → Int → List ByteArray → ByteArray → Int → Option (Bool)
 | 0, _, _, _, _, _ => none
 | k + 1, x10, x11, x12, x13, x14 => if x14 < (x12.length : Int) then (if x14 > 0 then ((some (([x11] : List Int) : List Int)).bind fun y258 => (if x13.size + (strOfNums y258).size ≤ 9223372036854775807 then (if 0 ≤ x14 then (if (x13 ++ (strOfNums y258)).size + (rdOf ByteArray.empty x12 x14).size ≤ 9223372036854775807 then (laws_FnNumbers.l0 k x10 x11 x12 ((x13 ++ (strOfNums y258)) ++ (rdOf ByteArray.empty x12 x14)) (wrap64 (x14 + 1))) else (none)) else (none)) else (none))) else (if 0 ≤ x14 then (if x13.size + (rdOf ByteArray.empty x12 x14).size ≤ 9223372036854775807 then (laws_FnNumbers.l0 k x10 x11 x12 (x13 ++ (rdOf ByteArray.empty x12 x14)) (wrap64 (x14 + 1))) else (none)) else (none))) else (if x13.toList = x10.toList then ((spec_Split.f k x10 x11).bind fun t263 => (some ((x12.length : Int) == (t263.length : Int)))) else (some false))
end
def laws_FnNumbers.f (k : Nat) (l0 : List Int) : Option (Bool) := (laws_big.f l0).bind fun t236 => (if t236 = true then (some true) else ((spec_DrawDigits.f k l0).bind fun t237 => ((spec_DrawNumber.f k l0).bind fun t238 => ((impl_Number.f k t238).bind fun bt239 => ((spec_Number.f k t238).bind fun bt241 => ((spec_DrawNumsText.f k l0).bind fun t243 => ((spec_DrawSplit.f k l0).bind fun bt246 => ((impl_Split.f bt246.1 bt246.2).bind fun t248 => ((impl_Digits.f k t237).bind fun t251 => ((spec_Digits.f k t237).bind fun t252 => (if t251.toList = t252.toList then (if bt239.1 = bt241.1 then (if (bt239.2 != bt241.2) = true then (laws_FnNumbers.j0 k bt246.1 bt246.2 t248 true) else (if bt239.2 = true then ((impl_Digits.f k bt239.1).bind fun t253 => (if t253.toList = t238.toList then ((impl_NumsText.f k t243).bind fun t254 => ((spec_NumsText.f k t243).bind fun t255 => (laws_FnNumbers.j0 k bt246.1 bt246.2 t248 (t254.toList != t255.toList)))) else (laws_FnNumbers.j0 k bt246.1 bt246.2 t248 true))) else ((impl_NumsText.f k t243).bind fun t256 => ((spec_NumsText.f k t243).bind fun t257 => (laws_FnNumbers.j0 k bt246.1 bt246.2 t248 (t256.toList != t257.toList)))))) else (laws_FnNumbers.j0 k bt246.1 bt246.2 t248 true)) else (laws_FnNumbers.j0 k bt246.1 bt246.2 t248 true))))))))))))
theorem laws_FnNumbers.mono_l : ∀ k, (∀ y0 y1 y2 y3, LeO (laws_FnNumbers.j0 k y0 y1 y2 y3) (laws_FnNumbers.j0 (k + 1) y0 y1 y2 y3)) ∧ (∀ y0 y1 y2 y3 y4, LeO (laws_FnNumbers.l0 k y0 y1 y2 y3 y4) (laws_FnNumbers.l0 (k + 1) y0 y1 y2 y3 y4))
 | 0 => ⟨fun _ _ _ _ r h => by simp [laws_FnNumbers.j0] at h, fun _ _ _ _ _ r h => by simp [laws_FnNumbers.l0] at h⟩
 | k + 1 => by
  obtain ⟨ih0, ih1⟩ := laws_FnNumbers.mono_l k
  refine ⟨?_, ?_⟩
  ·intro y0 y1 y2 y3
   unfold laws_FnNumbers.j0
   repeat' first
   | (with_reducible exact ih0 _ _ _ _)
   | (with_reducible exact ih1 _ _ _ _ _)
   | (with_reducible exact impl_Digits.mono _ _)
   | (with_reducible exact impl_Number.mono _ _)
   | (with_reducible exact impl_NumsText.mono _ _)
   | (with_reducible exact spec_Digits.mono _ _)
   | (with_reducible exact spec_DrawDigits.mono _ _)
   | (with_reducible exact spec_DrawNumber.mono _ _)
   | (with_reducible exact spec_DrawNumsText.mono _ _)
   | (with_reducible exact spec_DrawSplit.mono _ _)
   | (with_reducible exact spec_Number.mono _ _)
   | (with_reducible exact spec_NumsText.mono _ _)
   | (with_reducible exact spec_Split.mono _ _ _)
   | (with_reducible exact LeO.refl _)
   | (with_reducible exact LeO.none _)
   | (with_reducible refine LeO.ite ?_ ?_)
   | (with_reducible refine LeO.bind ?_ (fun _ => ?_))
   | exact ih0 _ _ _ _
   | exact ih1 _ _ _ _ _
   | exact impl_Digits.mono _ _
   | exact impl_Number.mono _ _
   | exact impl_NumsText.mono _ _
   | exact spec_Digits.mono _ _
   | exact spec_DrawDigits.mono _ _
   | exact spec_DrawNumber.mono _ _
   | exact spec_DrawNumsText.mono _ _
   | exact spec_DrawSplit.mono _ _
   | exact spec_Number.mono _ _
   | exact spec_NumsText.mono _ _
   | exact spec_Split.mono _ _ _
   | exact LeO.none _
   | refine LeO.ite ?_ ?_
   | refine LeO.bind ?_ (fun _ => ?_)
  ·intro y0 y1 y2 y3 y4
   unfold laws_FnNumbers.l0
   repeat' first
   | (with_reducible exact ih0 _ _ _ _)
   | (with_reducible exact ih1 _ _ _ _ _)
   | (with_reducible exact impl_Digits.mono _ _)
   | (with_reducible exact impl_Number.mono _ _)
   | (with_reducible exact impl_NumsText.mono _ _)
   | (with_reducible exact spec_Digits.mono _ _)
   | (with_reducible exact spec_DrawDigits.mono _ _)
   | (with_reducible exact spec_DrawNumber.mono _ _)
   | (with_reducible exact spec_DrawNumsText.mono _ _)
   | (with_reducible exact spec_DrawSplit.mono _ _)
   | (with_reducible exact spec_Number.mono _ _)
   | (with_reducible exact spec_NumsText.mono _ _)
   | (with_reducible exact spec_Split.mono _ _ _)
   | (with_reducible exact LeO.refl _)
   | (with_reducible exact LeO.none _)
   | (with_reducible refine LeO.ite ?_ ?_)
   | (with_reducible refine LeO.bind ?_ (fun _ => ?_))
   | exact ih0 _ _ _ _
   | exact ih1 _ _ _ _ _
   | exact impl_Digits.mono _ _
   | exact impl_Number.mono _ _
   | exact impl_NumsText.mono _ _
   | exact spec_Digits.mono _ _
   | exact spec_DrawDigits.mono _ _
   | exact spec_DrawNumber.mono _ _
   | exact spec_DrawNumsText.mono _ _
   | exact spec_DrawSplit.mono _ _
   | exact spec_Number.mono _ _
   | exact spec_NumsText.mono _ _
   | exact spec_Split.mono _ _ _
   | exact LeO.none _
   | refine LeO.ite ?_ ?_
   | refine LeO.bind ?_ (fun _ => ?_)
theorem laws_FnNumbers.mono : ∀ a0 k, LeO (laws_FnNumbers.f k a0) (laws_FnNumbers.f (k + 1) a0) := by
 intro a0 k
 obtain ⟨ih0, ih1⟩ := laws_FnNumbers.mono_l k
 unfold laws_FnNumbers.f
 repeat' first
   | (with_reducible exact ih0 _ _ _ _)
   | (with_reducible exact ih1 _ _ _ _ _)
   | (with_reducible exact impl_Digits.mono _ _)
   | (with_reducible exact impl_Number.mono _ _)
   | (with_reducible exact impl_NumsText.mono _ _)
   | (with_reducible exact spec_Digits.mono _ _)
   | (with_reducible exact spec_DrawDigits.mono _ _)
   | (with_reducible exact spec_DrawNumber.mono _ _)
   | (with_reducible exact spec_DrawNumsText.mono _ _)
   | (with_reducible exact spec_DrawSplit.mono _ _)
   | (with_reducible exact spec_Number.mono _ _)
   | (with_reducible exact spec_NumsText.mono _ _)
   | (with_reducible exact spec_Split.mono _ _ _)
   | (with_reducible exact LeO.refl _)
   | (with_reducible exact LeO.none _)
   | (with_reducible refine LeO.ite ?_ ?_)
   | (with_reducible refine LeO.bind ?_ (fun _ => ?_))
   | exact ih0 _ _ _ _
   | exact ih1 _ _ _ _ _
   | exact impl_Digits.mono _ _
   | exact impl_Number.mono _ _
   | exact impl_NumsText.mono _ _
   | exact spec_Digits.mono _ _
   | exact spec_DrawDigits.mono _ _
   | exact spec_DrawNumber.mono _ _
   | exact spec_DrawNumsText.mono _ _
   | exact spec_DrawSplit.mono _ _
   | exact spec_Number.mono _ _
   | exact spec_NumsText.mono _ _
   | exact spec_Split.mono _ _ _
   | exact LeO.none _
   | refine LeO.ite ?_ ?_
   | refine LeO.bind ?_ (fun _ => ?_)
set_option maxHeartbeats 8000000 in
set_option maxRecDepth 100000 in
theorem laws_FnNumbers.calls (k : Nat) (A0 : Option Addr) (c0 : Nat) (l0 : List Int) (r : Bool) (w : World) (hm : ∃ m, w.cell? ⟨0, 0, none⟩ = some (.int .i64 m)) (hr0 : Kd.C (Kd.int .u8) w A0 l0.length l0) (hc0 : l0.length ≤ c0) (h : laws_FnNumbers.f k l0 = some r) (hr_ : r = true) :
  Calls Tryd.prog 4 #[.slice A0 l0.length c0] w fun e w' => e = .returned (.bool r) ∧ Below w.heap.size w w' := by
 have HM := Aside0.mk (maxlen_below hm)
 clear hm
 have HR0 := Aside0.mk hr0
 have HC0 := Aside0.mk hc0
 clear hr0 hc0
 have HB := Aside0.mk (Below.refl w.heap.size w)
 have H : ((laws_big.f l0).bind fun t236 => (if t236 = true then (some true) else ((spec_DrawDigits.f k l0).bind fun t237 => ((spec_DrawNumber.f k l0).bind fun t238 => ((impl_Number.f k t238).bind fun bt239 => ((spec_Number.f k t238).bind fun bt241 => ((spec_DrawNumsText.f k l0).bind fun t243 => ((spec_DrawSplit.f k l0).bind fun bt246 => ((impl_Split.f bt246.1 bt246.2).bind fun t248 => ((impl_Digits.f k t237).bind fun t251 => ((spec_Digits.f k t237).bind fun t252 => (if t251.toList = t252.toList then (if bt239.1 = bt241.1 then (if (bt239.2 != bt241.2) = true then (laws_FnNumbers.j0 k bt246.1 bt246.2 t248 true) else (if bt239.2 = true then ((impl_Digits.f k bt239.1).bind fun t253 => (if t253.toList = t238.toList then ((impl_NumsText.f k t243).bind fun t254 => ((spec_NumsText.f k t243).bind fun t255 => (laws_FnNumbers.j0 k bt246.1 bt246.2 t248 (t254.toList != t255.toList)))) else (laws_FnNumbers.j0 k bt246.1 bt246.2 t248 true))) else ((impl_NumsText.f k t243).bind fun t256 => ((spec_NumsText.f k t243).bind fun t257 => (laws_FnNumbers.j0 k bt246.1 bt246.2 t248 (t256.toList != t257.toList)))))) else (laws_FnNumbers.j0 k bt246.1 bt246.2 t248 true)) else (laws_FnNumbers.j0 k bt246.1 bt246.2 t248 true))))))))))))) = some r := h
 clear h
 replace H := Option.bind_eq_some_iff.mp H
 obtain ⟨t236, A20, H⟩ := H
 replace H : (if t236 = true then (some true) else ((spec_DrawDigits.f k l0).bind fun t237 => ((spec_DrawNumber.f k l0).bind fun t238 => ((impl_Number.f k t238).bind fun bt239 => ((spec_Number.f k t238).bind fun bt241 => ((spec_DrawNumsText.f k l0).bind fun t243 => ((spec_DrawSplit.f k l0).bind fun bt246 => ((impl_Split.f bt246.1 bt246.2).bind fun t248 => ((impl_Digits.f k t237).bind fun t251 => ((spec_Digits.f k t237).bind fun t252 => (if t251.toList = t252.toList then (if bt239.1 = bt241.1 then (if (bt239.2 != bt241.2) = true then (laws_FnNumbers.j0 k bt246.1 bt246.2 t248 true) else (if bt239.2 = true then ((impl_Digits.f k bt239.1).bind fun t253 => (if t253.toList = t238.toList then ((impl_NumsText.f k t243).bind fun t254 => ((spec_NumsText.f k t243).bind fun t255 => (laws_FnNumbers.j0 k bt246.1 bt246.2 t248 (t254.toList != t255.toList)))) else (laws_FnNumbers.j0 k bt246.1 bt246.2 t248 true))) else ((impl_NumsText.f k t243).bind fun t256 => ((spec_NumsText.f k t243).bind fun t257 => (laws_FnNumbers.j0 k bt246.1 bt246.2 t248 (t256.toList != t257.toList)))))) else (laws_FnNumbers.j0 k bt246.1 bt246.2 t248 true)) else (laws_FnNumbers.j0 k bt246.1 bt246.2 t248 true)))))))))))) = some r := H
 have A2 := Aside0.mk A20
 clear A20
 by_cases c3 : t236 = true
 ·subst c3
  have H1 : (some true) = some r := by rw [if_pos rfl] at H; exact H
  clear H
  have H := H1
  clear H1
  obtain rfl := Option.some.inj H
  go_enter Tryd.func4, Tryd.ntmps4
  go_wp2_with (first | ((with_reducible refine gate_callee (f := 10) rfl ?_); refine gL 16 Tryd.func10 #[.slice A0 l0.length c0] ?_; (with_reducible refine (laws_big.calls _ _ l0 true _ ?side1 ?side2 A2.out).mono ?_); (case side1 => repeat (first | exact HR0.out | (with_reducible refine Kd.C_alloc ?_ _) | (with_reducible refine Kd.C_drewN ?_ _) | (with_reducible refine Kd.C_drew ?_))); (case side2 => exact HC0.out); rintro e w' ⟨rfl, ⟨nd, rfl⟩⟩; refine ⟨_, rfl, ?_⟩))
  go_ret
  exact ⟨er, tb HB⟩
 ·replace c3 := Bool.eq_false_iff.mpr c3
  subst c3
  have H1 : ((spec_DrawDigits.f k l0).bind fun t237 => ((spec_DrawNumber.f k l0).bind fun t238 => ((impl_Number.f k t238).bind fun bt239 => ((spec_Number.f k t238).bind fun bt241 => ((spec_DrawNumsText.f k l0).bind fun t243 => ((spec_DrawSplit.f k l0).bind fun bt246 => ((impl_Split.f bt246.1 bt246.2).bind fun t248 => ((impl_Digits.f k t237).bind fun t251 => ((spec_Digits.f k t237).bind fun t252 => (if t251.toList = t252.toList then (if bt239.1 = bt241.1 then (if (bt239.2 != bt241.2) = true then (laws_FnNumbers.j0 k bt246.1 bt246.2 t248 true) else (if bt239.2 = true then ((impl_Digits.f k bt239.1).bind fun t253 => (if t253.toList = t238.toList then ((impl_NumsText.f k t243).bind fun t254 => ((spec_NumsText.f k t243).bind fun t255 => (laws_FnNumbers.j0 k bt246.1 bt246.2 t248 (t254.toList != t255.toList)))) else (laws_FnNumbers.j0 k bt246.1 bt246.2 t248 true))) else ((impl_NumsText.f k t243).bind fun t256 => ((spec_NumsText.f k t243).bind fun t257 => (laws_FnNumbers.j0 k bt246.1 bt246.2 t248 (t256.toList != t257.toList)))))) else (laws_FnNumbers.j0 k bt246.1 bt246.2 t248 true)) else (laws_FnNumbers.j0 k bt246.1 bt246.2 t248 true))))))))))) = some r := by rw [if_neg (show ¬ (false = true) by decide)] at H; exact H
  clear H
  have H := H1
  clear H1
  replace H := Option.bind_eq_some_iff.mp H
  obtain ⟨t237, A40, H⟩ := H
  replace H : ((spec_DrawNumber.f k l0).bind fun t238 => ((impl_Number.f k t238).bind fun bt239 => ((spec_Number.f k t238).bind fun bt241 => ((spec_DrawNumsText.f k l0).bind fun t243 => ((spec_DrawSplit.f k l0).bind fun bt246 => ((impl_Split.f bt246.1 bt246.2).bind fun t248 => ((impl_Digits.f k t237).bind fun t251 => ((spec_Digits.f k t237).bind fun t252 => (if t251.toList = t252.toList then (if bt239.1 = bt241.1 then (if (bt239.2 != bt241.2) = true then (laws_FnNumbers.j0 k bt246.1 bt246.2 t248 true) else (if bt239.2 = true then ((impl_Digits.f k bt239.1).bind fun t253 => (if t253.toList = t238.toList then ((impl_NumsText.f k t243).bind fun t254 => ((spec_NumsText.f k t243).bind fun t255 => (laws_FnNumbers.j0 k bt246.1 bt246.2 t248 (t254.toList != t255.toList)))) else (laws_FnNumbers.j0 k bt246.1 bt246.2 t248 true))) else ((impl_NumsText.f k t243).bind fun t256 => ((spec_NumsText.f k t243).bind fun t257 => (laws_FnNumbers.j0 k bt246.1 bt246.2 t248 (t256.toList != t257.toList)))))) else (laws_FnNumbers.j0 k bt246.1 bt246.2 t248 true)) else (laws_FnNumbers.j0 k bt246.1 bt246.2 t248 true)))))))))) = some r := H
  have A4 := Aside0.mk A40
  clear A40
  replace H := Option.bind_eq_some_iff.mp H
  obtain ⟨t238, A50, H⟩ := H
  replace H : ((impl_Number.f k t238).bind fun bt239 => ((spec_Number.f k t238).bind fun bt241 => ((spec_DrawNumsText.f k l0).bind fun t243 => ((spec_DrawSplit.f k l0).bind fun bt246 => ((impl_Split.f bt246.1 bt246.2).bind fun t248 => ((impl_Digits.f k t237).bind fun t251 => ((spec_Digits.f k t237).bind fun t252 => (if t251.toList = t252.toList then (if bt239.1 = bt241.1 then (if (bt239.2 != bt241.2) = true then (laws_FnNumbers.j0 k bt246.1 bt246.2 t248 true) else (if bt239.2 = true then ((impl_Digits.f k bt239.1).bind fun t253 => (if t253.toList = t238.toList then ((impl_NumsText.f k t243).bind fun t254 => ((spec_NumsText.f k t243).bind fun t255 => (laws_FnNumbers.j0 k bt246.1 bt246.2 t248 (t254.toList != t255.toList)))) else (laws_FnNumbers.j0 k bt246.1 bt246.2 t248 true))) else ((impl_NumsText.f k t243).bind fun t256 => ((spec_NumsText.f k t243).bind fun t257 => (laws_FnNumbers.j0 k bt246.1 bt246.2 t248 (t256.toList != t257.toList)))))) else (laws_FnNumbers.j0 k bt246.1 bt246.2 t248 true)) else (laws_FnNumbers.j0 k bt246.1 bt246.2 t248 true))))))))) = some r := H
  have A5 := Aside0.mk A50
  clear A50
  replace H := Option.bind_eq_some_iff.mp H
  obtain ⟨⟨t239, t240⟩, A60, H⟩ := H
  replace H : ((spec_Number.f k t238).bind fun bt241 => ((spec_DrawNumsText.f k l0).bind fun t243 => ((spec_DrawSplit.f k l0).bind fun bt246 => ((impl_Split.f bt246.1 bt246.2).bind fun t248 => ((impl_Digits.f k t237).bind fun t251 => ((spec_Digits.f k t237).bind fun t252 => (if t251.toList = t252.toList then (if t239 = bt241.1 then (if (t240 != bt241.2) = true then (laws_FnNumbers.j0 k bt246.1 bt246.2 t248 true) else (if t240 = true then ((impl_Digits.f k t239).bind fun t253 => (if t253.toList = t238.toList then ((impl_NumsText.f k t243).bind fun t254 => ((spec_NumsText.f k t243).bind fun t255 => (laws_FnNumbers.j0 k bt246.1 bt246.2 t248 (t254.toList != t255.toList)))) else (laws_FnNumbers.j0 k bt246.1 bt246.2 t248 true))) else ((impl_NumsText.f k t243).bind fun t256 => ((spec_NumsText.f k t243).bind fun t257 => (laws_FnNumbers.j0 k bt246.1 bt246.2 t248 (t256.toList != t257.toList)))))) else (laws_FnNumbers.j0 k bt246.1 bt246.2 t248 true)) else (laws_FnNumbers.j0 k bt246.1 bt246.2 t248 true)))))))) = some r := H
  have A6 := Aside0.mk A60
  clear A60
  replace H := Option.bind_eq_some_iff.mp H
  obtain ⟨⟨t241, t242⟩, A70, H⟩ := H
  replace H : ((spec_DrawNumsText.f k l0).bind fun t243 => ((spec_DrawSplit.f k l0).bind fun bt246 => ((impl_Split.f bt246.1 bt246.2).bind fun t248 => ((impl_Digits.f k t237).bind fun t251 => ((spec_Digits.f k t237).bind fun t252 => (if t251.toList = t252.toList then (if t239 = t241 then (if (t240 != t242) = true then (laws_FnNumbers.j0 k bt246.1 bt246.2 t248 true) else (if t240 = true then ((impl_Digits.f k t239).bind fun t253 => (if t253.toList = t238.toList then ((impl_NumsText.f k t243).bind fun t254 => ((spec_NumsText.f k t243).bind fun t255 => (laws_FnNumbers.j0 k bt246.1 bt246.2 t248 (t254.toList != t255.toList)))) else (laws_FnNumbers.j0 k bt246.1 bt246.2 t248 true))) else ((impl_NumsText.f k t243).bind fun t256 => ((spec_NumsText.f k t243).bind fun t257 => (laws_FnNumbers.j0 k bt246.1 bt246.2 t248 (t256.toList != t257.toList)))))) else (laws_FnNumbers.j0 k bt246.1 bt246.2 t248 true)) else (laws_FnNumbers.j0 k bt246.1 bt246.2 t248 true))))))) = some r := H
  have A7 := Aside0.mk A70
  clear A70
  replace H := Option.bind_eq_some_iff.mp H
  obtain ⟨t243, A80, H⟩ := H
  replace H : ((spec_DrawSplit.f k l0).bind fun bt246 => ((impl_Split.f bt246.1 bt246.2).bind fun t248 => ((impl_Digits.f k t237).bind fun t251 => ((spec_Digits.f k t237).bind fun t252 => (if t251.toList = t252.toList then (if t239 = t241 then (if (t240 != t242) = true then (laws_FnNumbers.j0 k bt246.1 bt246.2 t248 true) else (if t240 = true then ((impl_Digits.f k t239).bind fun t253 => (if t253.toList = t238.toList then ((impl_NumsText.f k t243).bind fun t254 => ((spec_NumsText.f k t243).bind fun t255 => (laws_FnNumbers.j0 k bt246.1 bt246.2 t248 (t254.toList != t255.toList)))) else (laws_FnNumbers.j0 k bt246.1 bt246.2 t248 true))) else ((impl_NumsText.f k t243).bind fun t256 => ((spec_NumsText.f k t243).bind fun t257 => (laws_FnNumbers.j0 k bt246.1 bt246.2 t248 (t256.toList != t257.toList)))))) else (laws_FnNumbers.j0 k bt246.1 bt246.2 t248 true)) else (laws_FnNumbers.j0 k bt246.1 bt246.2 t248 true)))))) = some r := H
  have A8 := Aside0.mk A80
  clear A80
  replace H := Option.bind_eq_some_iff.mp H
  obtain ⟨⟨t246, t247⟩, A90, H⟩ := H
  replace H : ((impl_Split.f t246 t247).bind fun t248 => ((impl_Digits.f k t237).bind fun t251 => ((spec_Digits.f k t237).bind fun t252 => (if t251.toList = t252.toList then (if t239 = t241 then (if (t240 != t242) = true then (laws_FnNumbers.j0 k t246 t247 t248 true) else (if t240 = true then ((impl_Digits.f k t239).bind fun t253 => (if t253.toList = t238.toList then ((impl_NumsText.f k t243).bind fun t254 => ((spec_NumsText.f k t243).bind fun t255 => (laws_FnNumbers.j0 k t246 t247 t248 (t254.toList != t255.toList)))) else (laws_FnNumbers.j0 k t246 t247 t248 true))) else ((impl_NumsText.f k t243).bind fun t256 => ((spec_NumsText.f k t243).bind fun t257 => (laws_FnNumbers.j0 k t246 t247 t248 (t256.toList != t257.toList)))))) else (laws_FnNumbers.j0 k t246 t247 t248 true)) else (laws_FnNumbers.j0 k t246 t247 t248 true))))) = some r := H
  have A9 := Aside0.mk A90
  clear A90
  replace H := Option.bind_eq_some_iff.mp H
  obtain ⟨t248, A100, H⟩ := H
  replace H : ((impl_Digits.f k t237).bind fun t251 => ((spec_Digits.f k t237).bind fun t252 => (if t251.toList = t252.toList then (if t239 = t241 then (if (t240 != t242) = true then (laws_FnNumbers.j0 k t246 t247 t248 true) else (if t240 = true then ((impl_Digits.f k t239).bind fun t253 => (if t253.toList = t238.toList then ((impl_NumsText.f k t243).bind fun t254 => ((spec_NumsText.f k t243).bind fun t255 => (laws_FnNumbers.j0 k t246 t247 t248 (t254.toList != t255.toList)))) else (laws_FnNumbers.j0 k t246 t247 t248 true))) else ((impl_NumsText.f k t243).bind fun t256 => ((spec_NumsText.f k t243).bind fun t257 => (laws_FnNumbers.j0 k t246 t247 t248 (t256.toList != t257.toList)))))) else (laws_FnNumbers.j0 k t246 t247 t248 true)) else (laws_FnNumbers.j0 k t246 t247 t248 true)))) = some r := H
  have A10 := Aside0.mk A100
  clear A100
  have HC11 := Aside0.mk H
  clear H
  go_enter Tryd.func4, Tryd.ntmps4
  go_upto_region 10 with (first | ((with_reducible refine gate_callee (f := 10) rfl ?_); refine gL 16 Tryd.func10 #[.slice A0 l0.length c0] ?_; (with_reducible refine (laws_big.calls _ _ l0 false _ ?side1 ?side2 A2.out).mono ?_); (case side1 => repeat (first | exact HR0.out | (with_reducible refine Kd.C_alloc ?_ _) | (with_reducible refine Kd.C_drewN ?_ _) | (with_reducible refine Kd.C_drew ?_))); (case side2 => exact HC0.out); rintro e w' ⟨rfl, ⟨nd, rfl⟩⟩; refine ⟨_, rfl, ?_⟩) | ((with_reducible refine gate_callee (f := 11) rfl ?_); refine gL 18 Tryd.func11 #[.slice A0 l0.length c0] ?_; (with_reducible refine (spec_DrawDigits.calls k _ _ l0 t237 _ ?side1 ?side2 A4.out).mono ?_); (case side1 => repeat (first | exact HR0.out | (with_reducible refine Kd.C_alloc ?_ _) | (with_reducible refine Kd.C_drewN ?_ _) | (with_reducible refine Kd.C_drew ?_))); (case side2 => exact HC0.out); rintro e w12 ⟨rfl, hb⟩; refine ⟨_, rfl, ?_⟩; replace HB := bs HB hb; (try clear hb); (try clear hb2); (try clear hk); (try clear hi)) | ((with_reducible refine gate_callee (f := 12) rfl ?_); refine gL 20 Tryd.func12 #[.slice A0 l0.length c0] ?_; (with_reducible refine (spec_DrawNumber.calls k _ _ l0 t238 _ ?side1 ?side2 A5.out).mono ?_); (case side1 => exact kc HR0 HB); (case side2 => exact HC0.out); rintro e w13 ⟨rfl, hb⟩; refine ⟨_, rfl, ?_⟩; replace HB := bs HB hb; (try clear hb); (try clear hb2); (try clear hk); (try clear hi)) | ((with_reducible refine gate_callee (f := 13) rfl ?_); refine gL 23 Tryd.func13 #[.string t238] ?_; (with_reducible refine (impl_Number.calls k t238 t239 t240 _ A6.out).mono ?_); rintro e w14 ⟨rfl, hb⟩; refine ⟨_, rfl, ?_⟩; replace HB := bs HB hb; (try clear hb); (try clear hb2); (try clear hk); (try clear hi)) | ((with_reducible refine gate_callee (f := 14) rfl ?_); refine gL 28 Tryd.func14 #[.string t238] ?_; (with_reducible refine (spec_Number.calls k t238 t241 t242 _ A7.out).mono ?_); rintro e w15 ⟨rfl, hb⟩; refine ⟨_, rfl, ?_⟩; replace HB := bs HB hb; (try clear hb); (try clear hb2); (try clear hk); (try clear hi)) | ((with_reducible refine gate_callee (f := 15) rfl ?_); refine gL 32 Tryd.func15 #[.slice A0 l0.length c0] ?_; (with_reducible refine (spec_DrawNumsText.calls k _ _ l0 t243 _ ?side1 ?side2 A8.out).mono ?_); (case side1 => exact kc HR0 HB); (case side2 => exact HC0.out); rintro e w16 ⟨v244, rfl, ho0, hb⟩; refine ⟨_, rfl, ?_⟩; have HO245 := Aside0.mk (Kd.R_lower ho0 (below_size (tb HB))); replace HB := bs HB hb; (try clear hb); (try clear hb2); (try clear hk); (try clear hi); (try clear ho0)) | ((with_reducible refine gate_callee (f := 16) rfl ?_); refine gL 35 Tryd.func16 #[.slice A0 l0.length c0] ?_; (with_reducible refine (spec_DrawSplit.calls k _ _ l0 t246 t247 _ ?side1 ?side2 A9.out).mono ?_); (case side1 => exact kc HR0 HB); (case side2 => exact HC0.out); rintro e w17 ⟨rfl, hb⟩; refine ⟨_, rfl, ?_⟩; replace HO245 := rb HO245 hb; replace HB := bs HB hb; (try clear hb); (try clear hb2); (try clear hk); (try clear hi)) | ((with_reducible refine gate_callee (f := 6) rfl ?_); refine gL 40 Tryd.func6 #[.string t246, .int .u8 t247] ?_; (with_reducible refine (impl_Split.calls t246 t247 t248 _ ?sideM A10.out).mono ?_); (case sideM => exact HM.out _ (tb HB)); rintro e w18 ⟨v249, rfl, ho0, hb⟩; refine ⟨_, rfl, ?_⟩; replace HO245 := rb HO245 hb; have HO250 := Aside0.mk (Kd.R_lower ho0 (below_size (tb HB))); replace HB := bs HB hb; (try clear hb); (try clear hb2); (try clear hk); (try clear hi); (try clear ho0)))
  (try simp only [Act.put, sA, sB, sC])
  go_cut [71] (fun v71 wc => ∃ (kq : Nat) (x71_10 : Bool), v71 = .bool x71_10 ∧ Aside0 (laws_FnNumbers.j0 kq t246 t247 t248 x71_10 = some r) ∧ Aside0 (kq ≤ k) ∧ Aside0 (Kd.R Kd.string 9 wc w.heap.size (fun _ => True) v249 t248) ∧ Aside0 (Below w.heap.size w wc))
  case first =>
   have H := HC11.out
   clear HC11
   replace H := Option.bind_eq_some_iff.mp H
   obtain ⟨t251, A190, H⟩ := H
   replace H : ((spec_Digits.f k t237).bind fun t252 => (if t251.toList = t252.toList then (if t239 = t241 then (if (t240 != t242) = true then (laws_FnNumbers.j0 k t246 t247 t248 true) else (if t240 = true then ((impl_Digits.f k t239).bind fun t253 => (if t253.toList = t238.toList then ((impl_NumsText.f k t243).bind fun t254 => ((spec_NumsText.f k t243).bind fun t255 => (laws_FnNumbers.j0 k t246 t247 t248 (t254.toList != t255.toList)))) else (laws_FnNumbers.j0 k t246 t247 t248 true))) else ((impl_NumsText.f k t243).bind fun t256 => ((spec_NumsText.f k t243).bind fun t257 => (laws_FnNumbers.j0 k t246 t247 t248 (t256.toList != t257.toList)))))) else (laws_FnNumbers.j0 k t246 t247 t248 true)) else (laws_FnNumbers.j0 k t246 t247 t248 true))) = some r := H
   have A19 := Aside0.mk A190
   clear A190
   replace H := Option.bind_eq_some_iff.mp H
   obtain ⟨t252, A200, H⟩ := H
   replace H : (if t251.toList = t252.toList then (if t239 = t241 then (if (t240 != t242) = true then (laws_FnNumbers.j0 k t246 t247 t248 true) else (if t240 = true then ((impl_Digits.f k t239).bind fun t253 => (if t253.toList = t238.toList then ((impl_NumsText.f k t243).bind fun t254 => ((spec_NumsText.f k t243).bind fun t255 => (laws_FnNumbers.j0 k t246 t247 t248 (t254.toList != t255.toList)))) else (laws_FnNumbers.j0 k t246 t247 t248 true))) else ((impl_NumsText.f k t243).bind fun t256 => ((spec_NumsText.f k t243).bind fun t257 => (laws_FnNumbers.j0 k t246 t247 t248 (t256.toList != t257.toList)))))) else (laws_FnNumbers.j0 k t246 t247 t248 true)) else (laws_FnNumbers.j0 k t246 t247 t248 true)) = some r := H
   have A20 := Aside0.mk A200
   clear A200
   by_cases c21 : t251.toList = t252.toList
   ·rw [if_pos c21] at H
    have c21b0 : (t251.toList == t252.toList) = true := beq_iff_eq.mpr c21
    have c21b1 : (t251.toList != t252.toList) = false := bne_eq_false_iff_eq.mpr c21
    clear c21
    (first | rw [c21b0] | (simp only [i64_w, i32_w]; rw [c21b0]) | skip)
    by_cases c22 : t239 = t241
    ·rw [if_pos c22] at H
     have c22b0 : (t239 == t241) = true := beq_iff_eq.mpr c22
     have c22b1 : (t239 != t241) = false := bne_eq_false_iff_eq.mpr c22
     clear c22
     by_cases c23 : (t240 != t242) = true
     ·rw [if_pos c23] at H
      have c23b0 : (t240 != t242) = true := c23
      (try (have c23b1 : decide (t240 = t242) = false := by simpa using c23))
      (try (have c23b2 : (t240 == t242) = false := by simpa using c23))
      (try (have c23b3 : ¬ (t240 = t242) := by simpa using c23))
      clear c23
      have H' := Aside0.mk H
      clear H
      go_wp2_with (first | ((with_reducible refine gate_callee (f := 17) rfl ?_); refine gL 42 Tryd.func17 #[.int .i64 t237] ?_; (with_reducible refine (impl_Digits.calls k t237 t251 _ A19.out).mono ?_); rintro e w24 ⟨rfl, hb⟩; refine ⟨_, rfl, ?_⟩; replace HO245 := rb HO245 hb; replace HO250 := rb HO250 hb; replace HB := bs HB hb; (try clear hb); (try clear hb2); (try clear hk); (try clear hi)) | ((with_reducible refine gate_callee (f := 18) rfl ?_); refine gL 44 Tryd.func18 #[.int .i64 t237] ?_; (with_reducible refine (spec_Digits.calls k t237 t252 _ A20.out).mono ?_); rintro e w25 ⟨rfl, hb⟩; refine ⟨_, rfl, ?_⟩; replace HO245 := rb HO245 hb; replace HO250 := rb HO250 hb; replace HB := bs HB hb; (try clear hb); (try clear hb2); (try clear hk); (try clear hi)))
      go_meet
      case rel => exact ⟨_, (true), (by first | rfl | (simp; done) | (simp [*]; done)), H', ⟨by first | omega | exact Nat.le_refl _⟩, ⟨kr HO250.out⟩, ⟨tb HB⟩⟩
     ·rw [if_neg c23] at H
      have c23b0 : (t240 != t242) = false := by simpa using c23
      (try (have c23b1 : decide (t240 = t242) = true := by simpa using c23))
      (try (have c23b2 : (t240 == t242) = true := by simpa using c23))
      clear c23
      by_cases c26 : t240 = true
      ·subst c26
       have H1 : ((impl_Digits.f k t239).bind fun t253 => (if t253.toList = t238.toList then ((impl_NumsText.f k t243).bind fun t254 => ((spec_NumsText.f k t243).bind fun t255 => (laws_FnNumbers.j0 k t246 t247 t248 (t254.toList != t255.toList)))) else (laws_FnNumbers.j0 k t246 t247 t248 true))) = some r := by rw [if_pos rfl] at H; exact H
       clear H
       have H := H1
       clear H1
       replace H := Option.bind_eq_some_iff.mp H
       obtain ⟨t253, A270, H⟩ := H
       replace H : (if t253.toList = t238.toList then ((impl_NumsText.f k t243).bind fun t254 => ((spec_NumsText.f k t243).bind fun t255 => (laws_FnNumbers.j0 k t246 t247 t248 (t254.toList != t255.toList)))) else (laws_FnNumbers.j0 k t246 t247 t248 true)) = some r := H
       have A27 := Aside0.mk A270
       clear A270
       by_cases c28 : t253.toList = t238.toList
       ·rw [if_pos c28] at H
        have c28b0 : (t253.toList == t238.toList) = true := beq_iff_eq.mpr c28
        have c28b1 : (t253.toList != t238.toList) = false := bne_eq_false_iff_eq.mpr c28
        clear c28
        replace H := Option.bind_eq_some_iff.mp H
        obtain ⟨t254, A290, H⟩ := H
        replace H : ((spec_NumsText.f k t243).bind fun t255 => (laws_FnNumbers.j0 k t246 t247 t248 (t254.toList != t255.toList))) = some r := H
        have A29 := Aside0.mk A290
        clear A290
        replace H := Option.bind_eq_some_iff.mp H
        obtain ⟨t255, A300, H⟩ := H
        replace H : (laws_FnNumbers.j0 k t246 t247 t248 (t254.toList != t255.toList)) = some r := H
        have A30 := Aside0.mk A300
        clear A300
        have H' := Aside0.mk H
        clear H
        go_wp2_with (first | ((with_reducible refine gate_callee (f := 17) rfl ?_); refine gL 42 Tryd.func17 #[.int .i64 t237] ?_; (with_reducible refine (impl_Digits.calls k t237 t251 _ A19.out).mono ?_); rintro e w31 ⟨rfl, hb⟩; refine ⟨_, rfl, ?_⟩; replace HO245 := rb HO245 hb; replace HO250 := rb HO250 hb; replace HB := bs HB hb; (try clear hb); (try clear hb2); (try clear hk); (try clear hi)) | ((with_reducible refine gate_callee (f := 18) rfl ?_); refine gL 44 Tryd.func18 #[.int .i64 t237] ?_; (with_reducible refine (spec_Digits.calls k t237 t252 _ A20.out).mono ?_); rintro e w32 ⟨rfl, hb⟩; refine ⟨_, rfl, ?_⟩; replace HO245 := rb HO245 hb; replace HO250 := rb HO250 hb; replace HB := bs HB hb; (try clear hb); (try clear hb2); (try clear hk); (try clear hi)) | (go_at_call 17; (with_reducible refine (impl_Digits.calls k t239 t253 _ A27.out).mono ?_); rintro e w33 ⟨rfl, hb⟩; replace HO245 := rb HO245 hb; replace HO250 := rb HO250 hb; replace HB := bs HB hb; (try clear hb); (try clear hb2); (try clear hk); (try clear hi); obtain ⟨Ao34, co34, eo34⟩ := Kd.R_slice HO245.out; subst eo34) | (go_at_call 19; (with_reducible refine (impl_NumsText.calls k _ _ t243 t254 _ ?side1 ?side2 A29.out).mono ?_); (case side1 => repeat (first | exact (Kd.R_reads' HO245.out).2.2 | (with_reducible refine Kd.C_alloc ?_ _) | (with_reducible refine Kd.C_drewN ?_ _) | (with_reducible refine Kd.C_drew ?_))); (case side2 => exact (Kd.R_reads' HO245.out).2.1); rintro e w35 ⟨rfl, hb⟩; replace HO245 := rb HO245 hb; replace HO250 := rb HO250 hb; replace HB := bs HB hb; (try clear hb); (try clear hb2); (try clear hk); (try clear hi)) | (go_at_call 20; (with_reducible refine (spec_NumsText.calls k _ _ t243 t255 _ ?side1 ?side2 A30.out).mono ?_); (case side1 => repeat (first | exact (Kd.R_reads' HO245.out).2.2 | (with_reducible refine Kd.C_alloc ?_ _) | (with_reducible refine Kd.C_drewN ?_ _) | (with_reducible refine Kd.C_drew ?_))); (case side2 => exact (Kd.R_reads' HO245.out).2.1); rintro e w36 ⟨rfl, hb⟩; replace HO245 := rb HO245 hb; replace HO250 := rb HO250 hb; replace HB := bs HB hb; (try clear hb); (try clear hb2); (try clear hk); (try clear hi)))
        go_meet
        case rel => exact ⟨_, ((t254.toList != t255.toList)), (by first | rfl | (simp; done) | (simp [*]; done)), H', ⟨by first | omega | exact Nat.le_refl _⟩, ⟨kr HO250.out⟩, ⟨tb HB⟩⟩
       ·rw [if_neg c28] at H
        have c28b0 : (t253.toList == t238.toList) = false := beq_eq_false_iff_ne.mpr c28
        have c28b1 : (t253.toList != t238.toList) = true := bne_iff_ne.mpr c28
        have H' := Aside0.mk H
        clear H
        go_wp2_with (first | ((with_reducible refine gate_callee (f := 17) rfl ?_); refine gL 42 Tryd.func17 #[.int .i64 t237] ?_; (with_reducible refine (impl_Digits.calls k t237 t251 _ A19.out).mono ?_); rintro e w37 ⟨rfl, hb⟩; refine ⟨_, rfl, ?_⟩; replace HO245 := rb HO245 hb; replace HO250 := rb HO250 hb; replace HB := bs HB hb; (try clear hb); (try clear hb2); (try clear hk); (try clear hi)) | ((with_reducible refine gate_callee (f := 18) rfl ?_); refine gL 44 Tryd.func18 #[.int .i64 t237] ?_; (with_reducible refine (spec_Digits.calls k t237 t252 _ A20.out).mono ?_); rintro e w38 ⟨rfl, hb⟩; refine ⟨_, rfl, ?_⟩; replace HO245 := rb HO245 hb; replace HO250 := rb HO250 hb; replace HB := bs HB hb; (try clear hb); (try clear hb2); (try clear hk); (try clear hi)) | (go_at_call 17; (with_reducible refine (impl_Digits.calls k t239 t253 _ A27.out).mono ?_); rintro e w39 ⟨rfl, hb⟩; replace HO245 := rb HO245 hb; replace HO250 := rb HO250 hb; replace HB := bs HB hb; (try clear hb); (try clear hb2); (try clear hk); (try clear hi)))
        go_meet
        case rel => exact ⟨_, (true), (by first | rfl | (simp; done) | (simp [*]; done)), H', ⟨by first | omega | exact Nat.le_refl _⟩, ⟨kr HO250.out⟩, ⟨tb HB⟩⟩
      ·replace c26 := Bool.eq_false_iff.mpr c26
       subst c26
       have H1 : ((impl_NumsText.f k t243).bind fun t256 => ((spec_NumsText.f k t243).bind fun t257 => (laws_FnNumbers.j0 k t246 t247 t248 (t256.toList != t257.toList)))) = some r := by rw [if_neg (show ¬ (false = true) by decide)] at H; exact H
       clear H
       have H := H1
       clear H1
       replace H := Option.bind_eq_some_iff.mp H
       obtain ⟨t256, A400, H⟩ := H
       replace H : ((spec_NumsText.f k t243).bind fun t257 => (laws_FnNumbers.j0 k t246 t247 t248 (t256.toList != t257.toList))) = some r := H
       have A40 := Aside0.mk A400
       clear A400
       replace H := Option.bind_eq_some_iff.mp H
       obtain ⟨t257, A410, H⟩ := H
       replace H : (laws_FnNumbers.j0 k t246 t247 t248 (t256.toList != t257.toList)) = some r := H
       have A41 := Aside0.mk A410
       clear A410
       have H' := Aside0.mk H
       clear H
       go_wp2_with (first | ((with_reducible refine gate_callee (f := 17) rfl ?_); refine gL 42 Tryd.func17 #[.int .i64 t237] ?_; (with_reducible refine (impl_Digits.calls k t237 t251 _ A19.out).mono ?_); rintro e w42 ⟨rfl, hb⟩; refine ⟨_, rfl, ?_⟩; replace HO245 := rb HO245 hb; replace HO250 := rb HO250 hb; replace HB := bs HB hb; (try clear hb); (try clear hb2); (try clear hk); (try clear hi)) | ((with_reducible refine gate_callee (f := 18) rfl ?_); refine gL 44 Tryd.func18 #[.int .i64 t237] ?_; (with_reducible refine (spec_Digits.calls k t237 t252 _ A20.out).mono ?_); rintro e w43 ⟨rfl, hb⟩; refine ⟨_, rfl, ?_⟩; replace HO245 := rb HO245 hb; replace HO250 := rb HO250 hb; replace HB := bs HB hb; (try clear hb); (try clear hb2); (try clear hk); (try clear hi); obtain ⟨Ao44, co44, eo44⟩ := Kd.R_slice HO245.out; subst eo44) | (go_at_call 19; (with_reducible refine (impl_NumsText.calls k _ _ t243 t256 _ ?side1 ?side2 A40.out).mono ?_); (case side1 => repeat (first | exact (Kd.R_reads' HO245.out).2.2 | (with_reducible refine Kd.C_alloc ?_ _) | (with_reducible refine Kd.C_drewN ?_ _) | (with_reducible refine Kd.C_drew ?_))); (case side2 => exact (Kd.R_reads' HO245.out).2.1); rintro e w45 ⟨rfl, hb⟩; replace HO245 := rb HO245 hb; replace HO250 := rb HO250 hb; replace HB := bs HB hb; (try clear hb); (try clear hb2); (try clear hk); (try clear hi)) | (go_at_call 20; (with_reducible refine (spec_NumsText.calls k _ _ t243 t257 _ ?side1 ?side2 A41.out).mono ?_); (case side1 => repeat (first | exact (Kd.R_reads' HO245.out).2.2 | (with_reducible refine Kd.C_alloc ?_ _) | (with_reducible refine Kd.C_drewN ?_ _) | (with_reducible refine Kd.C_drew ?_))); (case side2 => exact (Kd.R_reads' HO245.out).2.1); rintro e w46 ⟨rfl, hb⟩; replace HO245 := rb HO245 hb; replace HO250 := rb HO250 hb; replace HB := bs HB hb; (try clear hb); (try clear hb2); (try clear hk); (try clear hi)))
       go_meet
       case rel => exact ⟨_, ((t256.toList != t257.toList)), (by first | rfl | (simp; done) | (simp [*]; done)), H', ⟨by first | omega | exact Nat.le_refl _⟩, ⟨kr HO250.out⟩, ⟨tb HB⟩⟩
    ·rw [if_neg c22] at H
     have c22b0 : (t239 == t241) = false := beq_eq_false_iff_ne.mpr c22
     have c22b1 : (t239 != t241) = true := bne_iff_ne.mpr c22
     have H' := Aside0.mk H
     clear H
     go_wp2_with (first | ((with_reducible refine gate_callee (f := 17) rfl ?_); refine gL 42 Tryd.func17 #[.int .i64 t237] ?_; (with_reducible refine (impl_Digits.calls k t237 t251 _ A19.out).mono ?_); rintro e w47 ⟨rfl, hb⟩; refine ⟨_, rfl, ?_⟩; replace HO245 := rb HO245 hb; replace HO250 := rb HO250 hb; replace HB := bs HB hb; (try clear hb); (try clear hb2); (try clear hk); (try clear hi)) | ((with_reducible refine gate_callee (f := 18) rfl ?_); refine gL 44 Tryd.func18 #[.int .i64 t237] ?_; (with_reducible refine (spec_Digits.calls k t237 t252 _ A20.out).mono ?_); rintro e w48 ⟨rfl, hb⟩; refine ⟨_, rfl, ?_⟩; replace HO245 := rb HO245 hb; replace HO250 := rb HO250 hb; replace HB := bs HB hb; (try clear hb); (try clear hb2); (try clear hk); (try clear hi)))
     go_meet
     case rel => exact ⟨_, (true), (by first | rfl | (simp; done) | (simp [*]; done)), H', ⟨by first | omega | exact Nat.le_refl _⟩, ⟨kr HO250.out⟩, ⟨tb HB⟩⟩
   ·rw [if_neg c21] at H
    have c21b0 : (t251.toList == t252.toList) = false := beq_eq_false_iff_ne.mpr c21
    have c21b1 : (t251.toList != t252.toList) = true := bne_iff_ne.mpr c21
    (first | rw [c21b0] | (simp only [i64_w, i32_w]; rw [c21b0]) | skip)
    have H' := Aside0.mk H
    clear H
    go_wp2_with (first | ((with_reducible refine gate_callee (f := 17) rfl ?_); refine gL 42 Tryd.func17 #[.int .i64 t237] ?_; (with_reducible refine (impl_Digits.calls k t237 t251 _ A19.out).mono ?_); rintro e w49 ⟨rfl, hb⟩; refine ⟨_, rfl, ?_⟩; replace HO245 := rb HO245 hb; replace HO250 := rb HO250 hb; replace HB := bs HB hb; (try clear hb); (try clear hb2); (try clear hk); (try clear hi)) | ((with_reducible refine gate_callee (f := 18) rfl ?_); refine gL 44 Tryd.func18 #[.int .i64 t237] ?_; (with_reducible refine (spec_Digits.calls k t237 t252 _ A20.out).mono ?_); rintro e w50 ⟨rfl, hb⟩; refine ⟨_, rfl, ?_⟩; replace HO245 := rb HO245 hb; replace HO250 := rb HO250 hb; replace HB := bs HB hb; (try clear hb); (try clear hb2); (try clear hk); (try clear hi)))
    go_meet
    case rel => exact ⟨_, (true), (by first | rfl | (simp; done) | (simp [*]; done)), H', ⟨by first | omega | exact Nat.le_refl _⟩, ⟨kr HO250.out⟩, ⟨tb HB⟩⟩
  case rest =>
   clear HC11
   try clear c1
   try clear c2
   try clear p2
   try clear c3
   try clear c4
   try clear c6
   try clear c10
   try clear c11
   try clear c12
   try clear c13
   try clear c14
   try clear c15
   try clear c16
   try clear c17
   try clear c18
   try clear c21
   try clear c21b0
   try clear c21b1
   try clear c22
   try clear c22b0
   try clear c22b1
   try clear c23
   try clear c23b0
   try clear c23b1
   try clear c23b2
   try clear c26
   try clear c28
   try clear c28b0
   try clear c28b1
   obtain ⟨kq, x71_10, rfl, HA, HJ10, HO_12, HB⟩ := hcut
   cases kq with
   | zero => exact absurd HA.out (by simp [laws_FnNumbers.j0])
   | succ kj10 =>
    have H := HA.out
    clear HA
    simp only [laws_FnNumbers.j0] at H
    by_cases c51 : x71_10 = true
    ·subst c51
     have H1 : (some false) = some r := by rw [if_pos rfl] at H; exact H
     clear H
     have H := H1
     clear H1
     exact absurd (Option.some.inj (H.trans (congrArg some hr_))) (by simp)
    ·replace c51 := Bool.eq_false_iff.mpr c51
     subst c51
     have H1 : (laws_FnNumbers.l0 kj10 t246 t247 t248 (⟨#[]⟩ : ByteArray) 0) = some r := by rw [if_neg (show ¬ (false = true) by decide)] at H; exact H
     clear H
     have H := H1
     clear H1
     have H' := Aside0.mk H
     clear H
     go_wp2
     go_loopg [13, 14] kj10 (fun kq v13 v14 w' => ∃ (x13_2 : ByteArray) (x14_2 : Int), v13 = .string x13_2 ∧ v14 = .int .i64 x14_2 ∧ Aside0 (laws_FnNumbers.l0 kq t246 t247 t248 x13_2 x14_2 = some r) ∧ Aside0 (kq ≤ kj10) ∧ Aside0 (Kd.R Kd.string 9 w' w.heap.size (fun _ => True) v249 t248) ∧ Aside0 (Below w.heap.size w w'))
     case atStart => exact ⟨((⟨#[]⟩ : ByteArray)), (0), (by first | rfl | (simp; done) | (simp [*]; done)), (by first | rfl | (simp; done) | (simp [*]; done)), H', ⟨Nat.le_refl _⟩, ⟨kr HO_12.out⟩, ⟨tb HB⟩⟩
     case round =>
      clear H'
      try clear c1
      try clear c2
      try clear p2
      try clear c3
      try clear c4
      try clear c5
      try clear c6
      try clear c10
      try clear c11
      try clear c12
      try clear c13
      try clear c14
      try clear c15
      try clear c16
      try clear c17
      try clear c18
      try clear c21
      try clear c21b0
      try clear c21b1
      try clear c22
      try clear c22b0
      try clear c22b1
      try clear c23
      try clear c23b0
      try clear c23b1
      try clear c23b2
      try clear c26
      try clear c28
      try clear c28b0
      try clear c28b1
      try clear c51
      try clear p2
      obtain ⟨x13_2, x14_2, rfl, rfl, HA, HK2, HO_12, HB⟩ := hrel
      cases gk with
      | zero => exact absurd HA.out (by simp [laws_FnNumbers.l0])
      | succ k2 =>
       have H := HA.out
       clear HA
       simp only [laws_FnNumbers.l0] at H
       by_cases c52 : x14_2 < (t248.length : Int)
       ·rw [if_pos c52] at H
        have c52b0 := decide_eq_true c52
        clear c52
        by_cases c53 : x14_2 > 0
        ·rw [if_pos c53] at H
         have c53b0 := decide_eq_true c53
         clear c53
         obtain ⟨y258, hy258⟩ : ∃ y_ : List Int, y_ = (([t247] : List Int)) := ⟨_, rfl⟩
         replace H : (if x13_2.size + (strOfNums y258).size ≤ 9223372036854775807 then (if 0 ≤ x14_2 then (if (x13_2 ++ (strOfNums y258)).size + (rdOf ByteArray.empty t248 x14_2).size ≤ 9223372036854775807 then (laws_FnNumbers.l0 k2 t246 t247 t248 ((x13_2 ++ (strOfNums y258)) ++ (rdOf ByteArray.empty t248 x14_2)) (wrap64 (x14_2 + 1))) else (none)) else (none)) else (none)) = some r := by first | (rw [hy258]; with_reducible exact H) | (have H2_ := (Option.bind_some _ _).symm.trans H; rw [hy258]; with_reducible exact H2_) | (have H2_ := (Option.bind_some _ _).symm.trans H; with_reducible exact H2_) | with_reducible exact H | (rw [hy258]; exact H) | exact H
         have Ny258 := Aside0.mk hy258
         clear hy258
         by_cases c54 : x13_2.size + (strOfNums y258).size ≤ 9223372036854775807
         ·rw [if_pos c54] at H
          have c54b0 := eq_true c54
          have c54b1 := decide_eq_true c54
          try have c54b2 : (9223372036854775807 < x13_2.size + (strOfNums y258).size) = False := eq_false (Nat.not_lt.2 c54)
          by_cases c55 : 0 ≤ x14_2
          ·rw [if_pos c55] at H
           have c55b0 := decide_eq_true c55
           clear c55
           by_cases c56 : (x13_2 ++ (strOfNums y258)).size + (rdOf ByteArray.empty t248 x14_2).size ≤ 9223372036854775807
           ·rw [if_pos c56] at H
            have c56b0 := eq_true c56
            have c56b1 := decide_eq_true c56
            try have c56b2 : (9223372036854775807 < (x13_2 ++ (strOfNums y258)).size + (rdOf ByteArray.empty t248 x14_2).size) = False := eq_false (Nat.not_lt.2 c56)
            have H' := Aside0.mk H
            clear H
            obtain ⟨Ao57, co57, eo57⟩ := Kd.R_slice HO_12.out
            subst eo57
            go_wp2_with (first | ((with_reducible refine gate_dst (N := 82) rfl ?_); (try (refine gate_guard (by rfl) ?_; dsimp only)); refine Kd.R_lit (Kd.int .u8) _ 5 ?hg (N := 82) ?hd (xs := ([t247] : List Int)) (inner := [.int .u8 t247]) (ok := fun _ => True) (okp := fun _ => True) ?hr ?hp (fun _ hk => hk) trivial (Below.refl _ _) (Nat.le_refl _) (by simp) ?_; (case hd => rfl); (case hg => rfl); (case hr => first | (go_simp; done) | (go_simp; rfl)); (case hp => exact (Reps.one (show Kd.M (Kd.int .u8) _ _ _ t247 [.int .u8 t247] from rfl) (Reps.none _ _))); intro v259 w58 ho59 hb hg_ hnew_; clear hg_ hnew_; (first | rw [← Ny258.out] at ho59 | (simp only [Int.reduceToNat] at ho59; rw [← Ny258.out] at ho59)); replace HO_12 := rb HO_12 hb; have HO260 := Aside0.mk (Kd.R_lower ho59 (below_size (tb HB))); replace HB := bs HB hb; clear hb ho59; have hcv60 := own_string (P := Tryd.prog) Tryd.underlying27 Tryd.underlying5 Tryd.underlying9 (Kd.own_of_R HO260.out); have p261 : 0 ≤ (x14_2 : Int) := od; have q261 : x14_2 < (t248.length : Int) := od; obtain ⟨ad261, e261, hx261_0⟩ := Kd.at_string (Kd.R_reads' HO_12.out).2.2 x14_2 p261 q261; cases e261; replace p261 := eq_true p261; replace q261 := eq_true q261))
            go_roundg k2
            case measure => have := HJ10.out; have := HK2.out; omega
            case rel => exact ⟨((x13_2 ++ (strOfNums y258)) ++ (rdOf ByteArray.empty t248 x14_2)), (wrap64 (x14_2 + 1)), (by first | rfl | (simp; done) | (simp [*]; done)), (by first | rfl | (simp; done) | (simp [*]; done)), H', ⟨by have := HJ10.out; have := HK2.out; omega⟩, ⟨kr HO_12.out⟩, ⟨tb HB⟩⟩
           ·rw [if_neg c56] at H
            exact absurd H (by simp)
          ·rw [if_neg c55] at H
           exact absurd H (by simp)
         ·rw [if_neg c54] at H
          exact absurd H (by simp)
        ·rw [if_neg c53] at H
         have c53b0 := decide_eq_false c53
         clear c53
         by_cases c61 : 0 ≤ x14_2
         ·rw [if_pos c61] at H
          have c61b0 := decide_eq_true c61
          clear c61
          by_cases c62 : x13_2.size + (rdOf ByteArray.empty t248 x14_2).size ≤ 9223372036854775807
          ·rw [if_pos c62] at H
           have c62b0 := eq_true c62
           have c62b1 := decide_eq_true c62
           try have c62b2 : (9223372036854775807 < x13_2.size + (rdOf ByteArray.empty t248 x14_2).size) = False := eq_false (Nat.not_lt.2 c62)
           have H' := Aside0.mk H
           clear H
           obtain ⟨Ao63, co63, eo63⟩ := Kd.R_slice HO_12.out
           subst eo63
           have p262 : 0 ≤ (x14_2 : Int) := od
           have q262 : x14_2 < (t248.length : Int) := od
           obtain ⟨ad262, e262, hx262_0⟩ := Kd.at_string (Kd.R_reads' HO_12.out).2.2 x14_2 p262 q262
           cases e262
           replace p262 := eq_true p262
           replace q262 := eq_true q262
           go_wp2
           go_roundg k2
           case measure => have := HJ10.out; have := HK2.out; omega
           case rel => exact ⟨(x13_2 ++ (rdOf ByteArray.empty t248 x14_2)), (wrap64 (x14_2 + 1)), (by first | rfl | (simp; done) | (simp [*]; done)), (by first | rfl | (simp; done) | (simp [*]; done)), H', ⟨by have := HJ10.out; have := HK2.out; omega⟩, ⟨kr HO_12.out⟩, ⟨tb HB⟩⟩
          ·rw [if_neg c62] at H
           exact absurd H (by simp)
         ·rw [if_neg c61] at H
          exact absurd H (by simp)
       ·rw [if_neg c52] at H
        have c52b0 := decide_eq_false c52
        clear c52
        by_cases c64 : x13_2.toList = t246.toList
        ·rw [if_pos c64] at H
         have c64b0 : (x13_2.toList == t246.toList) = true := beq_iff_eq.mpr c64
         have c64b1 : (x13_2.toList != t246.toList) = false := bne_eq_false_iff_eq.mpr c64
         clear c64
         replace H := Option.bind_eq_some_iff.mp H
         obtain ⟨t263, A650, H⟩ := H
         replace H : (some ((t248.length : Int) == (t263.length : Int))) = some r := H
         have A65 := Aside0.mk A650
         clear A650
         obtain rfl := Option.some.inj H
         obtain ⟨Ao66, co66, eo66⟩ := Kd.R_slice HO_12.out
         subst eo66
         go_wp2_with (first | (go_at_call 5; (with_reducible refine (spec_Split.calls k2 t246 t247 t263 _ A65.out).mono ?_); rintro e w67 ⟨v264, rfl, ho0, hb⟩; have HO265 := Aside0.mk (Kd.R_lower (Kd.R_new' ho0 (Kd.R_lt (kr HO_12.out))) (below_size (tb HB))); replace HO_12 := Aside0.mk (Kd.R_elder' (kr HO_12.out) (Kd.R_base ho0) hb); replace HB := bs HB hb; (try clear hb); (try clear hb2); (try clear hk); (try clear hi); (try clear ho0); obtain ⟨Ao68, co68, eo68⟩ := Kd.R_slice HO265.out; subst eo68))
         go_ret
         exact ⟨er, tb HB⟩
        ·rw [if_neg c64] at H
         exact absurd (Option.some.inj (H.trans (congrArg some hr_))) (by simp)

def laws_FnNumbers.Pure : Prop := ∀ (l0 : List Int), l0.length ≤ maxLen → l0.length * 1 ≤ 140737488351232 → (∀ x ∈ l0, (Lit.int .u8 x).wf = true) → ∃ k, laws_FnNumbers.f k l0 = some true
theorem laws_FnNumbers.walk (P : laws_FnNumbers.Pure) (a0 : Option Addr) (len0 cap0 : Nat) (z0 : List Int) (w : World) (hm : ∃ m, w.cell? ⟨0, 0, none⟩ = some (.int .i64 m)) (w0 : (a0 = none ∧ len0 = 0 ∧ cap0 = 0 ∧ z0 = []) ∨ ∃ x, a0 = some x ∧ len0 ≤ cap0 ∧ cap0 ≤ maxLen ∧ z0.length = cap0 ∧ (∀ i, i < z0.length → w.cell? (x.add i) = some (.int .u8 (z0.getD i 0))) ∧ ∀ n ∈ z0, (Lit.int .u8 n).wf = true) (y0 : len0 * 1 ≤ 140737488351232) :
  Calls Tryd.prog 4 #[.slice a0 len0 cap0] w fun e w' => e = .returned (.bool true) ∧ Below w.heap.size w w' := by
 obtain ⟨l0, rfl, hr0, hm0, hw0, hc0⟩ := ReadsInt.ofRowC w0
 obtain ⟨k, h⟩ := P l0 hm0 y0 hw0
 refine (laws_FnNumbers.calls k _ _ l0 true w hm (Kd.C_of_reads (d := (0 : Int)) (h1 := fun _ => rfl) hr0) hc0 h rfl).mono ?_
 rintro e w' ⟨rfl, hd⟩
 exact ⟨rfl, hd⟩
end Go.Proofs.YtopikhjcbcpiaaaDoor.Q
section
/- Cutting bytes at one byte: the library's words and a plain recursion answer the same. -/
namespace Go.Proofs.YtopikhjcbcpiaaaDoor.S
open Go.Lib

/-- s cut at each byte c; a is what was read of the piece so far. -/
def cuts (c : UInt8) : List UInt8 → List UInt8 → List (List UInt8)
  | a, [] => [a]
  | a, b :: l => if b = c then a :: cuts c [] l else cuts c (a ++ [b]) l

theorem cuts_free (c : UInt8) : ∀ (p a : List UInt8), (∀ x ∈ p, x ≠ c) → ∀ q, cuts c a (p ++ q) = cuts c (a ++ p) q
  | [], a, _, q => by simp
  | b :: p, a, h, q => by
    have hb : b ≠ c := h b (by simp)
    rw [List.cons_append, cuts, if_neg hb, cuts_free c p (a ++ [b]) (fun x hx => h x (by simp [hx])) q]
    simp
theorem occ_one (s : List UInt8) (c : UInt8) (j : Nat) : occAt s [c] j = true ↔ s[j]? = some c := by
  unfold occAt
  rw [← List.head?_drop]
  cases h : s.drop j with
  | nil => simp
  | cons b l =>
    simp only [List.isPrefixOf, Bool.and_true, beq_iff_eq, List.head?_cons, Option.some.injEq]
    exact eq_comm
theorem split_cuts (c : UInt8) : ∀ (n : Nat) (s : List UInt8), s.length ≤ n → splitK [c] 0 (count s [c]) s = cuts c [] s := by
  intro n
  induction n with
  | zero =>
    intro s hs
    have : s = [] := List.length_eq_zero_iff.1 (by omega)
    subst this
    rw [count_miss (by rfl)]
    rfl
  | succ n ih =>
    intro s hs
    rcases index_spec s [c] with ⟨hm, hn⟩ | ⟨i, hi, hle, ho, hno⟩
    · rw [count_miss hm]
      have hf : ∀ x ∈ s, x ≠ c := by
        intro x hx e
        subst e
        obtain ⟨j, hj, e⟩ := List.getElem_of_mem hx
        have := hn j (by omega)
        rw [Bool.eq_false_iff] at this
        exact this ((occ_one s x j).2 (by rw [List.getElem?_eq_getElem hj, e]))
      have := cuts_free c s [] hf []
      rw [List.append_nil, List.nil_append] at this
      rw [this]
      rfl
    · rw [count_hit (by simp) hi, Nat.add_comm, splitK]
      have hne : ¬ (index s [c] == -1) = true := fun e => by have := beq_iff_eq.1 e; omega
      rw [if_neg hne, hi]
      have hc : s[i]? = some c := (occ_one s c i).1 ho
      have hlt : i < s.length := (List.getElem?_eq_some_iff.1 hc).1
      have e1 : s = s.take i ++ c :: s.drop (i + 1) := by
        conv => lhs; rw [← List.take_append_drop i s]
        rw [List.drop_eq_getElem_cons hlt, (List.getElem?_eq_some_iff.1 hc).2]
      have hf : ∀ x ∈ s.take i, x ≠ c := by
        intro x hx e
        subst e
        obtain ⟨j, hj, e⟩ := List.getElem_of_mem hx
        simp at hj e
        have := hno j (by omega)
        rw [Bool.eq_false_iff] at this
        exact this ((occ_one s x j).2 (by rw [List.getElem?_eq_getElem (by omega), e]))
      have e2 : cuts c [] s = s.take i :: cuts c [] (s.drop (i + 1)) := by
        conv => lhs; rw [e1]
        rw [cuts_free c _ [] hf, cuts, if_pos rfl, List.nil_append]
      rw [e2]
      simp only [Int.toNat_natCast, Nat.add_zero, List.length_singleton]
      rw [ih (s.drop (i + 1)) (by rw [List.length_drop]; omega)]
end Go.Proofs.YtopikhjcbcpiaaaDoor.S
end
section
namespace Go.Proofs.YtopikhjcbcpiaaaDoorX
open Go.RowKit Go.Proofs.YtopikhjcbcpiaaaDoorW.PrintWords
theorem wrap_succ {i n : Nat} (h : i < n) (hn : n ≤ 9223372036854775807) : wrap64 ((i : Int) + 1) = ((i + 1 : Nat) : Int) := by
  unfold wrap64; omega
theorem wrap_in {x : Int} (h0 : -9223372036854775808 ≤ x) (h1 : x ≤ 9223372036854775807) : wrap64 x = x := by
  unfold wrap64; omega
theorem ev_of {α : Type} {g : Nat → Option α} {r : α} (h : ∀ k, g k = some r) : Ev g r := ⟨0, fun k _ => h k⟩
theorem ev_succ {α : Type} {g : Nat → Option α} {r : α} (h : ∀ k, g (k + 1) = some r) : Ev g r := Ev.step (f := fun _ => Option.some r) h (Ev.now r)
theorem ev_to {α : Type} {g : Nat → Option α} {r q : α} (h : Ev g r) (e : r = q) : Ev g q := e ▸ h
theorem ev_pos {α : Type} {c : Prop} [Decidable c] {g f : Nat → Option α} {r : α} (hc : c) (h : Ev g r) : Ev (fun k => if c then g k else f k) r := by simp only [if_pos hc]; exact h
theorem ev_neg {α : Type} {c : Prop} [Decidable c] {g f : Nat → Option α} {r : α} (hc : ¬ c) (h : Ev f r) : Ev (fun k => if c then g k else f k) r := by simp only [if_neg hc]; exact h
theorem ev_down {β : Type} {g : Nat → Int → Option β} {R : Nat → β} {n : Nat} (h : ∀ i : Nat, i ≤ n → (i < n → Ev (fun k => g k ((i + 1 : Nat) : Int)) (R (i + 1))) → Ev (fun k => g k (i : Int)) (R i)) :
    ∀ i : Nat, i ≤ n → Ev (fun k => g k (i : Int)) (R i) := by
  have key : ∀ d i : Nat, i + d = n → Ev (fun k => g k (i : Int)) (R i) := by
    intro d
    induction d with
    | zero => intro i hi; exact h i (by omega) (fun hlt => by omega)
    | succ d ih => intro i hi; exact h i (by omega) (fun _ => ih (i + 1) (by omega))
  intro i hi
  exact key (n - i) i (by omega)
end Go.Proofs.YtopikhjcbcpiaaaDoorX
end
namespace Go.Proofs.YtopikhjcbcpiaaaDoor.Q
open Go.RowKit Go.Proofs.YtopikhjcbcpiaaaDoorW.PrintWords Go.Proofs.YtopikhjcbcpiaaaDoorW.PrintLast Go.Proofs.YtopikhjcbcpiaaaDoorW.PrintMore
attribute [local go_sem] max2_int min2_int max_two min_two max_three min_three max_four min_four   -- for this text's walks alone
set_option linter.unusedVariables false
set_option linter.unusedSimpArgs false
def laws_eqStringS.l0 : Nat → List ByteArray → List ByteArray → Int → Option (Bool)
 | 0, _, _, _ => none
 | k + 1, x0, x1, x5 => if x5 < (x0.length : Int) then (if 0 ≤ x5 then (if x5 < (x1.length : Int) then (if (rdOf ByteArray.empty x0 x5).toList = (rdOf ByteArray.empty x1 x5).toList then (laws_eqStringS.l0 k x0 x1 (wrap64 (x5 + 1))) else (some false)) else (none)) else (none)) else (some true)
def laws_eqStringS.f (k : Nat) (l0 : List ByteArray) (l1 : List ByteArray) : Option (Bool) := if (l0.length : Int) = (l1.length : Int) then (laws_eqStringS.l0 k l0 l1 0) else (some false)
theorem laws_eqStringS.mono_l : ∀ k, (∀ y0 y1 y2, LeO (laws_eqStringS.l0 k y0 y1 y2) (laws_eqStringS.l0 (k + 1) y0 y1 y2))
 | 0 => fun _ _ _ r h => by simp [laws_eqStringS.l0] at h
 | k + 1 => by
  have ih0 := laws_eqStringS.mono_l k
  ·intro y0 y1 y2
   unfold laws_eqStringS.l0
   repeat' first
   | (with_reducible exact ih0 _ _ _)
   | (with_reducible exact LeO.refl _)
   | (with_reducible exact LeO.none _)
   | (with_reducible refine LeO.ite ?_ ?_)
   | (with_reducible refine LeO.bind ?_ (fun _ => ?_))
   | exact ih0 _ _ _
   | exact LeO.none _
   | refine LeO.ite ?_ ?_
   | refine LeO.bind ?_ (fun _ => ?_)
theorem laws_eqStringS.mono : ∀ a0 a1 k, LeO (laws_eqStringS.f k a0 a1) (laws_eqStringS.f (k + 1) a0 a1) := by
 intro a0 a1 k
 have ih0 := laws_eqStringS.mono_l k
 unfold laws_eqStringS.f
 repeat' first
   | (with_reducible exact ih0 _ _ _)
   | (with_reducible exact LeO.refl _)
   | (with_reducible exact LeO.none _)
   | (with_reducible refine LeO.ite ?_ ?_)
   | (with_reducible refine LeO.bind ?_ (fun _ => ?_))
   | exact ih0 _ _ _
   | exact LeO.none _
   | refine LeO.ite ?_ ?_
   | refine LeO.bind ?_ (fun _ => ?_)
set_option maxHeartbeats 8000000 in
set_option maxRecDepth 100000 in
theorem laws_eqStringS.calls (k : Nat) (A0 : Option Addr) (c0 : Nat) (l0 : List ByteArray) (A1 : Option Addr) (c1 : Nat) (l1 : List ByteArray) (r : Bool) (w : World) (hr0 : Kd.C Kd.string w A0 l0.length l0) (hc0 : l0.length ≤ c0) (hr1 : Kd.C Kd.string w A1 l1.length l1) (hc1 : l1.length ≤ c1) (h : laws_eqStringS.f k l0 l1 = some r) :
  Calls Tryd.prog 7 #[.slice A0 l0.length c0, .slice A1 l1.length c1] w fun e w' => e = .returned (.bool r) ∧ Drawn0 w w' := by
 have HR0 := Aside0.mk hr0
 have HC0 := Aside0.mk hc0
 clear hr0 hc0
 have HR1 := Aside0.mk hr1
 have HC1 := Aside0.mk hc1
 clear hr1 hc1
 have H : (if (l0.length : Int) = (l1.length : Int) then (laws_eqStringS.l0 k l0 l1 0) else (some false)) = some r := h
 clear h
 by_cases c3 : (l0.length : Int) = (l1.length : Int)
 ·rw [if_pos c3] at H
  have c3b0 : ((l0.length : Int) == (l1.length : Int)) = true := beq_iff_eq.mpr c3
  have c3b1 : ((l0.length : Int) != (l1.length : Int)) = false := bne_eq_false_iff_eq.mpr c3
  have c3b2 : (l0.length == l1.length) = true := by first | simpa using c3 | (simp at c3 ⊢; omega)
  clear c3
  have H' := Aside0.mk H
  clear H
  go_enter Tryd.func7, Tryd.ntmps7
  go_wp2
  repeat (go_quiet (fail); try go_wp2)
  go_loopg [5] k (fun kq v5 w' => ∃ (x5_1 : Int), v5 = .int .i64 x5_1 ∧ Aside0 (laws_eqStringS.l0 kq l0 l1 x5_1 = some r) ∧ Aside0 (kq ≤ k) ∧ Drawn0 w w')
  case atStart => exact ⟨(0), (by first | rfl | (simp; done) | (simp [*]; done)), H', ⟨Nat.le_refl _⟩, by repeat (first | exact Drawn0.refl _ | apply Drawn0.step)⟩
  case round =>
   clear H'
   try clear c1
   try clear p2
   try clear c3
   try clear c3b0
   try clear c3b1
   try clear c3b2
   obtain ⟨x5_1, rfl, HA, HK1, ⟨m1, rfl⟩⟩ := hrel
   cases gk with
   | zero => exact absurd HA.out (by simp [laws_eqStringS.l0])
   | succ k1 =>
    have H := HA.out
    clear HA
    simp only [laws_eqStringS.l0] at H
    by_cases c4 : x5_1 < (l0.length : Int)
    ·rw [if_pos c4] at H
     have c4b0 := decide_eq_true c4
     clear c4
     by_cases c5 : 0 ≤ x5_1
     ·rw [if_pos c5] at H
      have c5b0 := decide_eq_true c5
      clear c5
      by_cases c6 : x5_1 < (l1.length : Int)
      ·rw [if_pos c6] at H
       have c6b0 := decide_eq_true c6
       clear c6
       by_cases c7 : (rdOf ByteArray.empty l0 x5_1).toList = (rdOf ByteArray.empty l1 x5_1).toList
       ·rw [if_pos c7] at H
        have c7b0 : ((rdOf ByteArray.empty l0 x5_1).toList == (rdOf ByteArray.empty l1 x5_1).toList) = true := beq_iff_eq.mpr c7
        have c7b1 : ((rdOf ByteArray.empty l0 x5_1).toList != (rdOf ByteArray.empty l1 x5_1).toList) = false := bne_eq_false_iff_eq.mpr c7
        clear c7
        have H' := Aside0.mk H
        clear H
        have p112 : 0 ≤ (x5_1 : Int) := od
        have q112 : x5_1 < (l0.length : Int) := od
        obtain ⟨ad112, e112, hx112_0⟩ := Kd.at_string HR0.out x5_1 p112 q112
        cases e112
        replace p112 := eq_true p112
        replace q112 := eq_true q112
        have p113 : 0 ≤ (x5_1 : Int) := od
        have q113 : x5_1 < (l1.length : Int) := od
        obtain ⟨ad113, e113, hx113_0⟩ := Kd.at_string HR1.out x5_1 p113 q113
        cases e113
        replace p113 := eq_true p113
        replace q113 := eq_true q113
        go_wp2
        repeat (go_quiet (fail); try go_wp2)
        go_roundg k1
        case measure => have := HK1.out; omega
        case rel => exact ⟨(wrap64 (x5_1 + 1)), (by first | rfl | (simp; done) | (simp [*]; done)), H', ⟨by have := HK1.out; omega⟩, by repeat (first | exact Drawn0.refl _ | apply Drawn0.step)⟩
       ·rw [if_neg c7] at H
        have c7b0 : ((rdOf ByteArray.empty l0 x5_1).toList == (rdOf ByteArray.empty l1 x5_1).toList) = false := beq_eq_false_iff_ne.mpr c7
        have c7b1 : ((rdOf ByteArray.empty l0 x5_1).toList != (rdOf ByteArray.empty l1 x5_1).toList) = true := bne_iff_ne.mpr c7
        obtain rfl := Option.some.inj H
        have p112 : 0 ≤ (x5_1 : Int) := od
        have q112 : x5_1 < (l0.length : Int) := od
        obtain ⟨ad112, e112, hx112_0⟩ := Kd.at_string HR0.out x5_1 p112 q112
        cases e112
        replace p112 := eq_true p112
        replace q112 := eq_true q112
        have p113 : 0 ≤ (x5_1 : Int) := od
        have q113 : x5_1 < (l1.length : Int) := od
        obtain ⟨ad113, e113, hx113_0⟩ := Kd.at_string HR1.out x5_1 p113 q113
        cases e113
        replace p113 := eq_true p113
        replace q113 := eq_true q113
        go_wp2
        repeat (go_quiet (fail); try go_wp2)
        go_ret
        exact ⟨by first | rfl | (simp; done) | (simp [*]; done), by repeat (first | exact Drawn0.refl _ | apply Drawn0.step)⟩
      ·rw [if_neg c6] at H
       exact absurd H (by simp)
     ·rw [if_neg c5] at H
      exact absurd H (by simp)
    ·rw [if_neg c4] at H
     have c4b0 := decide_eq_false c4
     clear c4
     obtain rfl := Option.some.inj H
     go_wp2
     repeat (go_quiet (fail); try go_wp2)
     go_ret
     exact ⟨by first | rfl | (simp; done) | (simp [*]; done), by repeat (first | exact Drawn0.refl _ | apply Drawn0.step)⟩
 ·rw [if_neg c3] at H
  have c3b0 : ((l0.length : Int) == (l1.length : Int)) = false := beq_eq_false_iff_ne.mpr c3
  have c3b1 : ((l0.length : Int) != (l1.length : Int)) = true := bne_iff_ne.mpr c3
  have c3b2 : (l0.length == l1.length) = false := by first | simpa using c3 | (simp at c3 ⊢; omega)
  obtain rfl := Option.some.inj H
  go_enter Tryd.func7, Tryd.ntmps7
  go_wp2
  repeat (go_quiet (fail); try go_wp2)
  go_ret
  exact ⟨by first | rfl | (simp; done) | (simp [*]; done), by repeat (first | exact Drawn0.refl _ | apply Drawn0.step)⟩
def laws_markText.l0 : Nat → Int → ByteArray → Option (ByteArray)
 | 0, _, _ => none
 | k + 1, x0, x3 => if x0 > 0 then ((some (([(wrap64 (48 + (Int.tmod x0 10))) % 256] : List Int) : List Int)).bind fun y114 => (if (strOfNums y114).size + x3.size ≤ 9223372036854775807 then (laws_markText.l0 k (wrap64 (Int.tdiv x0 10)) ((strOfNums y114) ++ x3)) else (none))) else (if 1 + x3.size ≤ 9223372036854775807 then (some ((⟨#[109]⟩ : ByteArray) ++ x3)) else (none))
def laws_markText.f (k : Nat) (a0 : Int) : Option (ByteArray) := if a0 ≤ 0 then (some (⟨#[109, 48]⟩ : ByteArray)) else (laws_markText.l0 k a0 (⟨#[]⟩ : ByteArray))
theorem laws_markText.mono_l : ∀ k, (∀ y0 y1, LeO (laws_markText.l0 k y0 y1) (laws_markText.l0 (k + 1) y0 y1))
 | 0 => fun _ _ r h => by simp [laws_markText.l0] at h
 | k + 1 => by
  have ih0 := laws_markText.mono_l k
  ·intro y0 y1
   unfold laws_markText.l0
   repeat' first
   | (with_reducible exact ih0 _ _)
   | (with_reducible exact LeO.refl _)
   | (with_reducible exact LeO.none _)
   | (with_reducible refine LeO.ite ?_ ?_)
   | (with_reducible refine LeO.bind ?_ (fun _ => ?_))
   | exact ih0 _ _
   | exact LeO.none _
   | refine LeO.ite ?_ ?_
   | refine LeO.bind ?_ (fun _ => ?_)
theorem laws_markText.mono : ∀ a0 k, LeO (laws_markText.f k a0) (laws_markText.f (k + 1) a0) := by
 intro a0 k
 have ih0 := laws_markText.mono_l k
 unfold laws_markText.f
 repeat' first
   | (with_reducible exact ih0 _ _)
   | (with_reducible exact LeO.refl _)
   | (with_reducible exact LeO.none _)
   | (with_reducible refine LeO.ite ?_ ?_)
   | (with_reducible refine LeO.bind ?_ (fun _ => ?_))
   | exact ih0 _ _
   | exact LeO.none _
   | refine LeO.ite ?_ ?_
   | refine LeO.bind ?_ (fun _ => ?_)
set_option maxHeartbeats 8000000 in
set_option maxRecDepth 100000 in
theorem laws_markText.calls (k : Nat) (a0 : Int) (r : ByteArray) (w : World) (h : laws_markText.f k a0 = some r) :
  Calls Tryd.prog 22 #[.int .i64 a0] w fun e w' => e = .returned (.string r) ∧ Below w.heap.size w w' := by
 have HB := Aside0.mk (Below.refl w.heap.size w)
 have H : (if a0 ≤ 0 then (some (⟨#[109, 48]⟩ : ByteArray)) else (laws_markText.l0 k a0 (⟨#[]⟩ : ByteArray))) = some r := h
 clear h
 by_cases c2 : a0 ≤ 0
 ·rw [if_pos c2] at H
  have c2b0 := decide_eq_true c2
  clear c2
  obtain rfl := Option.some.inj H
  go_enter Tryd.func22, Tryd.ntmps22
  go_wp2
  go_ret
  exact ⟨er, tb HB⟩
 ·rw [if_neg c2] at H
  have c2b0 := decide_eq_false c2
  clear c2
  have H' := Aside0.mk H
  clear H
  go_enter Tryd.func22, Tryd.ntmps22
  go_wp2
  go_loopg [0, 3] k (fun kq v0 v3 w' => ∃ (x0_1 : Int) (x3_1 : ByteArray), v0 = .int .i64 x0_1 ∧ v3 = .string x3_1 ∧ Aside0 (laws_markText.l0 kq x0_1 x3_1 = some r) ∧ Aside0 (kq ≤ k) ∧ Aside0 (Below w.heap.size w w'))
  case atStart => exact ⟨(a0), ((⟨#[]⟩ : ByteArray)), (by first | rfl | (simp; done) | (simp [*]; done)), (by first | rfl | (simp; done) | (simp [*]; done)), H', ⟨Nat.le_refl _⟩, ⟨tb HB⟩⟩
  case round =>
   clear H'
   try clear c2
   try clear c2b0
   try clear p2
   obtain ⟨x0_1, x3_1, rfl, rfl, HA, HK1, HB⟩ := hrel
   cases gk with
   | zero => exact absurd HA.out (by simp [laws_markText.l0])
   | succ k1 =>
    have H := HA.out
    clear HA
    simp only [laws_markText.l0] at H
    by_cases c3 : x0_1 > 0
    ·rw [if_pos c3] at H
     have c3b0 := decide_eq_true c3
     clear c3
     obtain ⟨y114, hy114⟩ : ∃ y_ : List Int, y_ = (([(wrap64 (48 + (Int.tmod x0_1 10))) % 256] : List Int)) := ⟨_, rfl⟩
     replace H : (if (strOfNums y114).size + x3_1.size ≤ 9223372036854775807 then (laws_markText.l0 k1 (wrap64 (Int.tdiv x0_1 10)) ((strOfNums y114) ++ x3_1)) else (none)) = some r := by first | (rw [hy114]; with_reducible exact H) | (have H2_ := (Option.bind_some _ _).symm.trans H; rw [hy114]; with_reducible exact H2_) | (have H2_ := (Option.bind_some _ _).symm.trans H; with_reducible exact H2_) | with_reducible exact H | (rw [hy114]; exact H) | exact H
     have Ny114 := Aside0.mk hy114
     clear hy114
     by_cases c4 : (strOfNums y114).size + x3_1.size ≤ 9223372036854775807
     ·rw [if_pos c4] at H
      have c4b0 := eq_true c4
      have c4b1 := decide_eq_true c4
      try have c4b2 : (9223372036854775807 < (strOfNums y114).size + x3_1.size) = False := eq_false (Nat.not_lt.2 c4)
      have H' := Aside0.mk H
      clear H
      go_wp2_with (first | ((with_reducible refine gate_dst (N := 12) rfl ?_); refine Kd.R_lit (Kd.int .u8) _ 5 ?hg (N := 12) ?hd (xs := ([(wrap64 (48 + (Int.tmod x0_1 10))) % 256] : List Int)) (inner := [.int .u8 ((wrap64 (48 + (Int.tmod x0_1 10))) % 256)]) (ok := fun _ => True) (okp := fun _ => True) ?hr ?hp (fun _ hk => hk) trivial (Below.refl _ _) (Nat.le_refl _) (by simp) ?_; (case hd => rfl); (case hg => rfl); (case hr => first | (go_simp; done) | (go_simp; rfl)); (case hp => exact (Reps.one (show Kd.M (Kd.int .u8) _ _ _ ((wrap64 (48 + (Int.tmod x0_1 10))) % 256) [.int .u8 ((wrap64 (48 + (Int.tmod x0_1 10))) % 256)] from rfl) (Reps.none _ _))); intro v115 w5 ho6 hb hg_ hnew_; clear hg_ hnew_; (first | rw [← Ny114.out] at ho6 | (simp only [Int.reduceToNat] at ho6; rw [← Ny114.out] at ho6)); have HO116 := Aside0.mk (Kd.R_lower ho6 (below_size (tb HB))); replace HB := bs HB hb; clear hb ho6; have hcv7 := own_string (P := Tryd.prog) Tryd.underlying27 Tryd.underlying5 Tryd.underlying9 (Kd.own_of_R HO116.out)))
      go_roundg k1
      case measure => have := HK1.out; omega
      case rel => exact ⟨(wrap64 (Int.tdiv x0_1 10)), ((strOfNums y114) ++ x3_1), (by first | rfl | (simp; done) | (simp [*]; done)), (by first | rfl | (simp; done) | (simp [*]; done)), H', ⟨by have := HK1.out; omega⟩, ⟨tb HB⟩⟩
     ·rw [if_neg c4] at H
      exact absurd H (by simp)
    ·rw [if_neg c3] at H
     have c3b0 := decide_eq_false c3
     clear c3
     by_cases c8 : 1 + x3_1.size ≤ 9223372036854775807
     ·rw [if_pos c8] at H
      have c8b0 := eq_true c8
      have c8b1 := decide_eq_true c8
      try have c8b2 : (9223372036854775807 < 1 + x3_1.size) = False := eq_false (Nat.not_lt.2 c8)
      obtain rfl := Option.some.inj H
      go_wp2
      go_ret
      exact ⟨er, tb HB⟩
     ·rw [if_neg c8] at H
      exact absurd H (by simp)
def laws_markStringS.l0 : Nat → List ByteArray → Int → Int → Option (Int × List ByteArray)
 | 0, _, _, _ => none
 | k + 1, x0, x1, x5 => if x5 < (x0.length : Int) then ((laws_markText.f k x1).bind fun t117 => (if 0 ≤ x5 then (laws_markStringS.l0 k (x0.set (x5 : Int).toNat t117) (wrap64 (x1 + 1)) (wrap64 (x5 + 1))) else (none))) else (some (x1, x0))
def laws_markStringS.f (k : Nat) (l0 : List ByteArray) (a1 : Int) : Option (Int × List ByteArray) := laws_markStringS.l0 k l0 a1 0
theorem laws_markStringS.mono_l : ∀ k, (∀ y0 y1 y2, LeO (laws_markStringS.l0 k y0 y1 y2) (laws_markStringS.l0 (k + 1) y0 y1 y2))
 | 0 => fun _ _ _ r h => by simp [laws_markStringS.l0] at h
 | k + 1 => by
  have ih0 := laws_markStringS.mono_l k
  ·intro y0 y1 y2
   unfold laws_markStringS.l0
   repeat' first
   | (with_reducible exact ih0 _ _ _)
   | (with_reducible exact laws_markText.mono _ _)
   | (with_reducible exact LeO.refl _)
   | (with_reducible exact LeO.none _)
   | (with_reducible refine LeO.ite ?_ ?_)
   | (with_reducible refine LeO.bind ?_ (fun _ => ?_))
   | exact ih0 _ _ _
   | exact laws_markText.mono _ _
   | exact LeO.none _
   | refine LeO.ite ?_ ?_
   | refine LeO.bind ?_ (fun _ => ?_)
theorem laws_markStringS.mono : ∀ a0 a1 k, LeO (laws_markStringS.f k a0 a1) (laws_markStringS.f (k + 1) a0 a1) := by
 intro a0 a1 k
 have ih0 := laws_markStringS.mono_l k
 unfold laws_markStringS.f
 repeat' first
   | (with_reducible exact ih0 _ _ _)
   | (with_reducible exact laws_markText.mono _ _)
   | (with_reducible exact LeO.refl _)
   | (with_reducible exact LeO.none _)
   | (with_reducible refine LeO.ite ?_ ?_)
   | (with_reducible refine LeO.bind ?_ (fun _ => ?_))
   | exact ih0 _ _ _
   | exact laws_markText.mono _ _
   | exact LeO.none _
   | refine LeO.ite ?_ ?_
   | refine LeO.bind ?_ (fun _ => ?_)
set_option maxHeartbeats 8000000 in
set_option maxRecDepth 100000 in
theorem laws_markStringS.calls (k : Nat) (P0_ : Nat → Prop) (u9000_ : Value) (l0 : List ByteArray) (a1 : Int) (r1 : Int) (r2 : List ByteArray) (w0 w : World) (hB : Below w0.heap.size w0 w) (ho0 : Kd.R Kd.string 9 w w0.heap.size P0_ u9000_ l0) (h : laws_markStringS.f k l0 a1 = some (r1, r2)) :
  Calls Tryd.prog 8 #[u9000_, .int .i64 a1] w fun e w' => e = .returned (.int .i64 r1) ∧ Kd.R Kd.string 9 w' w0.heap.size (fun k_ => (P0_ k_ ∨ w.heap.size ≤ k_)) u9000_ r2 ∧ Below w0.heap.size w0 w' ∧ Kept w w' (fun k_ => P0_ k_) := by
 have HO0 := Aside0.mk (show Kd.R Kd.string 9 w w0.heap.size (fun k_ => (P0_ k_ ∨ w.heap.size ≤ k_)) u9000_ l0 from Kd.R_mono ho0 (fun k_ hk => (.inl hk)))
 have HK := Aside0.mk (Kept.refl w (fun k_ => P0_ k_))
 have HW0 := Aside0.mk hB.size
 have HB := Aside0.mk hB
 clear hB
 have H : (laws_markStringS.l0 k l0 a1 0) = some (r1, r2) := h
 clear h
 have H' := Aside0.mk H
 clear H
 go_enter Tryd.func8, Tryd.ntmps8
 go_wp2
 go_loopg [1, 5] k (fun kq v1 v5 w' => ∃ (x0_1 : List ByteArray) (x1_1 : Int) (x5_1 : Int), v1 = .int .i64 x1_1 ∧ v5 = .int .i64 x5_1 ∧ Aside0 (laws_markStringS.l0 kq x0_1 x1_1 x5_1 = some (r1, r2)) ∧ Aside0 (kq ≤ k) ∧ Aside0 (Kd.R Kd.string 9 w' w0.heap.size (fun k_ => (P0_ k_ ∨ w.heap.size ≤ k_)) u9000_ x0_1) ∧ Aside0 (Kept w w' (fun k_ => P0_ k_)) ∧ Aside0 (Below w0.heap.size w0 w'))
 case atStart => exact ⟨(l0), (a1), (0), (by first | rfl | (simp; done) | (simp [*]; done)), (by first | rfl | (simp; done) | (simp [*]; done)), H', ⟨Nat.le_refl _⟩, ⟨kr HO0.out⟩, ⟨by repeat (first | (with_reducible first | exact HK.out | apply Kept.alloc | apply Kept.drewN | apply Kept.drew) | exact HK.out)⟩, ⟨tb HB⟩⟩
 case round =>
  clear H'
  try clear p2
  obtain ⟨x0_1, x1_1, x5_1, rfl, rfl, HA, HK1, HO_0, HK, HB⟩ := hrel
  cases gk with
  | zero => exact absurd HA.out (by simp [laws_markStringS.l0])
  | succ k1 =>
   have H := HA.out
   clear HA
   simp only [laws_markStringS.l0] at H
   by_cases c3 : x5_1 < (x0_1.length : Int)
   ·rw [if_pos c3] at H
    have c3b0 := decide_eq_true c3
    clear c3
    replace H := Option.bind_eq_some_iff.mp H
    obtain ⟨t117, A40, H⟩ := H
    replace H : (if 0 ≤ x5_1 then (laws_markStringS.l0 k1 (x0_1.set (x5_1 : Int).toNat t117) (wrap64 (x1_1 + 1)) (wrap64 (x5_1 + 1))) else (none)) = some (r1, r2) := H
    have A4 := Aside0.mk A40
    clear A40
    by_cases c5 : 0 ≤ x5_1
    ·rw [if_pos c5] at H
     have c5b0 := decide_eq_true c5
     clear c5
     obtain ⟨y118, hy118⟩ : ∃ y_ : List ByteArray, y_ = (x0_1.set (x5_1 : Int).toNat t117) := ⟨_, rfl⟩
     replace H : (laws_markStringS.l0 k1 y118 (wrap64 (x1_1 + 1)) (wrap64 (x5_1 + 1))) = some (r1, r2) := by first | (rw [hy118]; with_reducible exact H) | (have H2_ := (Option.bind_some _ _).symm.trans H; rw [hy118]; with_reducible exact H2_) | (have H2_ := (Option.bind_some _ _).symm.trans H; with_reducible exact H2_) | with_reducible exact H | (rw [hy118]; exact H) | exact H
     have Ny118 := Aside0.mk hy118
     clear hy118
     have H' := Aside0.mk H
     clear H
     obtain ⟨Ao7, co7, eo7⟩ := Kd.R_slice HO_0.out
     subst eo7
     go_wp2_with (first | ((with_reducible refine gate_callee (f := 22) rfl ?_); refine gL 15 Tryd.func22 #[.int .i64 x1_1] ?_; (with_reducible refine (laws_markText.calls k1 x1_1 t117 _ A4.out).mono ?_); rintro e w8 ⟨rfl, hb⟩; refine ⟨_, rfl, ?_⟩; replace HO_0 := rb HO_0 hb; replace HK := Aside0.mk (Kept.below (S := (fun k_ => P0_ k_)) (by repeat (first | (with_reducible first | exact HK.out | apply Kept.alloc | apply Kept.drewN | apply Kept.drew) | exact HK.out)) hb); replace HB := bs HB hb; (try clear hb); (try clear hb2); (try clear hk); (try clear hi); have p6 : 0 ≤ (x5_1 : Int) := od; have q6 : (x5_1 : Int) < ((x0_1.length : Int) : Int) := od; obtain ⟨go6, co6, eo6, gb6, gl6, cl6, HG6⟩ := Kd.R_form HO_0.out (by omega); (first | cases eo6 | (injection eo6 with ea_ en_ ec_; (first | subst ea_ | (injection ea_ with ea_; subst ea_)); subst ec_; clear en_)); have GB6 := Aside0.mk gb6; have GG6 := Aside0.mk HG6; clear gb6 gl6 HG6; have HMgo6 := Aside0.mk (show (P0_ go6 ∨ w.heap.size ≤ go6) from (HO_0.out.1 _ rfl)); obtain ⟨hx6_0, hf6_0⟩ := Kd.R_celln (⟨#[]⟩ : ByteArray) HO_0.out (x5_1 : Int) p6 q6; replace p6 := eq_true p6; replace q6 := eq_true q6; obtain ⟨hy9_, hz9_⟩ := Kd.R_celln (⟨#[]⟩ : ByteArray) HO_0.out (x5_1 : Int) (od) (od); have HP9 := Kd.R_putg HO_0.out (x5_1 : Int) t117) | ((with_reducible refine gate_store (t := 9) (p := 16) rfl ?_); refine store_event (t := 9) (p := 16) (v := ?vo_w10) (w1 := (w8.setCell ⟨go6, (x5_1 : Int).toNat, none⟩ (.string t117))) ?hg ?ho ?hn ?hr ?_; (case ho => rfl); (case hg => rfl); (case hn => rfl); (case hr => first | (go_simp; done) | (go_simp; rfl)); intro w10 hw; have hg : w8.grownBy w10 (some go6) := (by rw [hw]; exact HP9.2); have hp_ : Kd.R Kd.string 9 w10 w0.heap.size (fun k_ => (P0_ k_ ∨ w.heap.size ≤ k_)) (.slice (some ⟨go6, 0, none⟩) x0_1.length co7) y118 := (by rw [hw, Ny118.out]; exact HP9.1); clear HP9; replace HB := Aside0.mk ((by rw [hw]; exact below_set (HB.out) GB6.out : Below w0.heap.size w0 w10)); replace HK := Aside0.mk (Kept.of_grown (S := (fun k_ => P0_ k_)) hg (by repeat (first | (with_reducible first | exact HK.out | apply Kept.alloc | apply Kept.drewN | apply Kept.drew) | exact HK.out)) (fun k_ e_ => (HO_0.out.1 k_ e_))); replace HO_0 := Aside0.mk (hp_); clear hg hw hp_))
     go_roundg k1
     case measure => have := HK1.out; omega
     case rel => exact ⟨(y118), (wrap64 (x1_1 + 1)), (wrap64 (x5_1 + 1)), (by first | rfl | (simp; done) | (simp [*]; done)), (by first | rfl | (simp; done) | (simp [*]; done)), H', ⟨by have := HK1.out; omega⟩, ⟨kr HO_0.out⟩, ⟨by repeat (first | (with_reducible first | exact HK.out | apply Kept.alloc | apply Kept.drewN | apply Kept.drew) | exact HK.out)⟩, ⟨tb HB⟩⟩
    ·rw [if_neg c5] at H
     exact absurd H (by simp)
   ·rw [if_neg c3] at H
    have c3b0 := decide_eq_false c3
    clear c3
    simp only [Option.some.injEq, Prod.mk.injEq] at H
    obtain ⟨rfl, rfl⟩ := H
    obtain ⟨Ao11, co11, eo11⟩ := Kd.R_slice HO_0.out
    subst eo11
    go_wp2
    go_ret
    exact ⟨er, kr HO_0.out, tb HB, by repeat (first | (with_reducible first | exact HK.out | apply Kept.alloc | apply Kept.drewN | apply Kept.drew) | exact HK.out)⟩
def laws_heldStringS.l0 : Nat → List ByteArray → Int → Int → Option (Int)
 | 0, _, _, _ => none
 | k + 1, x0, x1, x5 => if x5 < (x0.length : Int) then (if 0 ≤ x5 then ((laws_markText.f k x1).bind fun t120 => (if (rdOf ByteArray.empty x0 x5).toList = t120.toList then (laws_heldStringS.l0 k x0 (wrap64 (x1 + 1)) (wrap64 (x5 + 1))) else (some (-1)))) else (none)) else (some x1)
def laws_heldStringS.f (k : Nat) (l0 : List ByteArray) (a1 : Int) : Option (Int) := laws_heldStringS.l0 k l0 a1 0
theorem laws_heldStringS.mono_l : ∀ k, (∀ y0 y1 y2, LeO (laws_heldStringS.l0 k y0 y1 y2) (laws_heldStringS.l0 (k + 1) y0 y1 y2))
 | 0 => fun _ _ _ r h => by simp [laws_heldStringS.l0] at h
 | k + 1 => by
  have ih0 := laws_heldStringS.mono_l k
  ·intro y0 y1 y2
   unfold laws_heldStringS.l0
   repeat' first
   | (with_reducible exact ih0 _ _ _)
   | (with_reducible exact laws_markText.mono _ _)
   | (with_reducible exact LeO.refl _)
   | (with_reducible exact LeO.none _)
   | (with_reducible refine LeO.ite ?_ ?_)
   | (with_reducible refine LeO.bind ?_ (fun _ => ?_))
   | exact ih0 _ _ _
   | exact laws_markText.mono _ _
   | exact LeO.none _
   | refine LeO.ite ?_ ?_
   | refine LeO.bind ?_ (fun _ => ?_)
theorem laws_heldStringS.mono : ∀ a0 a1 k, LeO (laws_heldStringS.f k a0 a1) (laws_heldStringS.f (k + 1) a0 a1) := by
 intro a0 a1 k
 have ih0 := laws_heldStringS.mono_l k
 unfold laws_heldStringS.f
 repeat' first
   | (with_reducible exact ih0 _ _ _)
   | (with_reducible exact laws_markText.mono _ _)
   | (with_reducible exact LeO.refl _)
   | (with_reducible exact LeO.none _)
   | (with_reducible refine LeO.ite ?_ ?_)
   | (with_reducible refine LeO.bind ?_ (fun _ => ?_))
   | exact ih0 _ _ _
   | exact laws_markText.mono _ _
   | exact LeO.none _
   | refine LeO.ite ?_ ?_
   | refine LeO.bind ?_ (fun _ => ?_)
set_option maxHeartbeats 8000000 in
set_option maxRecDepth 100000 in
theorem laws_heldStringS.calls (k : Nat) (A0 : Option Addr) (c0 : Nat) (l0 : List ByteArray) (a1 : Int) (r : Int) (w : World) (hr0 : Kd.C Kd.string w A0 l0.length l0) (hc0 : l0.length ≤ c0) (h : laws_heldStringS.f k l0 a1 = some r) :
  Calls Tryd.prog 9 #[.slice A0 l0.length c0, .int .i64 a1] w fun e w' => e = .returned (.int .i64 r) ∧ Below w.heap.size w w' := by
 have HR0 := Aside0.mk hr0
 have HC0 := Aside0.mk hc0
 clear hr0 hc0
 have HB := Aside0.mk (Below.refl w.heap.size w)
 have H : (laws_heldStringS.l0 k l0 a1 0) = some r := h
 clear h
 have H' := Aside0.mk H
 clear H
 go_enter Tryd.func9, Tryd.ntmps9
 go_wp2
 go_loopg [1, 5] k (fun kq v1 v5 w' => ∃ (x1_1 : Int) (x5_1 : Int), v1 = .int .i64 x1_1 ∧ v5 = .int .i64 x5_1 ∧ Aside0 (laws_heldStringS.l0 kq l0 x1_1 x5_1 = some r) ∧ Aside0 (kq ≤ k) ∧ Aside0 (Below w.heap.size w w'))
 case atStart => exact ⟨(a1), (0), (by first | rfl | (simp; done) | (simp [*]; done)), (by first | rfl | (simp; done) | (simp [*]; done)), H', ⟨Nat.le_refl _⟩, ⟨tb HB⟩⟩
 case round =>
  clear H'
  try clear p2
  obtain ⟨x1_1, x5_1, rfl, rfl, HA, HK1, HB⟩ := hrel
  cases gk with
  | zero => exact absurd HA.out (by simp [laws_heldStringS.l0])
  | succ k1 =>
   have H := HA.out
   clear HA
   simp only [laws_heldStringS.l0] at H
   by_cases c3 : x5_1 < (l0.length : Int)
   ·rw [if_pos c3] at H
    have c3b0 := decide_eq_true c3
    clear c3
    by_cases c4 : 0 ≤ x5_1
    ·rw [if_pos c4] at H
     have c4b0 := decide_eq_true c4
     clear c4
     replace H := Option.bind_eq_some_iff.mp H
     obtain ⟨t120, A50, H⟩ := H
     replace H : (if (rdOf ByteArray.empty l0 x5_1).toList = t120.toList then (laws_heldStringS.l0 k1 l0 (wrap64 (x1_1 + 1)) (wrap64 (x5_1 + 1))) else (some (-1))) = some r := H
     have A5 := Aside0.mk A50
     clear A50
     by_cases c6 : (rdOf ByteArray.empty l0 x5_1).toList = t120.toList
     ·rw [if_pos c6] at H
      have c6b0 : ((rdOf ByteArray.empty l0 x5_1).toList == t120.toList) = true := beq_iff_eq.mpr c6
      have c6b1 : ((rdOf ByteArray.empty l0 x5_1).toList != t120.toList) = false := bne_eq_false_iff_eq.mpr c6
      clear c6
      have H' := Aside0.mk H
      clear H
      try go_wp2
      replace HB := Aside0.mk (below_drew1 HB.out)
      have p119 : 0 ≤ (x5_1 : Int) := od
      have q119 : x5_1 < (l0.length : Int) := od
      obtain ⟨ad119, e119, hx119_0⟩ := Kd.at_string HR0.out x5_1 p119 q119
      have hw119_0 := hx119_0
      cases e119
      replace hx119_0 := ox HB hx119_0
      replace p119 := eq_true p119
      replace q119 := eq_true q119
      refine start_ (n := 7) (S := fun w' => w'.cell? (ad119.add (x5_1).toNat) = some (.string (rdOf ByteArray.empty l0 x5_1))) (ds := []) #[false, false, false, false, false, false, false] (by kernel_rfl) rfl rfl (((HB.out.cell (World.block_lt_of_cell? w _ hw119_0)).trans hw119_0)) (fun hHeld => ?_)
      generalize wr.drew = w7 at HB hx119_0 hHeld ⊢
      refine pu 0 12 ?_
      refine pu 1 13 ?_
      refine pu 2 14 ?_
      refine pu 4 16 ?_
      refine take_ (i := 3) (N := some 15) (v := ?_) (a' := ?_) #[true, true, true, true, true, false, false] rfl rfl (by kernel_rfl) (fun _ _ _ h => h) (Or.inl ⟨by rfl, ?_⟩) hHeld ?_ ?_
      rotate_left
      ·intro w' s0
       go_simp
       with_reducible rfl
      rotate_left
      ·simp only [Act.put, sA, sB, sC, i64_w, i32_w]
       rfl
      refine one_ (i := 5) (N := some 17) #[true, true, true, true, true, true, false] rfl rfl (by kernel_rfl) (by decide) (fun K hK => ?_)
      refine gS Tryd.func22 #[.int .i64 x1_1] ?_
      with_reducible refine (laws_markText.calls k1 x1_1 t120 _ A5.out).mono ?_
      rintro e w8 ⟨rfl, hb⟩
      refine ⟨_, rfl, ?_⟩
      replace HB := bs HB hb
      (try clear hb)
      (try clear hb2)
      (try clear hk)
      (try clear hi)
      refine hK.out _ _ (((HB.out.cell (World.block_lt_of_cell? w _ hw119_0)).trans hw119_0)) (fun hHeld => ?_)
      clear hK K
      refine nm 17 ?_
      refine pu 6 18 ?_
      refine done_ (by kernel_rfl) ?_
      try go_wp2
      go_roundg k1
      case measure => have := HK1.out; omega
      case rel => exact ⟨(wrap64 (x1_1 + 1)), (wrap64 (x5_1 + 1)), (by first | rfl | (simp; done) | (simp [*]; done)), (by first | rfl | (simp; done) | (simp [*]; done)), H', ⟨by have := HK1.out; omega⟩, ⟨tb HB⟩⟩
     ·rw [if_neg c6] at H
      have c6b0 : ((rdOf ByteArray.empty l0 x5_1).toList == t120.toList) = false := beq_eq_false_iff_ne.mpr c6
      have c6b1 : ((rdOf ByteArray.empty l0 x5_1).toList != t120.toList) = true := bne_iff_ne.mpr c6
      obtain rfl := Option.some.inj H
      try go_wp2
      replace HB := Aside0.mk (below_drew1 HB.out)
      have p119 : 0 ≤ (x5_1 : Int) := od
      have q119 : x5_1 < (l0.length : Int) := od
      obtain ⟨ad119, e119, hx119_0⟩ := Kd.at_string HR0.out x5_1 p119 q119
      have hw119_0 := hx119_0
      cases e119
      replace hx119_0 := ox HB hx119_0
      replace p119 := eq_true p119
      replace q119 := eq_true q119
      refine start_ (n := 7) (S := fun w' => w'.cell? (ad119.add (x5_1).toNat) = some (.string (rdOf ByteArray.empty l0 x5_1))) (ds := []) #[false, false, false, false, false, false, false] (by kernel_rfl) rfl rfl (((HB.out.cell (World.block_lt_of_cell? w _ hw119_0)).trans hw119_0)) (fun hHeld => ?_)
      generalize wr.drew = w9 at HB hx119_0 hHeld ⊢
      refine pu 0 12 ?_
      refine pu 1 13 ?_
      refine pu 2 14 ?_
      refine pu 4 16 ?_
      refine take_ (i := 3) (N := some 15) (v := ?_) (a' := ?_) #[true, true, true, true, true, false, false] rfl rfl (by kernel_rfl) (fun _ _ _ h => h) (Or.inl ⟨by rfl, ?_⟩) hHeld ?_ ?_
      rotate_left
      ·intro w' s0
       go_simp
       with_reducible rfl
      rotate_left
      ·simp only [Act.put, sA, sB, sC, i64_w, i32_w]
       rfl
      refine one_ (i := 5) (N := some 17) #[true, true, true, true, true, true, false] rfl rfl (by kernel_rfl) (by decide) (fun K hK => ?_)
      refine gS Tryd.func22 #[.int .i64 x1_1] ?_
      with_reducible refine (laws_markText.calls k1 x1_1 t120 _ A5.out).mono ?_
      rintro e w10 ⟨rfl, hb⟩
      refine ⟨_, rfl, ?_⟩
      replace HB := bs HB hb
      (try clear hb)
      (try clear hb2)
      (try clear hk)
      (try clear hi)
      refine hK.out _ _ (((HB.out.cell (World.block_lt_of_cell? w _ hw119_0)).trans hw119_0)) (fun hHeld => ?_)
      clear hK K
      refine nm 17 ?_
      refine pu 6 18 ?_
      refine done_ (by kernel_rfl) ?_
      try go_wp2
      go_ret
      exact ⟨er, tb HB⟩
    ·rw [if_neg c4] at H
     exact absurd H (by simp)
   ·rw [if_neg c3] at H
    have c3b0 := decide_eq_false c3
    clear c3
    obtain rfl := Option.some.inj H
    go_wp2
    go_ret
    exact ⟨er, tb HB⟩
end Go.Proofs.YtopikhjcbcpiaaaDoor.Q
section
/- The law's own helpers for lists of texts, and both ways of cutting: plain facts. -/
namespace Go.Proofs.YtopikhjcbcpiaaaDoor.Q
open Go.RowKit Go.Proofs.YtopikhjcbcpiaaaDoorW.PrintWords Go.Proofs.YtopikhjcbcpiaaaDoorX Go.Proofs.YtopikhjcbcpiaaaDoor.S

theorem strOfNums_one (y : Int) : (strOfNums [y]).size = 1 := by
  unfold strOfNums
  simp [ByteArray.size]
theorem strOfNums_data1 (y : Int) : (strOfNums [y]).data.toList = [UInt8.ofNat y.toNat] := by
  unfold strOfNums
  simp
theorem ev_eqStringS (l : List ByteArray) (hl : l.length ≤ 4503599627370496) : Ev (fun k => laws_eqStringS.f k l l) true := by
  unfold laws_eqStringS.f
  refine ev_pos rfl ?_
  refine ev_down (g := fun k i => laws_eqStringS.l0 k l l i) (R := fun _ => true) (n := l.length) ?_ 0 (by omega)
  intro i hi h
  by_cases hlt : i < l.length
  · refine Ev.step (fun k => ?_) (h hlt)
    simp only [laws_eqStringS.l0]
    rw [if_pos (by omega), if_pos (by omega), if_pos (by omega), if_pos trivial, wrap_succ hlt (by omega)]
  · refine ev_succ (fun k => ?_)
    simp only [laws_eqStringS.l0]
    rw [if_neg (by omega)]
theorem ev_markText (m : Int) (h0 : 0 ≤ m) (h1 : m ≤ 4611686018427387904) : ∃ t, Ev (fun k => laws_markText.f k m) t := by
  have key : ∀ (n : Nat) (x : Int) (b : ByteArray), 0 ≤ x → x ≤ n → x + b.size ≤ 9223372036854775806 → ∃ t, Ev (fun k => laws_markText.l0 k x b) t := by
    intro n
    induction n with
    | zero =>
      intro x b hx hn hs
      refine ⟨(⟨#[109]⟩ : ByteArray) ++ b, ev_succ (fun k => ?_)⟩
      simp only [laws_markText.l0]
      rw [if_neg (by omega), if_pos (by omega)]
    | succ n ih =>
      intro x b hx hn hs
      by_cases hp : x > 0
      · have e1 : Int.tdiv x 10 = x / 10 := Int.tdiv_eq_ediv_of_nonneg hx
        have e2 : wrap64 (Int.tdiv x 10) = x / 10 := by rw [e1]; exact wrap_in (by omega) (by omega)
        have hz : ∀ y, (strOfNums [y] ++ b).size = 1 + b.size := fun y => by rw [ByteArray.size_append, strOfNums_one]
        obtain ⟨t, ht⟩ := ih (x / 10) (strOfNums [(wrap64 (48 + (Int.tmod x 10))) % 256] ++ b) (by omega) (by omega) (by rw [hz]; omega)
        refine ⟨t, Ev.step (fun k => ?_) ht⟩
        simp only [laws_markText.l0]
        rw [if_pos hp, Option.bind_some, if_pos (by rw [strOfNums_one]; omega), e2]
      · refine ⟨(⟨#[109]⟩ : ByteArray) ++ b, ev_succ (fun k => ?_)⟩
        simp only [laws_markText.l0]
        rw [if_neg hp, if_pos (by omega)]
  unfold laws_markText.f
  by_cases hm : m ≤ 0
  · exact ⟨_, ev_pos hm (Ev.now _)⟩
  · obtain ⟨t, ht⟩ := key m.toNat m ⟨#[]⟩ h0 (by omega) (by show m + 0 ≤ _; omega)
    exact ⟨t, ev_neg hm ht⟩
open Classical in
/-- What stands for the number m. -/
noncomputable def markT (m : Int) : ByteArray := if h : ∃ t, Ev (fun k => laws_markText.f k m) t then Classical.choose h else ByteArray.empty
theorem ev_markT (m : Int) (h0 : 0 ≤ m) (h1 : m ≤ 4611686018427387904) : Ev (fun k => laws_markText.f k m) (markT m) := by
  have h := ev_markText m h0 h1
  unfold markT
  rw [dif_pos h]
  exact Classical.choose_spec h
noncomputable def marks (m : Int) (i n : Nat) : List ByteArray := (List.range' i n).map fun j => markT (m + ((j : Nat) : Int))
theorem marks_length (m : Int) (i n : Nat) : (marks m i n).length = n := by simp [marks]
theorem ev_markStringS (l : List ByteArray) (m : Int) (h0 : 0 ≤ m) (h1 : m ≤ 4503599627370496) (hl : l.length ≤ 4503599627370496) : Ev (fun k => laws_markStringS.f k l m) (m + l.length, marks m 0 l.length) := by
  have key : ∀ (d i : Nat) (acc : List ByteArray), acc.length = l.length → i + d = l.length → Ev (fun k => laws_markStringS.l0 k acc (m + (i : Int)) (i : Int)) (m + l.length, acc.take i ++ marks m i d) := by
    intro d
    induction d with
    | zero =>
      intro i acc ha hi
      obtain rfl : i = l.length := by omega
      refine ev_succ (fun k => ?_)
      simp only [laws_markStringS.l0]
      rw [if_neg (by omega)]
      simp [marks, ← ha]
    | succ d ih =>
      intro i acc ha hi
      have e1 : wrap64 (m + (i : Int) + 1) = m + ((i + 1 : Nat) : Int) := by rw [wrap_in (by omega) (by omega)]; omega
      refine ev_to (Ev.step (f := fun k => (laws_markText.f k (m + (i : Int))).bind fun t => laws_markStringS.l0 k (acc.set i t) (m + ((i + 1 : Nat) : Int)) ((i + 1 : Nat) : Int)) (fun k => ?_) (Ev.bind (ev_markT (m + (i : Int)) (by omega) (by omega)) (ih (i + 1) (acc.set i (markT (m + (i : Int)))) (by simpa using ha) (by omega)))) ?_
      · simp only [laws_markStringS.l0]
        rw [if_pos (by omega)]
        congr 1
        funext t
        rw [if_pos (by omega), wrap_succ (show i < l.length by omega) (by omega), e1]
        rfl
      · have h2 : (acc.set i (markT (m + (i : Int)))).take (i + 1) = acc.take i ++ [markT (m + (i : Int))] := by
          rw [List.take_succ_eq_append_getElem (by simp; omega)]
          simp [List.take_set_of_le]
        rw [h2, List.append_assoc]
        simp [marks, List.range'_succ]
  have h := key l.length 0 l rfl (by omega)
  simpa [laws_markStringS.f] using h
theorem ev_heldStringS (m : Int) (n : Nat) (h0 : 0 ≤ m) (h1 : m ≤ 4503599627370496) (hn : n ≤ 4503599627370496) : Ev (fun k => laws_heldStringS.f k (marks m 0 n) m) (m + n) := by
  have key := ev_down (g := fun k i => laws_heldStringS.l0 k (marks m 0 n) (m + i) i) (R := fun _ => m + n) (n := n) (fun i hi h => ?_) 0 (by omega)
  · simpa [laws_heldStringS.f] using key
  · have hlen := marks_length m 0 n
    by_cases hlt : i < n
    · have e1 : wrap64 (m + (i : Int) + 1) = m + ((i + 1 : Nat) : Int) := by rw [wrap_in (by omega) (by omega)]; omega
      have e2 : rdOf ByteArray.empty (marks m 0 n) (i : Int) = markT (m + (i : Int)) := by
        simp [rdOf, marks, List.getD_eq_getElem?_getD, hlt]
      refine Ev.step (f := fun k => (laws_markText.f k (m + (i : Int))).bind fun t => if (rdOf ByteArray.empty (marks m 0 n) (i : Int)).toList = t.toList then laws_heldStringS.l0 k (marks m 0 n) (m + ((i + 1 : Nat) : Int)) ((i + 1 : Nat) : Int) else some (-1)) (fun k => ?_) (Ev.bind (ev_markT (m + (i : Int)) (by omega) (by omega)) (ev_pos (by rw [e2]) (h hlt)))
      simp only [laws_heldStringS.l0]
      rw [if_pos (by omega), if_pos (by omega), wrap_succ hlt (by omega), e1]
    · obtain rfl : i = n := by omega
      refine ev_succ (fun k => ?_)
      simp only [laws_heldStringS.l0]
      rw [if_neg (by omega)]

def bytesB (l : List UInt8) : ByteArray := ⟨l.toArray⟩
theorem bytesB_data (b : ByteArray) : bytesB b.data.toList = b := by apply ByteArray.ext; simp [bytesB]
/-- The pieces of s between the bytes a. -/
def pieces (s : ByteArray) (a : Int) : List ByteArray := (cuts (UInt8.ofNat a.toNat) [] s.data.toList).map bytesB
theorem impl_split_eq (s : ByteArray) (a : Int) : Lib.splitB (strOfNums [a]) 0 (Lib.countB s (strOfNums [a])) s = pieces s a := by
  have h := Lib.splitB_data (strOfNums [a]) 0 (Lib.countB s (strOfNums [a])) s
  rw [strOfNums_data1] at h
  have hc : Lib.countB s (strOfNums [a]) = Lib.count s.data.toList [UInt8.ofNat a.toNat] := by
    rw [← strOfNums_data1]
  rw [hc, split_cuts _ _ _ (Nat.le_refl _)] at h
  rw [pieces, ← h, ← hc, List.map_map]
  conv => lhs; rw [← List.map_id (Lib.splitB _ _ _ _)]
  apply List.map_congr_left
  intro x _
  exact (bytesB_data x).symm
theorem ev_impl_Split (s : ByteArray) (a : Int) (hs : s.size ≤ 1048576) : impl_Split.f s a = some (pieces s a) := by
  unfold impl_Split.f
  rw [if_pos (by omega), impl_split_eq]
theorem cuts_length (c : UInt8) : ∀ (l a : List UInt8), (cuts c a l).length ≤ l.length + 1
  | [], _ => by simp [cuts]
  | b :: l, a => by
    unfold cuts
    split
    · have := cuts_length c l []; simp only [List.length_cons]; omega
    · have := cuts_length c l (a ++ [b]); simp only [List.length_cons]; omega
theorem pieces_length (s : ByteArray) (a : Int) : (pieces s a).length ≤ s.size + 1 := by
  have := cuts_length (UInt8.ofNat a.toNat) s.data.toList []
  rw [data_length] at this
  simpa [pieces] using this
theorem extract_bytesB (s : ByteArray) (a b : Nat) : s.extract a b = bytesB ((s.data.toList.drop a).take (b - a)) := by
  rw [← Lib.extract_data, bytesB_data]
theorem ev_spec_Split (s : ByteArray) (a : Int) (h0 : 0 ≤ a) (h1 : a ≤ 255) (hs : s.size ≤ 1048576) : Ev (fun k => spec_Split.f k s a) (pieces s a) := by
  have hl := data_length s
  have key : ∀ (d i f : Nat) (out : List ByteArray), f ≤ i → out.length ≤ i → i + d = s.size →
      Ev (fun k => spec_Split.l0 k s a out (f : Int) (i : Int)) (out ++ (cuts (UInt8.ofNat a.toNat) ((s.data.toList.drop f).take (i - f)) (s.data.toList.drop i)).map bytesB) := by
    intro d
    induction d with
    | zero =>
      intro i f out hf ho hi
      have hi' : i = s.size := by omega
      have e0 : s.data.toList.drop i = [] := List.drop_eq_nil_of_le (by omega)
      have e1 : wrap64 ((i : Int) + 1) = ((i + 1 : Nat) : Int) := by rw [wrap_in (by omega) (by omega)]; omega
      refine Ev.step (f := fun k => spec_Split.l0 k s a (out ++ [s.extract f i]) ((i + 1 : Nat) : Int) ((i + 1 : Nat) : Int)) (fun k => ?_) (ev_succ (fun k => ?_))
      · simp only [spec_Split.l0]
        rw [if_pos (by omega), if_pos (by omega), if_pos (by omega), if_pos (by omega), if_pos (by omega), e1]
        rfl
      · simp only [spec_Split.l0]
        rw [if_neg (by omega), e0, extract_bytesB]
        rfl
    | succ d ih =>
      intro i f out hf ho hi
      have hlt : i < s.data.toList.length := by omega
      have e1 : wrap64 ((i : Int) + 1) = ((i + 1 : Nat) : Int) := by rw [wrap_in (by omega) (by omega)]; omega
      have ed : s.data.toList.drop i = s.data.toList[i] :: s.data.toList.drop (i + 1) := List.drop_eq_getElem_cons hlt
      have eb : bt s (i : Int) = (s.data.toList[i].toNat : Int) := by
        unfold bt
        rw [dif_pos (by simp; omega)]
        simp
        rfl
      by_cases hc : bt s (i : Int) = a
      · have hcc : s.data.toList[i] = UInt8.ofNat a.toNat := by
          rw [← hc, eb, Int.toNat_natCast, UInt8.ofNat_toNat]
        have h2 := ih (i + 1) (i + 1) (out ++ [s.extract f i]) (Nat.le_refl _) (by simp; omega) (by omega)
        refine ev_to (Ev.step (fun k => ?_) h2) ?_
        · simp only [spec_Split.l0]
          rw [if_pos (by omega), if_neg (by omega), if_pos (by omega), if_pos (by omega), if_pos hc, if_pos (by omega), if_pos (by omega), if_pos (by omega), e1]
          rfl
        · rw [ed, cuts, if_pos hcc, Nat.sub_self, List.take_zero, List.map_cons, extract_bytesB, List.append_assoc]
          rfl
      · have hcc : ¬ s.data.toList[i] = UInt8.ofNat a.toNat := by
          intro e
          apply hc
          rw [eb, e]
          simp
          omega
        have h2 := ih (i + 1) f out (by omega) (by omega) (by omega)
        refine ev_to (Ev.step (fun k => ?_) h2) ?_
        · simp only [spec_Split.l0]
          rw [if_pos (by omega), if_neg (by omega), if_pos (by omega), if_pos (by omega), if_neg hc, e1]
        · rw [ed, cuts, if_neg hcc]
          have et : (s.data.toList.drop f).take (i + 1 - f) = (s.data.toList.drop f).take (i - f) ++ [s.data.toList[i]] := by
            rw [show i + 1 - f = (i - f) + 1 by omega, List.take_succ_eq_append_getElem (by simp; omega)]
            congr 2
            simp
            congr 1
            omega
          rw [et]
  have h := key s.size 0 0 [] (Nat.le_refl _) (Nat.le_refl _) (by omega)
  simpa [spec_Split.f, pieces] using h
end Go.Proofs.YtopikhjcbcpiaaaDoor.Q
end
section
namespace Go.Proofs.YtopikhjcbcpiaaaDoor.Q
open Go.RowKit Go.Proofs.YtopikhjcbcpiaaaDoorW.PrintWords Go.Proofs.YtopikhjcbcpiaaaDoorX
theorem and255 (n : Int) : Go.bits .and .i64 n 255 = n % 256 := by
  have h255 : (BitVec.ofInt 64 255).toNat = 2 ^ 8 - 1 := by decide
  have key : (BitVec.ofInt 64 n &&& BitVec.ofInt 64 255).toNat = (n % ((2 ^ 64 : Nat) : Int)).toNat % 2 ^ 8 := by
    rw [BitVec.toNat_and, BitVec.toNat_ofInt, h255, Nat.and_two_pow_sub_one_eq_mod]
  show IntKind.i64.wrap ((BitVec.ofInt 64 n &&& BitVec.ofInt 64 255).toNat : Nat) = n % 256
  rw [key, IntKind.wrap_i64]
  omega
theorem byte_ok (s : List Int) (p q : Int) (h : 0 ≤ p) (hs : s.length ≤ 1048576) : ∃ v p' q', spec_l1Byte.f s p q = some (v, p', q') ∧ 0 ≤ v ∧ v < 256 ∧ 0 ≤ p' := by
  unfold spec_l1Byte.f
  by_cases e : p < (s.length : Int)
  · rw [if_pos e, if_pos h]
    refine ⟨_, _, _, rfl, ?_, ?_, ?_⟩
    · rw [and255]; omega
    · rw [and255]; omega
    · rw [wrap_in (by omega) (by omega)]; omega
  · rw [if_neg e]
    refine ⟨_, _, _, rfl, ?_, ?_, h⟩
    · rw [and255]; omega
    · rw [and255]; omega
theorem below_ok (s : List Int) (p q a : Int) (h : 0 ≤ p) (hs : s.length ≤ 1048576) (h0 : 0 < a) (h1 : a ≤ 256) : ∃ v p' q', spec_l1Below.f s p q a = some (v, p', q') ∧ 0 ≤ v ∧ v < a ∧ 0 ≤ p' := by
  obtain ⟨v, p', q', e, v0, v1, hp⟩ := byte_ok s p q h hs
  unfold spec_l1Below.f
  rw [if_neg (by omega), if_pos h1, e]
  refine ⟨Int.tmod v a, p', q', ?_, Int.tmod_nonneg _ v0, Int.tmod_lt_of_pos _ h0, hp⟩
  simp only [Option.bind_some]
  rw [if_neg (by omega)]
theorem ev_new (l : List Int) (hl : l.length ≤ 1048576) : ∃ q, Ev (fun k => spec_l1New.f k l) (l, 0, q) := by
  have key : ∀ (d i : Nat) (x : Int), i + d = l.length → ∃ q, Ev (fun k => spec_l1New.l0 k l x (i : Int)) (l, 0, q) := by
    intro d
    induction d with
    | zero =>
      intro i x hi
      refine ⟨x, ev_succ (fun k => ?_)⟩
      simp only [spec_l1New.l0]
      rw [if_neg (by omega)]
    | succ d ih =>
      intro i x hi
      by_cases h4 : (i : Int) < 4000
      · obtain ⟨q, hq⟩ := ih (i + 1) (Go.bits .and .i64 (wrap64 ((wrap64 ((wrap64 (x * 131)) + (wrap64 (rd l (i : Int))))) + 7)) 1073741823) (by omega)
        refine ⟨q, Ev.step (fun k => ?_) hq⟩
        simp only [spec_l1New.l0]
        rw [if_pos (by omega), if_pos h4, if_pos (by omega), wrap_succ (show i < l.length by omega) (by omega)]
      · refine ⟨x, ev_succ (fun k => ?_)⟩
        simp only [spec_l1New.l0]
        rw [if_pos (by omega), if_neg h4]
  obtain ⟨q, hq⟩ := key l.length 0 (wrap64 (27323 + (l.length : Int))) (by omega)
  exact ⟨q, hq⟩
end Go.Proofs.YtopikhjcbcpiaaaDoor.Q
end
section
/- Numbers as texts: both sides write the same digits. -/
namespace Go.Proofs.YtopikhjcbcpiaaaDoor.Q
open Go.RowKit Go.Proofs.YtopikhjcbcpiaaaDoorW.PrintWords Go.Proofs.YtopikhjcbcpiaaaDoorX

def bytesT (l : List UInt8) : ByteArray := ⟨l.toArray⟩
theorem bytesT_append (a b : List UInt8) : bytesT a ++ bytesT b = bytesT (a ++ b) := by
  apply ByteArray.ext
  rw [ByteArray.data_append]
  simp [bytesT]
theorem bytesT_size (a : List UInt8) : (bytesT a).size = a.length := by simp [bytesT, ByteArray.size]
def dig (d : Nat) : UInt8 := UInt8.ofNat (48 + d)
/-- The digits of a number. -/
def natD (m : Nat) : List UInt8 := if m < 10 then [dig m] else natD (m / 10) ++ [dig (m % 10)]
termination_by m
theorem natD_small {m : Nat} (h : m < 10) : natD m = [dig m] := by rw [natD, if_pos h]
theorem natD_big {m : Nat} (h : ¬ m < 10) : natD m = natD (m / 10) ++ [dig (m % 10)] := by rw [natD, if_neg h]
theorem natD_len : ∀ (k m : Nat), m < 10 ^ (k + 1) → (natD m).length ≤ k + 1 := by
  intro k
  induction k with
  | zero => intro m h; rw [natD_small (by simpa using h)]; simp
  | succ k ih =>
    intro m h
    by_cases hs : m < 10
    · rw [natD_small hs]; simp
    · rw [natD_big hs]
      have := ih (m / 10) (by rw [Nat.pow_succ] at h; omega)
      simp; omega
theorem natD_19 {m : Nat} (h : m ≤ 9223372036854775808) : (natD m).length ≤ 19 := natD_len 18 m (by omega)
def textD (n : Int) : List UInt8 := if n < 0 then 45 :: natD n.natAbs else natD n.natAbs
theorem enc_dig : ∀ d : Nat, d < 10 → Utf8.encode (48 + (d : Int)) = bytesT [dig d] := by decide
theorem nums_dig : ∀ d : Nat, d < 10 → strOfNums [(wrap64 (48 + (d : Int))) % 256] = bytesT [dig d] := by
  intro d hd
  have e : wrap64 (48 + (d : Int)) % 256 = ((48 + d : Nat) : Int) := by unfold wrap64; omega
  rw [e]
  simp only [strOfNums, bytesT, dig, List.map_cons, List.map_nil, Int.toNat_natCast]
theorem tdivP (m : Nat) : Int.tdiv (m : Int) 10 = ((m / 10 : Nat) : Int) := rfl
theorem tmodP (m : Nat) : Int.tmod (m : Int) 10 = ((m % 10 : Nat) : Int) := rfl
theorem tdivN (m : Nat) : Int.tdiv (-(m : Int)) 10 = -((m / 10 : Nat) : Int) := by rw [Int.neg_tdiv, tdivP]
theorem tmodN (m : Nat) : Int.tmod (-(m : Int)) 10 = -((m % 10 : Nat) : Int) := by rw [Int.neg_tmod, tmodP]
theorem tdiv_lt {n : Int} {m : Nat} (h : n.natAbs = m) (hn : n < 0) : Int.tdiv n 10 = -((m / 10 : Nat) : Int) := by rw [show n = -(m : Int) by omega, tdivN]
theorem tmod_lt {n : Int} {m : Nat} (h : n.natAbs = m) (hn : n < 0) : Int.tmod n 10 = -((m % 10 : Nat) : Int) := by rw [show n = -(m : Int) by omega, tmodN]
theorem tdiv_ge {n : Int} {m : Nat} (h : n.natAbs = m) (hn : ¬ n < 0) : Int.tdiv n 10 = ((m / 10 : Nat) : Int) := by rw [show n = (m : Int) by omega, tdivP]
theorem tmod_ge {n : Int} {m : Nat} (h : n.natAbs = m) (hn : ¬ n < 0) : Int.tmod n 10 = ((m % 10 : Nat) : Int) := by rw [show n = (m : Int) by omega, tmodP]
theorem ev_impl_Digits : ∀ (m : Nat) (n : Int), n.natAbs = m → m ≤ 9223372036854775808 → n ≤ 9223372036854775807 → Ev (fun k => impl_Digits.f k n) (bytesT (textD n)) := by
  intro m
  induction m using Nat.strongRecOn with
  | _ m ih =>
  intro n hn hm hmax
  by_cases c1 : n < 0
  · by_cases c2 : n > -10
    · have hw : wrap64 (-n) = -n := wrap_in (by omega) (by omega)
      have h0 : Ev (fun k => impl_Digits.f k (-n)) (bytesT [dig m]) := by
        refine ev_succ (fun k => ?_)
        simp only [impl_Digits.f]
        rw [if_neg (by omega), if_pos (by omega), show (-n : Int) = (m : Int) by omega, enc_dig m (by omega)]
      refine Ev.step (f := fun k => (impl_Digits.f k (-n)).bind fun t => (if 1 + t.size ≤ 9223372036854775807 then (some ((⟨#[45]⟩ : ByteArray) ++ t)) else none)) (fun k => ?_) (Ev.bind h0 (ev_to (ev_pos ?_ (Ev.now _)) ?_))
      · simp only [impl_Digits.f]; rw [if_pos c1, if_pos c2, hw]
      · rw [bytesT_size]; simp
      · show bytesT [45] ++ bytesT [dig m] = _
        rw [bytesT_append, textD, if_pos c1, hn, natD_small (by omega)]; rfl
    · have hq := tdiv_lt hn c1
      have hr := tmod_lt hn c1
      have h1 := ih (m / 10) (by omega) (Int.tdiv n 10) (by omega) (by omega) (by omega)
      have h2 := ih (m % 10) (by omega) (-(Int.tmod n 10)) (by omega) (by omega) (by omega)
      have w1 : wrap64 (Int.tdiv n 10) = Int.tdiv n 10 := wrap_in (by omega) (by omega)
      have w2 : wrap64 (-(Int.tmod n 10)) = -(Int.tmod n 10) := wrap_in (by omega) (by omega)
      have e1 : textD (Int.tdiv n 10) = 45 :: natD (m / 10) := by rw [textD, if_pos (by omega)]; congr 2; omega
      have e2 : textD (-(Int.tmod n 10)) = [dig (m % 10)] := by rw [textD, if_neg (by omega), natD_small (by omega)]; congr 2; omega
      rw [e1] at h1
      rw [e2] at h2
      have l1 := natD_19 (m := m / 10) (by omega)
      refine Ev.step (f := fun k => (impl_Digits.f k (Int.tdiv n 10)).bind fun a => ((impl_Digits.f k (-(Int.tmod n 10))).bind fun b => (if a.size + b.size ≤ 9223372036854775807 then (some (a ++ b)) else none))) (fun k => ?_) (Ev.bind h1 (Ev.bind h2 (ev_to (ev_pos ?_ (Ev.now _)) ?_)))
      · simp only [impl_Digits.f]; rw [if_pos c1, if_neg c2, w1, w2]
      · rw [bytesT_size, bytesT_size]; simp; omega
      · rw [bytesT_append, textD, if_pos c1, hn, natD_big (m := m) (by omega)]; simp
  · by_cases c2 : n < 10
    · refine ev_succ (fun k => ?_)
      simp only [impl_Digits.f]
      rw [if_neg c1, if_pos c2, show n = (m : Int) by omega, enc_dig m (by omega), textD, if_neg (by omega)]
      congr 2
      rw [natD_small (by omega)]; simp
    · have hq := tdiv_ge hn c1
      have hr : n % 10 = ((m % 10 : Nat) : Int) := by omega
      have h1 := ih (m / 10) (by omega) (Int.tdiv n 10) (by omega) (by omega) (by omega)
      have w1 : wrap64 (Int.tdiv n 10) = Int.tdiv n 10 := wrap_in (by omega) (by omega)
      have e1 : textD (Int.tdiv n 10) = natD (m / 10) := by rw [textD, if_neg (by omega)]; congr 1; omega
      rw [e1] at h1
      have l1 := natD_19 (m := m / 10) (by omega)
      have ee := enc_dig (m % 10) (by omega)
      refine Ev.step (f := fun k => (impl_Digits.f k (Int.tdiv n 10)).bind fun a => (if a.size + (bytesT [dig (m % 10)]).size ≤ 9223372036854775807 then (some (a ++ bytesT [dig (m % 10)])) else none)) (fun k => ?_) (Ev.bind h1 (ev_to (ev_pos ?_ (Ev.now _)) ?_))
      · simp only [impl_Digits.f]; rw [if_neg c1, if_neg c2, w1, hr, ee]
      · rw [bytesT_size, bytesT_size]; simp; omega
      · rw [bytesT_append, textD, if_neg c1, hn, natD_big (m := m) (by omega)]
theorem ev_spec_loop (b : Bool) : ∀ (m : Nat) (n : Int) (out : List UInt8), n.natAbs = m → m ≤ 9223372036854775808 → out.length + (if m = 0 then 0 else (natD m).length) ≤ 100 →
    Ev (fun k => spec_Digits.l0 k n b (bytesT out)) (bytesT ((if b = true then [45] else []) ++ ((if m = 0 then [] else natD m) ++ out))) := by
  intro m
  induction m using Nat.strongRecOn with
  | _ m ih =>
  intro n out hn hm hl
  by_cases c0 : n = 0
  · have hm0 : m = 0 := by omega
    cases b with
    | true =>
      refine ev_succ (fun k => ?_)
      simp only [spec_Digits.l0]
      rw [if_pos c0, if_pos trivial, if_pos (by rw [bytesT_size]; omega)]
      show some (bytesT [45] ++ bytesT out) = _
      rw [bytesT_append]; simp [hm0]
    | false =>
      refine ev_succ (fun k => ?_)
      simp only [spec_Digits.l0]
      rw [if_pos c0, if_neg (by simp)]
      simp [hm0]
  · have hm0 : ¬ m = 0 := by omega
    rw [if_neg hm0] at hl
    have hq : (Int.tdiv n 10).natAbs = m / 10 ∧ -9223372036854775808 ≤ Int.tdiv n 10 ∧ Int.tdiv n 10 ≤ 9223372036854775807 := by
      by_cases c1 : n < 0
      · rw [tdiv_lt hn c1]; omega
      · rw [tdiv_ge hn c1]; omega
    have hnd := nums_dig (m % 10) (by omega)
    have hlen2 : out.length + 1 + (natD (m / 10)).length ≤ 100 ∨ m < 10 := by
      by_cases hs : m < 10
      · exact .inr hs
      · left; rw [natD_big hs] at hl; simp at hl; omega
    have h1 := ih (m / 10) (by omega) (Int.tdiv n 10) (dig (m % 10) :: out) hq.1 (by omega) (by
      by_cases h : m < 10
      · have h2 : m / 10 = 0 := by omega
        have h3 : (natD m).length = 1 := by rw [natD_small h]; rfl
        rw [if_pos h2]; simp; omega
      · rw [if_neg (by omega)]
        rcases hlen2 with h4 | h4
        · simp; omega
        · exact absurd h4 h)
    have w1 : wrap64 (Int.tdiv n 10) = Int.tdiv n 10 := wrap_in hq.2.1 hq.2.2
    refine ev_to (Ev.step (fun k => ?_) h1) ?_
    · have hsz : (bytesT [dig (m % 10)]).size + (bytesT out).size ≤ 9223372036854775807 := by rw [bytesT_size, bytesT_size]; simp; omega
      by_cases cn : Int.tmod n 10 < 0
      · have hr : -(Int.tmod n 10) = ((m % 10 : Nat) : Int) := by
          by_cases c1 : n < 0
          · rw [tmod_lt hn c1]; omega
          · rw [tmod_ge hn c1] at cn; omega
        simp only [spec_Digits.l0, Option.bind_some]
        rw [if_neg c0, if_pos cn, hr, wrap_in (x := ((m % 10 : Nat) : Int)) (by omega) (by omega), hnd, if_pos hsz, w1, bytesT_append]
        rfl
      · have hr : Int.tmod n 10 = ((m % 10 : Nat) : Int) := by
          by_cases c1 : n < 0
          · rw [tmod_lt hn c1] at cn ⊢; omega
          · rw [tmod_ge hn c1]
        simp only [spec_Digits.l0, Option.bind_some]
        rw [if_neg c0, if_neg cn, hr, hnd, if_pos hsz, w1, bytesT_append]
        rfl
    · congr 2
      rw [if_neg hm0]
      by_cases hs : m < 10
      · have : m / 10 = 0 := by omega
        rw [if_pos this, natD_small hs, show m % 10 = m by omega]; simp
      · rw [if_neg (by omega), natD_big hs]; simp
theorem ev_spec_Digits (n : Int) (h0 : -9223372036854775808 ≤ n) (h1 : n ≤ 9223372036854775807) : Ev (fun k => spec_Digits.f k n) (bytesT (textD n)) := by
  unfold spec_Digits.f
  by_cases c0 : n = 0
  · subst c0
    refine ev_pos rfl (ev_to (Ev.now _) ?_)
    rw [textD, if_neg (by omega), natD_small (by decide)]
    rfl
  · refine ev_neg c0 (ev_to (ev_spec_loop (decide (n < 0)) n.natAbs n [] rfl (by omega) (by have := natD_19 (m := n.natAbs) (by omega); rw [if_neg (by omega)]; simp; omega)) ?_)
    have hz : ¬ n.natAbs = 0 := by omega
    rw [if_neg hz, textD]
    by_cases c1 : n < 0
    · simp [c1]
    · simp [c1]
end Go.Proofs.YtopikhjcbcpiaaaDoor.Q
end
section
/- Texts of numbers: for up to 1048576 numbers both sides write the same text, and the list is as it was. -/
namespace Go.Proofs.YtopikhjcbcpiaaaDoor.Q
open Go.RowKit Go.Proofs.YtopikhjcbcpiaaaDoorW.PrintWords Go.Proofs.YtopikhjcbcpiaaaDoorX
theorem join_snoc (xs : List (List UInt8)) (t sep : List UInt8) (h : xs ≠ []) : Lib.join (xs ++ [t]) sep = Lib.join xs sep ++ sep ++ t := by
  cases xs with
  | nil => exact absurd rfl h
  | cons x r =>
    rw [List.cons_append, Lib.join_cons, Lib.join_cons]
    simp [Lib.joinTail]
theorem join_len (xs : List (List UInt8)) (h : ∀ x ∈ xs, x.length ≤ 20) : (Lib.join xs [44]).length ≤ 21 * xs.length := by
  cases xs with
  | nil => simp [Lib.join_nil]
  | cons x r =>
    rw [Lib.join_cons, List.length_append]
    have hr : ∀ y ∈ r, y.length ≤ 20 := fun y hy => h y (List.mem_cons_of_mem _ hy)
    have hx := h x List.mem_cons_self
    have key : ∀ r : List (List UInt8), (∀ y ∈ r, y.length ≤ 20) → (Lib.joinTail [44] r).length ≤ 21 * r.length := by
      intro r
      induction r with
      | nil => intro _; simp [Lib.joinTail]
      | cons y r ih =>
        intro h2
        have h3 := ih (fun z hz => h2 z (List.mem_cons_of_mem _ hz))
        have h4 := h2 y List.mem_cons_self
        simp [Lib.joinTail] at h3 ⊢
        omega
    have := key r hr
    simp; omega
theorem textD_len {n : Int} (h0 : -9223372036854775808 ≤ n) (h1 : n ≤ 9223372036854775807) : (textD n).length ≤ 20 := by
  have := natD_19 (m := n.natAbs) (by omega)
  unfold textD
  by_cases c : n < 0
  · rw [if_pos c]; simp; omega
  · rw [if_neg c]; omega
def inI (l : List Int) : Prop := ∀ x ∈ l, -9223372036854775808 ≤ x ∧ x ≤ 9223372036854775807
theorem rdI {l : List Int} {i : Nat} (h : i < l.length) : rd l (i : Int) = l[i] := by simp [rd, List.getD_eq_getElem?_getD, List.getElem?_eq_getElem h]
theorem take_map_succ {l : List Int} {i : Nat} {β : Type} (f : Int → β) (h : i < l.length) : (l.take (i + 1)).map f = (l.take i).map f ++ [f l[i]] := by
  rw [List.take_succ_eq_append_getElem h, List.map_append]; rfl
theorem ev_impl_NumsText (l : List Int) (hl : l.length ≤ 1048576) (hb : inI l) : Ev (fun k => impl_NumsText.f k l) (bytesT (Lib.join (l.map textD) [44])) := by
  have hj : (Lib.join (l.map textD) [44]).length ≤ 140737488355328 := by
    have := join_len (l.map textD) (fun x hx => by obtain ⟨n, hn, rfl⟩ := List.mem_map.1 hx; exact textD_len (hb n hn).1 (hb n hn).2)
    simp at this; omega
  have key : ∀ (d i : Nat), i + d = l.length → Ev (fun k => impl_NumsText.l0 k ((l.take i).map fun n => bytesT (textD n)) l (l.length : Int) (i : Int)) (bytesT (Lib.join (l.map textD) [44])) := by
    intro d
    induction d with
    | zero =>
      intro i hi
      obtain rfl : i = l.length := by omega
      refine ev_succ (fun k => ?_)
      simp only [impl_NumsText.l0]
      rw [if_neg (by omega), List.take_length]
      have e : ((l.map fun n => bytesT (textD n)).map (·.data.toList)) = l.map textD := by
        rw [List.map_map]; congr 1
      simp only [strings_Join.f, e]
      rw [if_pos ⟨by simp; omega, hj⟩]
      rfl
    | succ d ih =>
      intro i hi
      have hlt : i < l.length := by omega
      have hm := hb _ (List.getElem_mem hlt)
      have h1 := ev_impl_Digits l[i].natAbs l[i] rfl (by omega) hm.2
      have h2 := ih (i + 1) (by omega)
      rw [take_map_succ _ hlt] at h2
      refine Ev.step (f := fun k => (impl_Digits.f k l[i]).bind fun t => impl_NumsText.l0 k ((l.take i).map (fun n => bytesT (textD n)) ++ [t]) l (l.length : Int) ((i + 1 : Nat) : Int)) (fun k => ?_) (Ev.bind h1 h2)
      simp only [impl_NumsText.l0, rdI hlt]
      rw [if_pos (by omega), if_pos (by omega), if_pos (by omega), wrap_succ hlt (by omega)]
      congr 1; funext t; rw [if_pos (by simp; omega)]
  exact key l.length 0 (by omega)
theorem ev_spec_NumsText (l : List Int) (hl : l.length ≤ 1048576) (hb : inI l) : Ev (fun k => spec_NumsText.f k l) (bytesT (Lib.join (l.map textD) [44])) := by
  have bd : ∀ i, (Lib.join ((l.take i).map textD) [44]).length ≤ 22020096 := fun i => by
    have := join_len ((l.take i).map textD) (fun x hx => by obtain ⟨n, hn, rfl⟩ := List.mem_map.1 hx; exact textD_len (hb n (List.mem_of_mem_take hn)).1 (hb n (List.mem_of_mem_take hn)).2)
    rw [List.length_map, List.length_take] at this; omega
  have key : ∀ (d i : Nat), i + d = l.length → Ev (fun k => spec_NumsText.l0 k l (bytesT (Lib.join ((l.take i).map textD) [44])) (i : Int)) (bytesT (Lib.join (l.map textD) [44])) := by
    intro d
    induction d with
    | zero =>
      intro i hi
      obtain rfl : i = l.length := by omega
      refine ev_succ (fun k => ?_)
      simp only [spec_NumsText.l0]
      rw [if_neg (by omega), List.take_length]
    | succ d ih =>
      intro i hi
      have hlt : i < l.length := by omega
      have hm := hb _ (List.getElem_mem hlt)
      have h1 := ev_spec_Digits l[i] hm.1 hm.2
      have h2 := ih (i + 1) (by omega)
      have hb1 := bd i
      have ht := textD_len hm.1 hm.2
      rw [take_map_succ _ hlt] at h2
      by_cases h0 : i = 0
      · subst h0
        simp only [List.take_zero, List.map_nil, List.nil_append] at h2 ⊢
        rw [Lib.join_one] at h2
        have ha : ∀ t : ByteArray, bytesT (Lib.join [] [44]) ++ t = t := fun t => by apply ByteArray.ext; rw [ByteArray.data_append]; simp [bytesT, Lib.join_nil]
        refine Ev.step (f := fun k => (spec_Digits.f k l[0]).bind fun t => if (bytesT (Lib.join [] [44])).size + t.size ≤ 9223372036854775807 then spec_NumsText.l0 k l t ((0 + 1 : Nat) : Int) else none) (fun k => ?_) (Ev.bind h1 (ev_pos ?_ h2))
        · simp only [spec_NumsText.l0, rdI hlt]
          rw [if_pos (by omega), if_neg (by omega), if_pos (by omega), wrap_succ hlt (by omega)]
          congr 1
          try (funext t; rw [ha])
        · rw [bytesT_size, bytesT_size]; simp [Lib.join_nil]
          try omega
      · rw [join_snoc _ _ _ (by intro hc; have := congrArg List.length hc; rw [List.length_map, List.length_take, List.length_nil] at this; omega)] at h2
        refine Ev.step (f := fun k => (spec_Digits.f k l[i]).bind fun t => if (bytesT (Lib.join ((l.take i).map textD) [44]) ++ (⟨#[44]⟩ : ByteArray)).size + t.size ≤ 9223372036854775807 then spec_NumsText.l0 k l ((bytesT (Lib.join ((l.take i).map textD) [44]) ++ (⟨#[44]⟩ : ByteArray)) ++ t) ((i + 1 : Nat) : Int) else none) (fun k => ?_) (Ev.bind h1 (ev_pos ?_ ?_))
        · simp only [spec_NumsText.l0, rdI hlt]
          rw [if_pos (by omega), if_pos (by omega), if_pos (by rw [bytesT_size]; omega), if_pos (by omega), wrap_succ hlt (by omega)]
        · rw [ByteArray.size_append, bytesT_size, bytesT_size]
          show _ + 1 + _ ≤ _
          omega
        · show Ev (fun k => spec_NumsText.l0 k l ((bytesT (Lib.join ((l.take i).map textD) [44]) ++ bytesT [44]) ++ bytesT (textD l[i])) ((i + 1 : Nat) : Int)) _
          rw [bytesT_append, bytesT_append]
          exact h2
  exact key l.length 0 (by omega)
end Go.Proofs.YtopikhjcbcpiaaaDoor.Q
end
