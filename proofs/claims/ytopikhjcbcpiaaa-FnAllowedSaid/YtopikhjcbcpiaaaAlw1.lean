/- Part 1 of the steps by which the law is shown: what each function of the program, of the reference and of the law computes. No condition. -/
import Derived.Test.YtopikhjcbcpiaaaProg
import Derived.Test.YtopikhjcbcpiaaaAlw0
section
namespace Go.Proofs.Ytopikhjcbcpiaaa.Q
open Go.RowKit Go.Proofs.YtopikhjcbcpiaaaW.PrintWords Go.Proofs.YtopikhjcbcpiaaaW.PrintLast Go.Proofs.YtopikhjcbcpiaaaW.PrintMore
attribute [local go_sem] max2_int min2_int max_two min_two max_three min_three max_four min_four   -- for this text's walks alone
set_option linter.unusedVariables false
set_option linter.unusedSimpArgs false
def errW : Option Int → Value
  | none => .nilIface
  | some c => .iface 0 (.int .i64 c)
theorem errW_none : errW none = .nilIface := rfl
theorem errW_some (c : Int) : errW (some c) = .iface 0 (.int .i64 c) := rfl
theorem info3 : (Try.prog.info? 3).map (fun i => (i.zero, i.size, i.bytes)) = some (some (.int .i64 0), 1, 8) := by kernel_rfl
structure S166 where
  f0 : Int
  f1 : Int
  f2 : Int
def k166 : Kd S166 := Kd.iso (Kd.pair (Kd.int .i64) (Kd.pair (Kd.int .i64) (Kd.int .i64))) (fun x : S166 => (x.f0, x.f1, x.f2))
structure S141 where
  f0 : Int
  f1 : Int
  f2 : Int
def k141 : Kd S141 := Kd.iso (Kd.pair (Kd.int .i64) (Kd.pair (Kd.int .i64) (Kd.int .i64))) (fun x : S141 => (x.f0, x.f1, x.f2))
end Go.Proofs.Ytopikhjcbcpiaaa.Q
end
section
namespace Go.Proofs.Ytopikhjcbcpiaaa.Q
open Go.RowKit Go.Proofs.YtopikhjcbcpiaaaW.PrintWords Go.Proofs.YtopikhjcbcpiaaaW.PrintLast Go.Proofs.YtopikhjcbcpiaaaW.PrintMore
theorem sA {α : Type} (l : List α) (i : Nat) (a : α) : l.toArray.setIfInBounds i a = (l.set i a).toArray := List.setIfInBounds_toArray _ _ _
theorem sB {α : Type} (l : List α) (a b : α) : (a :: l).set 0 b = b :: l := List.set_cons_zero ..
theorem sC {α : Type} (l : List α) (a b : α) (n : Nat) : (a :: l).set (n + 1) b = a :: l.set n b := List.set_cons_succ ..
theorem er {p : Prop} (h : p := by first | rfl | (simp [errW_none, errW_some] <;> rfl) | (simp [*, errW_none, errW_some] <;> rfl)) : p := h
theorem od {p : Prop} [Decidable p] (h : decide p = true := by first | (with_reducible assumption) | assumption) : p := of_decide_eq_true h
section
variable {w w1 w2 w' : World} {g g' : Nat} {o : Obj}
theorem bk (b : Aside0 (w.heap[g]? = some o)) (f : w.heap[g]? = some o → w'.heap[g]? = some o := by intro h; (with_reducible repeat (first | refine blk_drewN ?_ _ | refine blk_drew ?_ | refine blk_alloc ?_ _)); exact h) : w'.heap[g]? = some o := f b.out
theorem nl_ (hg : g' = w'.heap.size) (b : Aside0 (w.heap[g]? = some o)) (f : w.heap[g]? = some o → w'.heap[g]? = some o := by intro h; (with_reducible repeat (first | refine blk_drewN ?_ _ | refine blk_drew ?_ | refine blk_alloc ?_ _)); exact h) : g ≠ g' := by rw [hg]; exact Nat.ne_of_lt (blk_lt (f b.out))
theorem ng_ (hg : g' = w'.heap.size) (b : Aside0 (w.heap[g]? = some o)) (f : w.heap[g]? = some o → w'.heap[g]? = some o := by intro h; (with_reducible repeat (first | refine blk_drewN ?_ _ | refine blk_drew ?_ | refine blk_alloc ?_ _)); exact h) : g' ≠ g := by rw [hg]; exact Nat.ne_of_gt (blk_lt (f b.out))
theorem bb (b : Aside0 (w.heap[g]? = some o)) (hb : Below w'.heap.size w' w2) (f : w.heap[g]? = some o → w'.heap[g]? = some o := by intro h; (with_reducible repeat (first | refine blk_drewN ?_ _ | refine blk_drew ?_ | refine blk_alloc ?_ _)); exact h) : Aside0 (w2.heap[g]? = some o) := ⟨blk_below (f b.out) hb⟩
theorem cz {v : Value} {cs : Array Value} {t : TypeId} (b : Aside0 (w.heap[g]? = some (.cells cs t (0, 0)))) (i : Nat) (h : cs[i]? = some v := by exact rfl) : w.cell? ⟨g, i, none⟩ = some v := (blk_cell b.out i).trans h
theorem bf {t : TypeId} {cs : Array Value} (b : Aside0 (w.heap[g]? = some (.cells cs t (0, 0)))) (f : w.heap[g]? = some (.cells cs t (0, 0)) → w'.heap[g]? = some (.cells cs t (0, 0)) := by intro h; repeat (first | (with_reducible exact h) | (with_reducible first | refine blk_drewN ?_ _ | refine blk_drew ?_ | refine blk_alloc ?_ _) | refine blk_far ?_ (Aside0.out (by assumption)) _ | exact h)) : w'.heap[g]? = some (.cells cs t (0, 0)) := f b.out
theorem kp {row : Option Nat} {u : World} (b : Aside0 (KeepBut u w g row)) (f : KeepBut u w g row → KeepBut u w' g row := by intro h; repeat (first | (with_reducible first | exact h | apply KeepBut.set_ | apply keep_drewN | apply keep_drew | apply keep_alloc | refine keep_far ?_ (Aside0.out (by assumption)) _) | exact h)) : KeepBut u w' g row := f b.out
theorem kv {α : Type} {d : Kd α} {e base : Nat} {ok : Nat → Prop} {v : Value} {xs : List α} (b : Kd.V d e w base ok v xs) (f : Kd.V d e w base ok v xs → Kd.V d e w' base ok v xs := by intro h; (with_reducible repeat (first | apply Kd.V_alloc | apply Kd.V_drewN | apply Kd.V_drew)); exact h) : Kd.V d e w' base ok v xs := f b
theorem bd (b : Aside0 (w.heap[g]? = some o)) : Aside0 (w.drew.heap[g]? = some o) := ⟨blk_drew b.out⟩
theorem tb {B : Nat} {u : World} (b : Aside0 (Below B u w)) (f : Below B u w → Below B u w' := by intro h; repeat (first | (with_reducible first | exact h | apply below_alloc | apply pw_below_drewN | apply below_drew1 | refine below_set ?_ (Aside0.out (by assumption))) | exact h)) : Below B u w' := f b.out
theorem bs {u : World} (b : Aside0 (Below u.heap.size u w)) (hb : Below w'.heap.size w' w2) (f : Below u.heap.size u w → Below u.heap.size u w' := by intro h; repeat (first | (with_reducible first | exact h | apply below_alloc | apply pw_below_drewN | apply below_drew1 | refine below_set ?_ (Aside0.out (by assumption))) | exact h)) : Aside0 (Below u.heap.size u w2) := ⟨below_step (f b.out) hb⟩
theorem ge_ {u : World} (hg : g = w'.heap.size) (b : Aside0 (Below u.heap.size u w)) (f : Below u.heap.size u w → Below u.heap.size u w' := by intro h; repeat (first | (with_reducible first | exact h | apply below_alloc | apply pw_below_drewN | apply below_drew1 | refine below_set ?_ (Aside0.out (by assumption))) | exact h)) : u.heap.size ≤ g := by rw [hg]; exact below_size (f b.out)
theorem kr {α : Type} {d : Kd α} {e base : Nat} {ok : Nat → Prop} {v : Value} {xs : List α} (b : d.R e w base ok v xs) (f : d.R e w base ok v xs → d.R e w' base ok v xs := by intro h; (with_reducible repeat (first | apply Kd.R_alloc | apply Kd.R_drewN | apply Kd.R_drew)); exact h) : d.R e w' base ok v xs := f b
theorem rb {α : Type} {d : Kd α} {e base : Nat} {ok : Nat → Prop} {v : Value} {xs : List α} (b : Aside0 (d.R e w base ok v xs)) (hb : Below w'.heap.size w' w2) (f : d.R e w base ok v xs → d.R e w' base ok v xs := by intro h; (with_reducible repeat (first | apply Kd.R_alloc | apply Kd.R_drewN | apply Kd.R_drew)); exact h) : Aside0 (d.R e w2 base ok v xs) := ⟨Kd.R_below (f b.out) hb⟩
theorem rd_ {α : Type} {d : Kd α} {e base : Nat} {ok : Nat → Prop} {v : Value} {xs : List α} (b : Aside0 (d.R e w base ok v xs)) : Aside0 (d.R e w.drew base ok v xs) := ⟨Kd.R_drew b.out⟩
theorem kc {α : Type} {d : Kd α} {A : Option Addr} {n : Nat} {xs : List α} (r : Aside0 (d.C w A n xs)) (b : Aside0 (Below w.heap.size w w1)) (f : d.C w1 A n xs → d.C w' A n xs := by intro h; repeat (first | exact h | (with_reducible refine Kd.C_alloc ?_ _) | (with_reducible refine Kd.C_drewN ?_ _) | (with_reducible refine Kd.C_drew ?_))) : d.C w' A n xs := f (Kd.C_below r.out b.out)
theorem c1 {xa : Value} {t : TypeId} (h : Aside0 (w.heap[g]? = some (.cells #[xa] t (0, 0)))) : w.cell? ⟨g, 0, none⟩ = some xa ∧ w.frozen? ⟨g, 0, none⟩ = false := ⟨(blk_cell h.out 0).trans rfl, blk_frozen h.out 0⟩
theorem d1 {xa : Value} {t : TypeId} (h : Aside0 (w.heap[g]? = some (.cells #[xa] t (0, 0)))) : w.cell? ⟨g, 0, none⟩ = some xa := (blk_cell h.out 0).trans rfl
theorem c2 {xa xb : Value} {t : TypeId} (h : Aside0 (w.heap[g]? = some (.cells #[xa, xb] t (0, 0)))) : w.cell? ⟨g, 0, none⟩ = some xa ∧ w.cell? ⟨g, 1, none⟩ = some xb ∧ w.frozen? ⟨g, 0, none⟩ = false ∧ w.frozen? ⟨g, 1, none⟩ = false := ⟨(blk_cell h.out 0).trans rfl, (blk_cell h.out 1).trans rfl, blk_frozen h.out 0, blk_frozen h.out 1⟩
theorem d2 {xa xb : Value} {t : TypeId} (h : Aside0 (w.heap[g]? = some (.cells #[xa, xb] t (0, 0)))) : w.cell? ⟨g, 0, none⟩ = some xa ∧ w.cell? ⟨g, 1, none⟩ = some xb := ⟨(blk_cell h.out 0).trans rfl, (blk_cell h.out 1).trans rfl⟩
theorem c3 {xa xb xc : Value} {t : TypeId} (h : Aside0 (w.heap[g]? = some (.cells #[xa, xb, xc] t (0, 0)))) : w.cell? ⟨g, 0, none⟩ = some xa ∧ w.cell? ⟨g, 1, none⟩ = some xb ∧ w.cell? ⟨g, 2, none⟩ = some xc ∧ w.frozen? ⟨g, 0, none⟩ = false ∧ w.frozen? ⟨g, 1, none⟩ = false ∧ w.frozen? ⟨g, 2, none⟩ = false := ⟨(blk_cell h.out 0).trans rfl, (blk_cell h.out 1).trans rfl, (blk_cell h.out 2).trans rfl, blk_frozen h.out 0, blk_frozen h.out 1, blk_frozen h.out 2⟩
theorem d3 {xa xb xc : Value} {t : TypeId} (h : Aside0 (w.heap[g]? = some (.cells #[xa, xb, xc] t (0, 0)))) : w.cell? ⟨g, 0, none⟩ = some xa ∧ w.cell? ⟨g, 1, none⟩ = some xb ∧ w.cell? ⟨g, 2, none⟩ = some xc := ⟨(blk_cell h.out 0).trans rfl, (blk_cell h.out 1).trans rfl, (blk_cell h.out 2).trans rfl⟩
theorem c4 {xa xb xc xd : Value} {t : TypeId} (h : Aside0 (w.heap[g]? = some (.cells #[xa, xb, xc, xd] t (0, 0)))) : w.cell? ⟨g, 0, none⟩ = some xa ∧ w.cell? ⟨g, 1, none⟩ = some xb ∧ w.cell? ⟨g, 2, none⟩ = some xc ∧ w.cell? ⟨g, 3, none⟩ = some xd ∧ w.frozen? ⟨g, 0, none⟩ = false ∧ w.frozen? ⟨g, 1, none⟩ = false ∧ w.frozen? ⟨g, 2, none⟩ = false ∧ w.frozen? ⟨g, 3, none⟩ = false := ⟨(blk_cell h.out 0).trans rfl, (blk_cell h.out 1).trans rfl, (blk_cell h.out 2).trans rfl, (blk_cell h.out 3).trans rfl, blk_frozen h.out 0, blk_frozen h.out 1, blk_frozen h.out 2, blk_frozen h.out 3⟩
theorem c5 {xa xb xc xd xe : Value} {t : TypeId} (h : Aside0 (w.heap[g]? = some (.cells #[xa, xb, xc, xd, xe] t (0, 0)))) : w.cell? ⟨g, 0, none⟩ = some xa ∧ w.cell? ⟨g, 1, none⟩ = some xb ∧ w.cell? ⟨g, 2, none⟩ = some xc ∧ w.cell? ⟨g, 3, none⟩ = some xd ∧ w.cell? ⟨g, 4, none⟩ = some xe ∧ w.frozen? ⟨g, 0, none⟩ = false ∧ w.frozen? ⟨g, 1, none⟩ = false ∧ w.frozen? ⟨g, 2, none⟩ = false ∧ w.frozen? ⟨g, 3, none⟩ = false ∧ w.frozen? ⟨g, 4, none⟩ = false := ⟨(blk_cell h.out 0).trans rfl, (blk_cell h.out 1).trans rfl, (blk_cell h.out 2).trans rfl, (blk_cell h.out 3).trans rfl, (blk_cell h.out 4).trans rfl, blk_frozen h.out 0, blk_frozen h.out 1, blk_frozen h.out 2, blk_frozen h.out 3, blk_frozen h.out 4⟩
end
section
variable {P : Program} {ops : Array Oper} {rest : List Oper} {o : Oper} {a : Act} {Q : Exit → Act → World → Prop} {W : World} {N : Tmp} {cs : Array Value} {t : TypeId}
theorem bx (h : ∀ g, g = W.heap.size → ∀ w1, w1.heap[g]? = some (.cells cs t (0, 0)) → Below W.heap.size W w1 → wpList P ops Q rest (a.put o.dst (.pointer (some ⟨g, 0, none⟩))) w1) (hd : o.dst = some N := by rfl) (hgd : o.guard = none := by rfl)
    (hrun : (execOp a.eval o).run P W = .ok (.value (.pointer (some ⟨W.heap.size, 0, none⟩))) (W.alloc (.cells cs t (0, 0))) := by first | (go_simp; done) | (go_simp; rfl)) : wpList P ops Q (o :: rest) a W := box_event hgd hd hrun h
theorem bxs {Kc : Act → World → Prop} (h : ∀ g, g = W.heap.size → ∀ w1, w1.heap[g]? = some (.cells cs t (0, 0)) → Below W.heap.size W w1 → Kc (a.put o.dst (.pointer (some ⟨g, 0, none⟩))) w1) (hd : o.dst = some N := by rfl) (hw : Region.wanted o (yielded ops a.tmps) = true := by rfl)
    (hrun : (execOp a.eval o).run P W = .ok (.value (.pointer (some ⟨W.heap.size, 0, none⟩))) (W.alloc (.cells cs t (0, 0))) := by first | (go_simp; done) | (go_simp; rfl)) : if Region.wanted o (yielded ops a.tmps) = true then Oper.wp P o a W Kc Q else Kc (a.put o.dst undef) W := box_step hw hd hrun h
theorem gL {oi : Oper} {w : World} (N : Tmp) {f : FuncId} {fn : Func} (hf : P.funcs[f]? = some fn) {ags : Array Operand} {ts : Array TypeId} (args : Array Value)
    (h : Calls P f args w fun e w' => ∃ v, e = .returned v ∧ wpList P ops Q rest (a.put (some N) v) w')
    (hd : oi.dst = some N := by rfl) (hg : oi.guard = none := by rfl) (hname : (fn.name == "runtime.NumGoroutine") = false := by kernel_rfl) (hb : fn.body.isSome = true := by rfl)
    (hop : oi.op = .call { callee := .value (.func f), args := ags, argTypes := ts } := by rfl)
    (hargs : ags.map a.eval = args := by (try simp only [List.map_toArray, List.map_cons, List.map_nil]); first | done | rfl | (simp only [List.length_drop, List.length_take]; rfl)) : wpList P ops Q (oi :: rest) a w := goesL_ (some N) hd hg hf hname hb args hop hargs h
theorem gS {oi : Oper} {w : World} {K : Act → World → Prop} {f : FuncId} {fn : Func} (hf : P.funcs[f]? = some fn) {ags : Array Operand} {ts : Array TypeId} (args : Array Value) {N : Option Tmp}
    (h : Calls P f args w fun e w' => ∃ v, e = .returned v ∧ K (a.put N v) w')
    (hN : oi.dst = N := by rfl) (hname : (fn.name == "runtime.NumGoroutine") = false := by kernel_rfl) (hb : fn.body.isSome = true := by rfl)
    (hw : Region.wanted oi (yielded ops a.tmps) = true := by rfl) (hop : oi.op = .call { callee := .value (.func f), args := ags, argTypes := ts } := by rfl)
    (hargs : ags.map a.eval = args := by (try simp only [List.map_toArray, List.map_cons, List.map_nil]); first | done | rfl | (simp only [List.length_drop, List.length_take]; rfl)) : if Region.wanted oi (yielded ops a.tmps) = true then Oper.wp P oi a w K Q else K (a.put N undef) w := goes_ hf hname hb args hw hN hop hargs h
end
section
variable {P : Program} {ops : Array Oper} {Q : Exit → Act → World → Prop} {md : Region.Mode} {S : World → Prop} {ds : List Nat} {oi : Oper} {fuel : Nat} {l l' : Array Bool} {a a' : Act} {w : World} {v : Value}
theorem pu (i : Nat) (N : Tmp) (h : wpAnyLast P md ops Q S ds fuel l' a' w)
    (hi : ops[i]? = some oi := by exact rfl) (hN : oi.dst = some N := by exact rfl) (_hl : l.setIfInBounds i true = l' := by simp only [sA, sB, sC]; rfl)
    (hc : anyB md ops l l' i = true := by first | exact any_of HT_.out (by kernel_rfl) | kernel_rfl)
    (hQ : ∀ c a w, Q (.panic c) (a.put oi.dst v) w → Q (.panic c) a w := by exact fun _ _ _ h => h)
    (hy : Yields P ops oi v a := by exact Or.inl ⟨by rfl, by intro w'; go_simp; with_reducible rfl⟩)
    (ha : a.put (some N) v = a' := by simp only [Act.put, sA, sB, sC, i64_w, i32_w]; rfl) : wpAnyLast P md ops Q S ds (fuel + 1) l a w := pure_ l' hi hN hc hQ hy ha h
theorem pn (i : Nat) (N : Tmp) (h : wpAnyLast P md ops Q S ds fuel l' a' w)
    (hi : ops[i]? = some oi := by exact rfl) (hN : oi.dst = some N := by exact rfl) (_hl : l.setIfInBounds i true = l' := by simp only [sA, sB, sC]; rfl)
    (hc : anyB md ops l l' i = true := by first | exact any_of HT_.out (by kernel_rfl) | kernel_rfl)
    (hQ : ∀ c a w, Q (.panic c) (a.put oi.dst undef) w → Q (.panic c) a w := by exact fun _ _ _ h => h)
    (hy : Yields P ops oi undef a := by exact Or.inr ⟨by rfl, rfl⟩)
    (ha : a.put (some N) undef = a' := by simp only [Act.put, sA, sB, sC, i64_w, i32_w]; rfl) : wpAnyLast P md ops Q S ds (fuel + 1) l a w := pure_ l' hi hN hc hQ hy ha h
theorem ta (i : Nat) (N : Tmp) (h : wpAnyLast P md ops Q S ds fuel l' a' w)
    (hi : ops[i]? = some oi := by exact rfl) (hN : oi.dst = some N := by exact rfl) (_hl : l.setIfInBounds i true = l' := by simp only [sA, sB, sC]; rfl)
    (hc : takeB md ops ds l l' i = true := by first | exact take_ofW HT_.out HW_.out (by kernel_rfl) | kernel_rfl)
    (hQ : ∀ c a w, Q (.panic c) (a.put oi.dst v) w → Q (.panic c) a w := by exact fun _ _ _ h => h)
    (hy : YieldsIf P ops S oi v a := by exact Or.inl ⟨by rfl, by intro w' hs; (repeat (obtain ⟨_, hs⟩ := hs)); go_simp; with_reducible rfl⟩)
    (hS : S w := by exact hHeld)
    (ha : a.put (some N) v = a' := by simp only [Act.put, sA, sB, sC, i64_w, i32_w]; rfl) : wpAnyLast P md ops Q S ds (fuel + 1) l a w := take_ l' hi hN hc hQ hy hS ha h
theorem nm (N : Tmp) (h : wpAnyLast P md ops Q S ds fuel l a' w) (ha : a.put (some N) v = a' := by simp only [Act.put, sA, sB, sC, i64_w, i32_w]; rfl) : wpAnyLast P md ops Q S ds fuel l (a.put (some N) v) w := norm_ ha h
theorem nmp (h : wpAnyLast P md ops Q S ds fuel l a' w) (ha : a = a' := by simp only [putAll, Act.put, sA, sB, sC]; rfl) : wpAnyLast P md ops Q S ds fuel l a w := norm_ ha h
theorem gd {rest : List Oper} {o : Oper} (N : Tmp) (_hN : o.dst = some N) (h : wpList P ops Q (o :: rest) a w) : wpList P ops Q (o :: rest) a w := h
end
end Go.Proofs.Ytopikhjcbcpiaaa.Q
end
namespace Go.Proofs.Ytopikhjcbcpiaaa.Q
open Go.RowKit Go.Proofs.YtopikhjcbcpiaaaW.PrintWords Go.Proofs.YtopikhjcbcpiaaaW.PrintLast Go.Proofs.YtopikhjcbcpiaaaW.PrintMore
attribute [local go_sem] max2_int min2_int max_two min_two max_three min_three max_four min_four   -- for this text's walks alone
set_option linter.unusedVariables false
set_option linter.unusedSimpArgs false
def spec_l1In.f (a0 : Int) (a1 : Int) (a2 : Int) : Option (Bool) := if a0 ≥ a1 then (some (decide (a0 ≤ a2))) else (some false)
set_option maxHeartbeats 8000000 in
set_option maxRecDepth 100000 in
theorem spec_l1In.calls (a0 : Int) (a1 : Int) (a2 : Int) (r : Bool) (w : World) (h : spec_l1In.f a0 a1 a2 = some r) :
  Calls Try.prog 79 #[.int .i64 a0, .int .i64 a1, .int .i64 a2] w fun e w' => e = .returned (.bool r) ∧ Drawn0 w w' := by
 have H : (if a0 ≥ a1 then (some (decide (a0 ≤ a2))) else (some false)) = some r := h
 clear h
 by_cases c4 : a0 ≥ a1
 ·rw [if_pos c4] at H
  have c4b0 := decide_eq_true c4
  clear c4
  obtain rfl := Option.some.inj H
  go_enter Try.func79, Try.ntmps79
  go_wp2
  go_ret
  exact ⟨by first | rfl | (simp; done) | (simp [*]; done), by repeat (first | exact Drawn0.refl _ | apply Drawn0.step)⟩
 ·rw [if_neg c4] at H
  have c4b0 := decide_eq_false c4
  clear c4
  obtain rfl := Option.some.inj H
  go_enter Try.func79, Try.ntmps79
  go_wp2
  go_ret
  exact ⟨by first | rfl | (simp; done) | (simp [*]; done), by repeat (first | exact Drawn0.refl _ | apply Drawn0.step)⟩
def spec_l4Key.f (a0 : Int) : Option (Bool) := (spec_l1In.f a0 1 4).bind fun t137 => (some t137)
set_option maxHeartbeats 8000000 in
set_option maxRecDepth 100000 in
theorem spec_l4Key.calls (a0 : Int) (r : Bool) (w : World) (h : spec_l4Key.f a0 = some r) :
  Calls Try.prog 122 #[.int .i64 a0] w fun e w' => e = .returned (.bool r) ∧ Drawn0 w w' := by
 have H : ((spec_l1In.f a0 1 4).bind fun t137 => (some t137)) = some r := h
 clear h
 replace H := Option.bind_eq_some_iff.mp H
 obtain ⟨t137, A20, H⟩ := H
 replace H : (some t137) = some r := H
 have A2 := Aside0.mk A20
 clear A20
 obtain rfl := Option.some.inj H
 go_enter Try.func122, Try.ntmps122
 go_wp2_with (first | ((with_reducible refine gate_callee (f := 79) rfl ?_); refine gL 4 Try.func79 #[.int .i64 a0, .int .i64 1, .int .i64 4] ?_; (with_reducible refine (spec_l1In.calls a0 1 4 t137 _ A2.out).mono ?_); rintro e w' ⟨rfl, ⟨nd, rfl⟩⟩; refine ⟨_, rfl, ?_⟩))
 go_ret
 exact ⟨by first | rfl | (simp; done) | (simp [*]; done), by repeat (first | exact Drawn0.refl _ | apply Drawn0.step)⟩
def spec_KeyOk.f (a0 : Int) : Option (Bool) := (spec_l1In.f a0 0 3).bind fun t138 => (some t138)
set_option maxHeartbeats 8000000 in
set_option maxRecDepth 100000 in
theorem spec_KeyOk.calls (a0 : Int) (r : Bool) (w : World) (h : spec_KeyOk.f a0 = some r) :
  Calls Try.prog 123 #[.int .i64 a0] w fun e w' => e = .returned (.bool r) ∧ Drawn0 w w' := by
 have H : ((spec_l1In.f a0 0 3).bind fun t138 => (some t138)) = some r := h
 clear h
 replace H := Option.bind_eq_some_iff.mp H
 obtain ⟨t138, A20, H⟩ := H
 replace H : (some t138) = some r := H
 have A2 := Aside0.mk A20
 clear A20
 obtain rfl := Option.some.inj H
 go_enter Try.func123, Try.ntmps123
 go_wp2_with (first | ((with_reducible refine gate_callee (f := 79) rfl ?_); refine gL 4 Try.func79 #[.int .i64 a0, .int .i64 0, .int .i64 3] ?_; (with_reducible refine (spec_l1In.calls a0 0 3 t138 _ A2.out).mono ?_); rintro e w' ⟨rfl, ⟨nd, rfl⟩⟩; refine ⟨_, rfl, ?_⟩))
 go_ret
 exact ⟨by first | rfl | (simp; done) | (simp [*]; done), by repeat (first | exact Drawn0.refl _ | apply Drawn0.step)⟩
def spec_l4Val.f (a0 : Int) : Option (Bool) := if a0 = 1 then (some true) else (if a0 = 2 then (some true) else (if a0 = 5 then (some true) else (some (a0 == 10))))
set_option maxHeartbeats 8000000 in
set_option maxRecDepth 100000 in
theorem spec_l4Val.calls (a0 : Int) (r : Bool) (w : World) (h : spec_l4Val.f a0 = some r) :
  Calls Try.prog 124 #[.int .i64 a0] w fun e w' => e = .returned (.bool r) ∧ Drawn0 w w' := by
 have H : (if a0 = 1 then (some true) else (if a0 = 2 then (some true) else (if a0 = 5 then (some true) else (some (a0 == 10))))) = some r := h
 clear h
 by_cases c2 : a0 = 1
 ·rw [if_pos c2] at H
  have c2b0 : (a0 == 1) = true := beq_iff_eq.mpr c2
  have c2b1 : (a0 != 1) = false := bne_eq_false_iff_eq.mpr c2
  clear c2
  obtain rfl := Option.some.inj H
  go_enter Try.func124, Try.ntmps124
  go_wp2
  go_ret
  exact ⟨by first | rfl | (simp; done) | (simp [*]; done), by repeat (first | exact Drawn0.refl _ | apply Drawn0.step)⟩
 ·rw [if_neg c2] at H
  have c2b0 : (a0 == 1) = false := beq_eq_false_iff_ne.mpr c2
  have c2b1 : (a0 != 1) = true := bne_iff_ne.mpr c2
  by_cases c3 : a0 = 2
  ·rw [if_pos c3] at H
   have c3b0 : (a0 == 2) = true := beq_iff_eq.mpr c3
   have c3b1 : (a0 != 2) = false := bne_eq_false_iff_eq.mpr c3
   clear c3
   obtain rfl := Option.some.inj H
   go_enter Try.func124, Try.ntmps124
   go_wp2
   go_ret
   exact ⟨by first | rfl | (simp; done) | (simp [*]; done), by repeat (first | exact Drawn0.refl _ | apply Drawn0.step)⟩
  ·rw [if_neg c3] at H
   have c3b0 : (a0 == 2) = false := beq_eq_false_iff_ne.mpr c3
   have c3b1 : (a0 != 2) = true := bne_iff_ne.mpr c3
   by_cases c4 : a0 = 5
   ·rw [if_pos c4] at H
    have c4b0 : (a0 == 5) = true := beq_iff_eq.mpr c4
    have c4b1 : (a0 != 5) = false := bne_eq_false_iff_eq.mpr c4
    clear c4
    obtain rfl := Option.some.inj H
    go_enter Try.func124, Try.ntmps124
    go_wp2
    go_ret
    exact ⟨by first | rfl | (simp; done) | (simp [*]; done), by repeat (first | exact Drawn0.refl _ | apply Drawn0.step)⟩
   ·rw [if_neg c4] at H
    have c4b0 : (a0 == 5) = false := beq_eq_false_iff_ne.mpr c4
    have c4b1 : (a0 != 5) = true := bne_iff_ne.mpr c4
    obtain rfl := Option.some.inj H
    go_enter Try.func124, Try.ntmps124
    go_wp2
    go_ret
    exact ⟨by first | rfl | (simp; done) | (simp [*]; done), by repeat (first | exact Drawn0.refl _ | apply Drawn0.step)⟩
def spec_ValOk.f (a0 : Int) : Option (Bool) := (spec_l1In.f a0 1 6).bind fun t139 => (some t139)
set_option maxHeartbeats 8000000 in
set_option maxRecDepth 100000 in
theorem spec_ValOk.calls (a0 : Int) (r : Bool) (w : World) (h : spec_ValOk.f a0 = some r) :
  Calls Try.prog 125 #[.int .i64 a0] w fun e w' => e = .returned (.bool r) ∧ Drawn0 w w' := by
 have H : ((spec_l1In.f a0 1 6).bind fun t139 => (some t139)) = some r := h
 clear h
 replace H := Option.bind_eq_some_iff.mp H
 obtain ⟨t139, A20, H⟩ := H
 replace H : (some t139) = some r := H
 have A2 := Aside0.mk A20
 clear A20
 obtain rfl := Option.some.inj H
 go_enter Try.func125, Try.ntmps125
 go_wp2_with (first | ((with_reducible refine gate_callee (f := 79) rfl ?_); refine gL 4 Try.func79 #[.int .i64 a0, .int .i64 1, .int .i64 6] ?_; (with_reducible refine (spec_l1In.calls a0 1 6 t139 _ A2.out).mono ?_); rintro e w' ⟨rfl, ⟨nd, rfl⟩⟩; refine ⟨_, rfl, ?_⟩))
 go_ret
 exact ⟨by first | rfl | (simp; done) | (simp [*]; done), by repeat (first | exact Drawn0.refl _ | apply Drawn0.step)⟩
mutual
def spec_OpOk.j0 : Nat → Bool → Int → Int → Int → Option (Bool)
 | 0, _, _, _, _ => none
 | k + 1, x3, x141000, x141001, x141002 => if x141000 = 6 then ((spec_l1In.f x141001 0 2).bind fun t144 => (spec_OpOk.j1 k t144 x141000 x141001 x141002)) else (spec_OpOk.j1 k x3 x141000 x141001 x141002)
def spec_OpOk.j1 : Nat → Bool → Int → Int → Int → Option (Bool)
 | 0, _, _, _, _ => none
 | k + 1, x3, x141000, x141001, x141002 => (spec_l4Val.f x141000).bind fun t145 => (if t145 = true then (if x3 = true then ((spec_ValOk.f x141002).bind fun t146 => (some t146)) else (some false)) else (if x3 = true then (some (x141002 == 0)) else (some false)))
end
def spec_OpOk.f (k : Nat) (a0_0 : Int) (a0_1 : Int) (a0_2 : Int) : Option (Bool) := (spec_l1In.f a0_0 1 10).bind fun t141 => (if t141 = true then ((spec_l4Key.f a0_0).bind fun t142 => (if t142 = true then ((spec_KeyOk.f a0_1).bind fun t143 => (spec_OpOk.j0 k t143 a0_0 a0_1 a0_2)) else (spec_OpOk.j0 k (a0_1 == 0) a0_0 a0_1 a0_2))) else (some false))
theorem spec_OpOk.mono_l : ∀ k, (∀ y0 y1 y2 y3, LeO (spec_OpOk.j0 k y0 y1 y2 y3) (spec_OpOk.j0 (k + 1) y0 y1 y2 y3)) ∧ (∀ y0 y1 y2 y3, LeO (spec_OpOk.j1 k y0 y1 y2 y3) (spec_OpOk.j1 (k + 1) y0 y1 y2 y3))
 | 0 => ⟨fun _ _ _ _ r h => by simp [spec_OpOk.j0] at h, fun _ _ _ _ r h => by simp [spec_OpOk.j1] at h⟩
 | k + 1 => by
  obtain ⟨ih0, ih1⟩ := spec_OpOk.mono_l k
  refine ⟨?_, ?_⟩
  ·intro y0 y1 y2 y3
   unfold spec_OpOk.j0
   repeat' first
   | (with_reducible exact ih0 _ _ _ _)
   | (with_reducible exact ih1 _ _ _ _)
   | (with_reducible exact LeO.refl _)
   | (with_reducible exact LeO.none _)
   | (with_reducible refine LeO.ite ?_ ?_)
   | (with_reducible refine LeO.bind ?_ (fun _ => ?_))
   | exact ih0 _ _ _ _
   | exact ih1 _ _ _ _
   | exact LeO.none _
   | refine LeO.ite ?_ ?_
   | refine LeO.bind ?_ (fun _ => ?_)
  ·intro y0 y1 y2 y3
   unfold spec_OpOk.j1
   repeat' first
   | (with_reducible exact ih0 _ _ _ _)
   | (with_reducible exact ih1 _ _ _ _)
   | (with_reducible exact LeO.refl _)
   | (with_reducible exact LeO.none _)
   | (with_reducible refine LeO.ite ?_ ?_)
   | (with_reducible refine LeO.bind ?_ (fun _ => ?_))
   | exact ih0 _ _ _ _
   | exact ih1 _ _ _ _
   | exact LeO.none _
   | refine LeO.ite ?_ ?_
   | refine LeO.bind ?_ (fun _ => ?_)
theorem spec_OpOk.mono : ∀ a0 a1 a2 k, LeO (spec_OpOk.f k a0 a1 a2) (spec_OpOk.f (k + 1) a0 a1 a2) := by
 intro a0 a1 a2 k
 obtain ⟨ih0, ih1⟩ := spec_OpOk.mono_l k
 unfold spec_OpOk.f
 repeat' first
   | (with_reducible exact ih0 _ _ _ _)
   | (with_reducible exact ih1 _ _ _ _)
   | (with_reducible exact LeO.refl _)
   | (with_reducible exact LeO.none _)
   | (with_reducible refine LeO.ite ?_ ?_)
   | (with_reducible refine LeO.bind ?_ (fun _ => ?_))
   | exact ih0 _ _ _ _
   | exact ih1 _ _ _ _
   | exact LeO.none _
   | refine LeO.ite ?_ ?_
   | refine LeO.bind ?_ (fun _ => ?_)
set_option maxHeartbeats 8000000 in
set_option maxRecDepth 100000 in
theorem spec_OpOk.calls (k : Nat) (a0_0 : Int) (a0_1 : Int) (a0_2 : Int) (r : Bool) (w : World) (h : spec_OpOk.f k a0_0 a0_1 a0_2 = some r) :
  Calls Try.prog 54 #[.agg #[.int .i64 a0_0, .int .i64 a0_1, .int .i64 a0_2]] w fun e w' => e = .returned (.bool r) ∧ Below w.heap.size w w' := by
 have hu68 := Try.underlying68
 have HB := Aside0.mk (Below.refl w.heap.size w)
 have H : ((spec_l1In.f a0_0 1 10).bind fun t141 => (if t141 = true then ((spec_l4Key.f a0_0).bind fun t142 => (if t142 = true then ((spec_KeyOk.f a0_1).bind fun t143 => (spec_OpOk.j0 k t143 a0_0 a0_1 a0_2)) else (spec_OpOk.j0 k (a0_1 == 0) a0_0 a0_1 a0_2))) else (some false))) = some r := h
 clear h
 replace H := Option.bind_eq_some_iff.mp H
 obtain ⟨t141, A20, H⟩ := H
 replace H : (if t141 = true then ((spec_l4Key.f a0_0).bind fun t142 => (if t142 = true then ((spec_KeyOk.f a0_1).bind fun t143 => (spec_OpOk.j0 k t143 a0_0 a0_1 a0_2)) else (spec_OpOk.j0 k (a0_1 == 0) a0_0 a0_1 a0_2))) else (some false)) = some r := H
 have A2 := Aside0.mk A20
 clear A20
 by_cases c3 : t141 = true
 ·subst c3
  have H1 : ((spec_l4Key.f a0_0).bind fun t142 => (if t142 = true then ((spec_KeyOk.f a0_1).bind fun t143 => (spec_OpOk.j0 k t143 a0_0 a0_1 a0_2)) else (spec_OpOk.j0 k (a0_1 == 0) a0_0 a0_1 a0_2))) = some r := by rw [if_pos rfl] at H; exact H
  clear H
  have H := H1
  clear H1
  replace H := Option.bind_eq_some_iff.mp H
  obtain ⟨t142, A40, H⟩ := H
  replace H : (if t142 = true then ((spec_KeyOk.f a0_1).bind fun t143 => (spec_OpOk.j0 k t143 a0_0 a0_1 a0_2)) else (spec_OpOk.j0 k (a0_1 == 0) a0_0 a0_1 a0_2)) = some r := H
  have A4 := Aside0.mk A40
  clear A40
  have HC5 := Aside0.mk H
  clear H
  go_enter Try.func54, Try.ntmps54
  go_upto_if 13 with (first | ((with_reducible refine gate_dst (N := 1) rfl ?_); refine bx (N := 1) (cs := #[.int .i64 a0_0, .int .i64 a0_1, .int .i64 a0_2]) (t := 68) ?_; intro gb140 hg w6 hbox hb; have BK140 := Aside0.mk (hbox); have GW140 := Aside0.mk (ge_ hg HB); have GE140 := Aside0.mk (ge_ hg HB); replace HB := bs HB hb; clear hb hbox hg; obtain ⟨hcz7_0, hcz7_1, hcz7_2, hfz7_0, hfz7_1, hfz7_2⟩ := c3 BK140) | ((with_reducible refine gate_callee (f := 79) rfl ?_); refine gL 6 Try.func79 #[.int .i64 a0_0, .int .i64 1, .int .i64 10] ?_; (with_reducible refine (spec_l1In.calls a0_0 1 10 true _ A2.out).mono ?_); rintro e w' ⟨rfl, ⟨nd, rfl⟩⟩; refine ⟨_, rfl, ?_⟩) | ((with_reducible refine gate_callee (f := 122) rfl ?_); refine gL 13 Try.func122 #[.int .i64 a0_0] ?_; (with_reducible refine (spec_l4Key.calls a0_0 t142 _ A4.out).mono ?_); rintro e w' ⟨rfl, ⟨nd, rfl⟩⟩; refine ⟨_, rfl, ?_⟩))
  (try simp only [Act.put, sA, sB, sC])
  go_cut [3] (fun v3 wc => ∃ (kq : Nat) (x3_4 : Bool), v3 = .bool x3_4 ∧ Aside0 (spec_OpOk.j0 kq x3_4 a0_0 a0_1 a0_2 = some r) ∧ Aside0 (kq ≤ k) ∧ Aside0 (wc.heap[gb140]? = some (.cells #[.int .i64 a0_0, .int .i64 a0_1, .int .i64 a0_2] 68 (0, 0))) ∧ Aside0 (Below w.heap.size w wc))
  case first =>
   have H := HC5.out
   clear HC5
   by_cases c8 : t142 = true
   ·subst c8
    have H1 : ((spec_KeyOk.f a0_1).bind fun t143 => (spec_OpOk.j0 k t143 a0_0 a0_1 a0_2)) = some r := by rw [if_pos rfl] at H; exact H
    clear H
    have H := H1
    clear H1
    replace H := Option.bind_eq_some_iff.mp H
    obtain ⟨t143, A90, H⟩ := H
    replace H : (spec_OpOk.j0 k t143 a0_0 a0_1 a0_2) = some r := H
    have A9 := Aside0.mk A90
    clear A90
    have H' := Aside0.mk H
    clear H
    obtain ⟨hcz10_0, hcz10_1, hcz10_2, hfz10_0, hfz10_1, hfz10_2⟩ := c3 BK140
    go_wp2_with (first | ((with_reducible refine gate_callee (f := 123) rfl ?_); refine gL 16 Try.func123 #[.int .i64 a0_1] ?_; (with_reducible refine (spec_KeyOk.calls a0_1 t143 _ A9.out).mono ?_); rintro e w' ⟨rfl, ⟨nd, rfl⟩⟩; refine ⟨_, rfl, ?_⟩))
    go_meet
    case rel => exact ⟨_, (t143), (by first | rfl | (simp; done) | (simp [*]; done)), H', ⟨by first | omega | exact Nat.le_refl _⟩, ⟨by (with_reducible repeat (first | refine blk_drewN ?_ _ | refine blk_drew ?_ | refine blk_alloc ?_ _)); exact BK140.out⟩, ⟨tb HB⟩⟩
   ·replace c8 := Bool.eq_false_iff.mpr c8
    subst c8
    have H1 : (spec_OpOk.j0 k (a0_1 == 0) a0_0 a0_1 a0_2) = some r := by rw [if_neg (show ¬ (false = true) by decide)] at H; exact H
    clear H
    have H := H1
    clear H1
    have H' := Aside0.mk H
    clear H
    go_wp2
    go_meet
    case rel => exact ⟨_, ((a0_1 == 0)), (by first | rfl | (simp; done) | (simp [*]; done)), H', ⟨by first | omega | exact Nat.le_refl _⟩, ⟨by (with_reducible repeat (first | refine blk_drewN ?_ _ | refine blk_drew ?_ | refine blk_alloc ?_ _)); exact BK140.out⟩, ⟨tb HB⟩⟩
  case rest =>
   clear HC5
   try clear c1
   try clear p2
   try clear c3
   try clear c5
   try clear c7
   try clear c8
   try clear hcz10_0
   try clear hcz10_1
   try clear hcz10_2
   try clear hcz7_0
   try clear hcz7_1
   try clear hcz7_2
   try clear hfz10_0
   try clear hfz10_1
   try clear hfz10_2
   try clear hfz7_0
   try clear hfz7_1
   try clear hfz7_2
   obtain ⟨kq, x3_4, rfl, HA, HJ4, BK140, HB⟩ := hcut
   cases kq with
   | zero => exact absurd HA.out (by simp [spec_OpOk.j0])
   | succ kj4 =>
    have H := HA.out
    clear HA
    simp only [spec_OpOk.j0] at H
    have HC11 := Aside0.mk H
    clear H
    obtain ⟨hcz12_0, hcz12_1, hcz12_2, hfz12_0, hfz12_1, hfz12_2⟩ := c3 BK140
    go_upto_if 19 with (fail)
    go_cut [3] (fun v3 wc => ∃ (kq : Nat) (x3_10 : Bool), v3 = .bool x3_10 ∧ Aside0 (spec_OpOk.j1 kq x3_10 a0_0 a0_1 a0_2 = some r) ∧ Aside0 (kq ≤ kj4) ∧ Aside0 (wc.heap[gb140]? = some (.cells #[.int .i64 a0_0, .int .i64 a0_1, .int .i64 a0_2] 68 (0, 0))) ∧ Aside0 (Below w.heap.size w wc))
    case first =>
     have H := HC11.out
     clear HC11
     by_cases c13 : a0_0 = 6
     ·rw [if_pos c13] at H
      have c13b0 : (a0_0 == 6) = true := beq_iff_eq.mpr c13
      have c13b1 : (a0_0 != 6) = false := bne_eq_false_iff_eq.mpr c13
      clear c13
      (first | rw [c13b0] | (simp only [i64_w, i32_w]; rw [c13b0]) | skip)
      replace H := Option.bind_eq_some_iff.mp H
      obtain ⟨t144, A140, H⟩ := H
      replace H : (spec_OpOk.j1 kj4 t144 a0_0 a0_1 a0_2) = some r := H
      have A14 := Aside0.mk A140
      clear A140
      have H' := Aside0.mk H
      clear H
      obtain ⟨hcz15_0, hcz15_1, hcz15_2, hfz15_0, hfz15_1, hfz15_2⟩ := c3 BK140
      go_wp2_with (first | ((with_reducible refine gate_callee (f := 79) rfl ?_); refine gL 22 Try.func79 #[.int .i64 a0_1, .int .i64 0, .int .i64 2] ?_; (with_reducible refine (spec_l1In.calls a0_1 0 2 t144 _ A14.out).mono ?_); rintro e w' ⟨rfl, ⟨nd, rfl⟩⟩; refine ⟨_, rfl, ?_⟩))
      go_meet
      case rel => exact ⟨_, (t144), (by first | rfl | (simp; done) | (simp [*]; done)), H', ⟨by have := HJ4.out; first | omega | exact Nat.le_refl _⟩, ⟨by (with_reducible repeat (first | refine blk_drewN ?_ _ | refine blk_drew ?_ | refine blk_alloc ?_ _)); exact BK140.out⟩, ⟨tb HB⟩⟩
     ·rw [if_neg c13] at H
      have c13b0 : (a0_0 == 6) = false := beq_eq_false_iff_ne.mpr c13
      have c13b1 : (a0_0 != 6) = true := bne_iff_ne.mpr c13
      (first | rw [c13b0] | (simp only [i64_w, i32_w]; rw [c13b0]) | skip)
      have H' := Aside0.mk H
      clear H
      go_wp2
      go_meet
      case rel => exact ⟨_, (x3_4), (by first | rfl | (simp; done) | (simp [*]; done)), H', ⟨by have := HJ4.out; first | omega | exact Nat.le_refl _⟩, ⟨by (with_reducible repeat (first | refine blk_drewN ?_ _ | refine blk_drew ?_ | refine blk_alloc ?_ _)); exact BK140.out⟩, ⟨tb HB⟩⟩
    case rest =>
     clear HC11
     try clear c1
     try clear p2
     try clear c3
     try clear c5
     try clear c7
     try clear c8
     try clear c12
     try clear c13
     try clear c13b0
     try clear c13b1
     try clear hcz10_0
     try clear hcz10_1
     try clear hcz10_2
     try clear hcz12_0
     try clear hcz12_1
     try clear hcz12_2
     try clear hcz15_0
     try clear hcz15_1
     try clear hcz15_2
     try clear hcz7_0
     try clear hcz7_1
     try clear hcz7_2
     try clear hfz10_0
     try clear hfz10_1
     try clear hfz10_2
     try clear hfz12_0
     try clear hfz12_1
     try clear hfz12_2
     try clear hfz15_0
     try clear hfz15_1
     try clear hfz15_2
     try clear hfz7_0
     try clear hfz7_1
     try clear hfz7_2
     try clear p2
     obtain ⟨kq, x3_10, rfl, HA, HJ10, BK140, HB⟩ := hcut
     cases kq with
     | zero => exact absurd HA.out (by simp [spec_OpOk.j1])
     | succ kj10 =>
      have H := HA.out
      clear HA
      simp only [spec_OpOk.j1] at H
      replace H := Option.bind_eq_some_iff.mp H
      obtain ⟨t145, A160, H⟩ := H
      replace H : (if t145 = true then (if x3_10 = true then ((spec_ValOk.f a0_2).bind fun t146 => (some t146)) else (some false)) else (if x3_10 = true then (some (a0_2 == 0)) else (some false))) = some r := H
      have A16 := Aside0.mk A160
      clear A160
      by_cases c17 : t145 = true
      ·subst c17
       have H1 : (if x3_10 = true then ((spec_ValOk.f a0_2).bind fun t146 => (some t146)) else (some false)) = some r := by rw [if_pos rfl] at H; exact H
       clear H
       have H := H1
       clear H1
       by_cases c18 : x3_10 = true
       ·subst c18
        have H1 : ((spec_ValOk.f a0_2).bind fun t146 => (some t146)) = some r := by rw [if_pos rfl] at H; exact H
        clear H
        have H := H1
        clear H1
        replace H := Option.bind_eq_some_iff.mp H
        obtain ⟨t146, A190, H⟩ := H
        replace H : (some t146) = some r := H
        have A19 := Aside0.mk A190
        clear A190
        obtain rfl := Option.some.inj H
        obtain ⟨hcz20_0, hcz20_1, hcz20_2, hfz20_0, hfz20_1, hfz20_2⟩ := c3 BK140
        go_wp2_with (first | ((with_reducible refine gate_callee (f := 124) rfl ?_); refine gL 25 Try.func124 #[.int .i64 a0_0] ?_; (with_reducible refine (spec_l4Val.calls a0_0 true _ A16.out).mono ?_); rintro e w' ⟨rfl, ⟨nd, rfl⟩⟩; refine ⟨_, rfl, ?_⟩) | (go_at_call 125; (with_reducible refine (spec_ValOk.calls a0_2 t146 _ A19.out).mono ?_); rintro e w' ⟨rfl, ⟨nd, rfl⟩⟩))
        go_ret
        exact ⟨er, tb HB⟩
       ·replace c18 := Bool.eq_false_iff.mpr c18
        subst c18
        have H1 : (some false) = some r := by rw [if_neg (show ¬ (false = true) by decide)] at H; exact H
        clear H
        have H := H1
        clear H1
        obtain rfl := Option.some.inj H
        obtain ⟨hcz21_0, hcz21_1, hcz21_2, hfz21_0, hfz21_1, hfz21_2⟩ := c3 BK140
        go_wp2_with (first | ((with_reducible refine gate_callee (f := 124) rfl ?_); refine gL 25 Try.func124 #[.int .i64 a0_0] ?_; (with_reducible refine (spec_l4Val.calls a0_0 true _ A16.out).mono ?_); rintro e w' ⟨rfl, ⟨nd, rfl⟩⟩; refine ⟨_, rfl, ?_⟩))
        go_ret
        exact ⟨er, tb HB⟩
      ·replace c17 := Bool.eq_false_iff.mpr c17
       subst c17
       have H1 : (if x3_10 = true then (some (a0_2 == 0)) else (some false)) = some r := by rw [if_neg (show ¬ (false = true) by decide)] at H; exact H
       clear H
       have H := H1
       clear H1
       by_cases c22 : x3_10 = true
       ·subst c22
        have H1 : (some (a0_2 == 0)) = some r := by rw [if_pos rfl] at H; exact H
        clear H
        have H := H1
        clear H1
        obtain rfl := Option.some.inj H
        obtain ⟨hcz23_0, hcz23_1, hcz23_2, hfz23_0, hfz23_1, hfz23_2⟩ := c3 BK140
        go_wp2_with (first | ((with_reducible refine gate_callee (f := 124) rfl ?_); refine gL 25 Try.func124 #[.int .i64 a0_0] ?_; (with_reducible refine (spec_l4Val.calls a0_0 false _ A16.out).mono ?_); rintro e w' ⟨rfl, ⟨nd, rfl⟩⟩; refine ⟨_, rfl, ?_⟩))
        go_ret
        exact ⟨er, tb HB⟩
       ·replace c22 := Bool.eq_false_iff.mpr c22
        subst c22
        have H1 : (some false) = some r := by rw [if_neg (show ¬ (false = true) by decide)] at H; exact H
        clear H
        have H := H1
        clear H1
        obtain rfl := Option.some.inj H
        obtain ⟨hcz24_0, hcz24_1, hcz24_2, hfz24_0, hfz24_1, hfz24_2⟩ := c3 BK140
        go_wp2_with (first | ((with_reducible refine gate_callee (f := 124) rfl ?_); refine gL 25 Try.func124 #[.int .i64 a0_0] ?_; (with_reducible refine (spec_l4Val.calls a0_0 false _ A16.out).mono ?_); rintro e w' ⟨rfl, ⟨nd, rfl⟩⟩; refine ⟨_, rfl, ?_⟩))
        go_ret
        exact ⟨er, tb HB⟩
 ·replace c3 := Bool.eq_false_iff.mpr c3
  subst c3
  have H1 : (some false) = some r := by rw [if_neg (show ¬ (false = true) by decide)] at H; exact H
  clear H
  have H := H1
  clear H1
  obtain rfl := Option.some.inj H
  go_enter Try.func54, Try.ntmps54
  go_wp2_with (first | ((with_reducible refine gate_dst (N := 1) rfl ?_); refine bx (N := 1) (cs := #[.int .i64 a0_0, .int .i64 a0_1, .int .i64 a0_2]) (t := 68) ?_; intro gb140 hg w25 hbox hb; have BK140 := Aside0.mk (hbox); have GW140 := Aside0.mk (ge_ hg HB); have GE140 := Aside0.mk (ge_ hg HB); replace HB := bs HB hb; clear hb hbox hg; obtain ⟨hcz26_0, hcz26_1, hcz26_2, hfz26_0, hfz26_1, hfz26_2⟩ := c3 BK140) | ((with_reducible refine gate_callee (f := 79) rfl ?_); refine gL 6 Try.func79 #[.int .i64 a0_0, .int .i64 1, .int .i64 10] ?_; (with_reducible refine (spec_l1In.calls a0_0 1 10 false _ A2.out).mono ?_); rintro e w' ⟨rfl, ⟨nd, rfl⟩⟩; refine ⟨_, rfl, ?_⟩))
  go_ret
  exact ⟨er, tb HB⟩
def impl_from.f (a0 : Int) (a1 : Int) (a2 : Int) : Option (Bool) := if a0 ≥ a1 then (some (decide (a0 ≤ a2))) else (some false)
set_option maxHeartbeats 8000000 in
set_option maxRecDepth 100000 in
theorem impl_from.calls (a0 : Int) (a1 : Int) (a2 : Int) (r : Bool) (w : World) (h : impl_from.f a0 a1 a2 = some r) :
  Calls Try.prog 85 #[.int .i64 a0, .int .i64 a1, .int .i64 a2] w fun e w' => e = .returned (.bool r) ∧ Drawn0 w w' := by
 have H : (if a0 ≥ a1 then (some (decide (a0 ≤ a2))) else (some false)) = some r := h
 clear h
 by_cases c4 : a0 ≥ a1
 ·rw [if_pos c4] at H
  have c4b0 := decide_eq_true c4
  clear c4
  obtain rfl := Option.some.inj H
  go_enter Try.func85, Try.ntmps85
  go_wp2
  go_ret
  exact ⟨by first | rfl | (simp; done) | (simp [*]; done), by repeat (first | exact Drawn0.refl _ | apply Drawn0.step)⟩
 ·rw [if_neg c4] at H
  have c4b0 := decide_eq_false c4
  clear c4
  obtain rfl := Option.some.inj H
  go_enter Try.func85, Try.ntmps85
  go_wp2
  go_ret
  exact ⟨by first | rfl | (simp; done) | (simp [*]; done), by repeat (first | exact Drawn0.refl _ | apply Drawn0.step)⟩
def impl_KeyOk.f (a0 : Int) : Option (Bool) := (impl_from.f a0 0 3).bind fun t205 => (some t205)
set_option maxHeartbeats 8000000 in
set_option maxRecDepth 100000 in
theorem impl_KeyOk.calls (a0 : Int) (r : Bool) (w : World) (h : impl_KeyOk.f a0 = some r) :
  Calls Try.prog 119 #[.int .i64 a0] w fun e w' => e = .returned (.bool r) ∧ Drawn0 w w' := by
 have H : ((impl_from.f a0 0 3).bind fun t205 => (some t205)) = some r := h
 clear h
 replace H := Option.bind_eq_some_iff.mp H
 obtain ⟨t205, A20, H⟩ := H
 replace H : (some t205) = some r := H
 have A2 := Aside0.mk A20
 clear A20
 obtain rfl := Option.some.inj H
 go_enter Try.func119, Try.ntmps119
 go_wp2_with (first | ((with_reducible refine gate_callee (f := 85) rfl ?_); refine gL 4 Try.func85 #[.int .i64 a0, .int .i64 0, .int .i64 3] ?_; (with_reducible refine (impl_from.calls a0 0 3 t205 _ A2.out).mono ?_); rintro e w' ⟨rfl, ⟨nd, rfl⟩⟩; refine ⟨_, rfl, ?_⟩))
 go_ret
 exact ⟨by first | rfl | (simp; done) | (simp [*]; done), by repeat (first | exact Drawn0.refl _ | apply Drawn0.step)⟩
def impl_ValOk.f (a0 : Int) : Option (Bool) := (impl_from.f a0 1 6).bind fun t206 => (some t206)
set_option maxHeartbeats 8000000 in
set_option maxRecDepth 100000 in
theorem impl_ValOk.calls (a0 : Int) (r : Bool) (w : World) (h : impl_ValOk.f a0 = some r) :
  Calls Try.prog 120 #[.int .i64 a0] w fun e w' => e = .returned (.bool r) ∧ Drawn0 w w' := by
 have H : ((impl_from.f a0 1 6).bind fun t206 => (some t206)) = some r := h
 clear h
 replace H := Option.bind_eq_some_iff.mp H
 obtain ⟨t206, A20, H⟩ := H
 replace H : (some t206) = some r := H
 have A2 := Aside0.mk A20
 clear A20
 obtain rfl := Option.some.inj H
 go_enter Try.func120, Try.ntmps120
 go_wp2_with (first | ((with_reducible refine gate_callee (f := 85) rfl ?_); refine gL 4 Try.func85 #[.int .i64 a0, .int .i64 1, .int .i64 6] ?_; (with_reducible refine (impl_from.calls a0 1 6 t206 _ A2.out).mono ?_); rintro e w' ⟨rfl, ⟨nd, rfl⟩⟩; refine ⟨_, rfl, ?_⟩))
 go_ret
 exact ⟨by first | rfl | (simp; done) | (simp [*]; done), by repeat (first | exact Drawn0.refl _ | apply Drawn0.step)⟩
def impl_isClass.f (a0 : Int) : Option (Bool) := (impl_from.f a0 0 2).bind fun t207 => (some t207)
set_option maxHeartbeats 8000000 in
set_option maxRecDepth 100000 in
theorem impl_isClass.calls (a0 : Int) (r : Bool) (w : World) (h : impl_isClass.f a0 = some r) :
  Calls Try.prog 121 #[.int .i64 a0] w fun e w' => e = .returned (.bool r) ∧ Drawn0 w w' := by
 have H : ((impl_from.f a0 0 2).bind fun t207 => (some t207)) = some r := h
 clear h
 replace H := Option.bind_eq_some_iff.mp H
 obtain ⟨t207, A20, H⟩ := H
 replace H : (some t207) = some r := H
 have A2 := Aside0.mk A20
 clear A20
 obtain rfl := Option.some.inj H
 go_enter Try.func121, Try.ntmps121
 go_wp2_with (first | ((with_reducible refine gate_callee (f := 85) rfl ?_); refine gL 4 Try.func85 #[.int .i64 a0, .int .i64 0, .int .i64 2] ?_; (with_reducible refine (impl_from.calls a0 0 2 t207 _ A2.out).mono ?_); rintro e w' ⟨rfl, ⟨nd, rfl⟩⟩; refine ⟨_, rfl, ?_⟩))
 go_ret
 exact ⟨by first | rfl | (simp; done) | (simp [*]; done), by repeat (first | exact Drawn0.refl _ | apply Drawn0.step)⟩
mutual
def impl_OpOk.j0 : Nat → Int → Bool → Int → Int → Int → Option (Bool)
 | 0, _, _, _, _, _ => none
 | k + 1, x4, x5, x209000, x209001, x209002 => if x5 = true then ((impl_KeyOk.f x209001).bind fun t209 => (if t209 = true then ((impl_ValOk.f x209002).bind fun t210 => (some t210)) else (some false))) else (if x4 = 3 then (impl_OpOk.j1 k x4 (x4 == 3) x209000 x209001 x209002) else (impl_OpOk.j1 k x4 (x4 == 4) x209000 x209001 x209002))
def impl_OpOk.j1 : Nat → Int → Bool → Int → Int → Int → Option (Bool)
 | 0, _, _, _, _, _ => none
 | k + 1, x4, x16, x209000, x209001, x209002 => if x16 = true then ((impl_KeyOk.f x209001).bind fun t211 => (if t211 = true then (some (x209002 == 0)) else (some false))) else (if x4 = 5 then (impl_OpOk.j2 k x4 (x4 == 5) x209000 x209001 x209002) else (impl_OpOk.j2 k x4 (x4 == 10) x209000 x209001 x209002))
def impl_OpOk.j2 : Nat → Int → Bool → Int → Int → Int → Option (Bool)
 | 0, _, _, _, _, _ => none
 | k + 1, x4, x27, x209000, x209001, x209002 => if x27 = true then (if x209001 = 0 then ((impl_ValOk.f x209002).bind fun t212 => (some t212)) else (some false)) else (if x4 = 6 then ((impl_isClass.f x209001).bind fun t213 => (if t213 = true then (some (x209002 == 0)) else (some false))) else (if x4 = 7 then (if x209001 = 0 then (some (x209002 == 0)) else (some false)) else (if x4 = 8 then (if x209001 = 0 then (some (x209002 == 0)) else (some false)) else (if x4 = 9 then (if x209001 = 0 then (some (x209002 == 0)) else (some false)) else (some false)))))
end
def impl_OpOk.f (k : Nat) (a0_0 : Int) (a0_1 : Int) (a0_2 : Int) : Option (Bool) := if a0_0 = 1 then (impl_OpOk.j0 k a0_0 (a0_0 == 1) a0_0 a0_1 a0_2) else (impl_OpOk.j0 k a0_0 (a0_0 == 2) a0_0 a0_1 a0_2)
theorem impl_OpOk.mono_l : ∀ k, (∀ y0 y1 y2 y3 y4, LeO (impl_OpOk.j0 k y0 y1 y2 y3 y4) (impl_OpOk.j0 (k + 1) y0 y1 y2 y3 y4)) ∧ (∀ y0 y1 y2 y3 y4, LeO (impl_OpOk.j1 k y0 y1 y2 y3 y4) (impl_OpOk.j1 (k + 1) y0 y1 y2 y3 y4)) ∧ (∀ y0 y1 y2 y3 y4, LeO (impl_OpOk.j2 k y0 y1 y2 y3 y4) (impl_OpOk.j2 (k + 1) y0 y1 y2 y3 y4))
 | 0 => ⟨fun _ _ _ _ _ r h => by simp [impl_OpOk.j0] at h, fun _ _ _ _ _ r h => by simp [impl_OpOk.j1] at h, fun _ _ _ _ _ r h => by simp [impl_OpOk.j2] at h⟩
 | k + 1 => by
  obtain ⟨ih0, ih1, ih2⟩ := impl_OpOk.mono_l k
  refine ⟨?_, ?_, ?_⟩
  ·intro y0 y1 y2 y3 y4
   unfold impl_OpOk.j0
   repeat' first
   | (with_reducible exact ih0 _ _ _ _ _)
   | (with_reducible exact ih1 _ _ _ _ _)
   | (with_reducible exact ih2 _ _ _ _ _)
   | (with_reducible exact LeO.refl _)
   | (with_reducible exact LeO.none _)
   | (with_reducible refine LeO.ite ?_ ?_)
   | (with_reducible refine LeO.bind ?_ (fun _ => ?_))
   | exact ih0 _ _ _ _ _
   | exact ih1 _ _ _ _ _
   | exact ih2 _ _ _ _ _
   | exact LeO.none _
   | refine LeO.ite ?_ ?_
   | refine LeO.bind ?_ (fun _ => ?_)
  ·intro y0 y1 y2 y3 y4
   unfold impl_OpOk.j1
   repeat' first
   | (with_reducible exact ih0 _ _ _ _ _)
   | (with_reducible exact ih1 _ _ _ _ _)
   | (with_reducible exact ih2 _ _ _ _ _)
   | (with_reducible exact LeO.refl _)
   | (with_reducible exact LeO.none _)
   | (with_reducible refine LeO.ite ?_ ?_)
   | (with_reducible refine LeO.bind ?_ (fun _ => ?_))
   | exact ih0 _ _ _ _ _
   | exact ih1 _ _ _ _ _
   | exact ih2 _ _ _ _ _
   | exact LeO.none _
   | refine LeO.ite ?_ ?_
   | refine LeO.bind ?_ (fun _ => ?_)
  ·intro y0 y1 y2 y3 y4
   unfold impl_OpOk.j2
   repeat' first
   | (with_reducible exact ih0 _ _ _ _ _)
   | (with_reducible exact ih1 _ _ _ _ _)
   | (with_reducible exact ih2 _ _ _ _ _)
   | (with_reducible exact LeO.refl _)
   | (with_reducible exact LeO.none _)
   | (with_reducible refine LeO.ite ?_ ?_)
   | (with_reducible refine LeO.bind ?_ (fun _ => ?_))
   | exact ih0 _ _ _ _ _
   | exact ih1 _ _ _ _ _
   | exact ih2 _ _ _ _ _
   | exact LeO.none _
   | refine LeO.ite ?_ ?_
   | refine LeO.bind ?_ (fun _ => ?_)
theorem impl_OpOk.mono : ∀ a0 a1 a2 k, LeO (impl_OpOk.f k a0 a1 a2) (impl_OpOk.f (k + 1) a0 a1 a2) := by
 intro a0 a1 a2 k
 obtain ⟨ih0, ih1, ih2⟩ := impl_OpOk.mono_l k
 unfold impl_OpOk.f
 repeat' first
   | (with_reducible exact ih0 _ _ _ _ _)
   | (with_reducible exact ih1 _ _ _ _ _)
   | (with_reducible exact ih2 _ _ _ _ _)
   | (with_reducible exact LeO.refl _)
   | (with_reducible exact LeO.none _)
   | (with_reducible refine LeO.ite ?_ ?_)
   | (with_reducible refine LeO.bind ?_ (fun _ => ?_))
   | exact ih0 _ _ _ _ _
   | exact ih1 _ _ _ _ _
   | exact ih2 _ _ _ _ _
   | exact LeO.none _
   | refine LeO.ite ?_ ?_
   | refine LeO.bind ?_ (fun _ => ?_)
set_option maxHeartbeats 8000000 in
set_option maxRecDepth 100000 in
theorem impl_OpOk.calls (k : Nat) (a0_0 : Int) (a0_1 : Int) (a0_2 : Int) (r : Bool) (w : World) (h : impl_OpOk.f k a0_0 a0_1 a0_2 = some r) :
  Calls Try.prog 53 #[.agg #[.int .i64 a0_0, .int .i64 a0_1, .int .i64 a0_2]] w fun e w' => e = .returned (.bool r) ∧ Below w.heap.size w w' := by
 have hu68 := Try.underlying68
 have HB := Aside0.mk (Below.refl w.heap.size w)
 have H : (if a0_0 = 1 then (impl_OpOk.j0 k a0_0 (a0_0 == 1) a0_0 a0_1 a0_2) else (impl_OpOk.j0 k a0_0 (a0_0 == 2) a0_0 a0_1 a0_2)) = some r := h
 clear h
 have HC2 := Aside0.mk H
 clear H
 go_enter Try.func53, Try.ntmps53
 go_upto_if 5 with (first | ((with_reducible refine gate_dst (N := 1) rfl ?_); refine bx (N := 1) (cs := #[.int .i64 a0_0, .int .i64 a0_1, .int .i64 a0_2]) (t := 68) ?_; intro gb208 hg w3 hbox hb; have BK208 := Aside0.mk (hbox); have GW208 := Aside0.mk (ge_ hg HB); have GE208 := Aside0.mk (ge_ hg HB); replace HB := bs HB hb; clear hb hbox hg; obtain ⟨hcz4_0, hcz4_1, hcz4_2, hfz4_0, hfz4_1, hfz4_2⟩ := c3 BK208))
 (try simp only [Act.put, sA, sB, sC])
 go_cut [5] (fun v5 wc => ∃ (kq : Nat) (x5_1 : Bool), v5 = .bool x5_1 ∧ Aside0 (impl_OpOk.j0 kq a0_0 x5_1 a0_0 a0_1 a0_2 = some r) ∧ Aside0 (kq ≤ k) ∧ Aside0 (wc.heap[gb208]? = some (.cells #[.int .i64 a0_0, .int .i64 a0_1, .int .i64 a0_2] 68 (0, 0))) ∧ Aside0 (Below w.heap.size w wc))
 case first =>
  have H := HC2.out
  clear HC2
  by_cases c5 : a0_0 = 1
  ·rw [if_pos c5] at H
   have c5b0 : (a0_0 == 1) = true := beq_iff_eq.mpr c5
   have c5b1 : (a0_0 != 1) = false := bne_eq_false_iff_eq.mpr c5
   clear c5
   (first | rw [c5b0] | (simp only [i64_w, i32_w]; rw [c5b0]) | skip)
   have H' := Aside0.mk H
   clear H
   go_wp2
   go_meet
   case rel => exact ⟨_, ((a0_0 == 1)), (by first | rfl | (simp; done) | (simp [*]; done)), H', ⟨by first | omega | exact Nat.le_refl _⟩, ⟨by (with_reducible repeat (first | refine blk_drewN ?_ _ | refine blk_drew ?_ | refine blk_alloc ?_ _)); exact BK208.out⟩, ⟨tb HB⟩⟩
  ·rw [if_neg c5] at H
   have c5b0 : (a0_0 == 1) = false := beq_eq_false_iff_ne.mpr c5
   have c5b1 : (a0_0 != 1) = true := bne_iff_ne.mpr c5
   (first | rw [c5b0] | (simp only [i64_w, i32_w]; rw [c5b0]) | skip)
   have H' := Aside0.mk H
   clear H
   go_wp2
   go_meet
   case rel => exact ⟨_, ((a0_0 == 2)), (by first | rfl | (simp; done) | (simp [*]; done)), H', ⟨by first | omega | exact Nat.le_refl _⟩, ⟨by (with_reducible repeat (first | refine blk_drewN ?_ _ | refine blk_drew ?_ | refine blk_alloc ?_ _)); exact BK208.out⟩, ⟨tb HB⟩⟩
 case rest =>
  clear HC2
  try clear p2
  try clear c5
  try clear c5b0
  try clear c5b1
  try clear hcz4_0
  try clear hcz4_1
  try clear hcz4_2
  try clear hfz4_0
  try clear hfz4_1
  try clear hfz4_2
  obtain ⟨kq, x5_1, rfl, HA, HJ1, BK208, HB⟩ := hcut
  cases kq with
  | zero => exact absurd HA.out (by simp [impl_OpOk.j0])
  | succ kj1 =>
   have H := HA.out
   clear HA
   simp only [impl_OpOk.j0] at H
   by_cases c6 : x5_1 = true
   ·subst c6
    have H1 : ((impl_KeyOk.f a0_1).bind fun t209 => (if t209 = true then ((impl_ValOk.f a0_2).bind fun t210 => (some t210)) else (some false))) = some r := by rw [if_pos rfl] at H; exact H
    clear H
    have H := H1
    clear H1
    replace H := Option.bind_eq_some_iff.mp H
    obtain ⟨t209, A70, H⟩ := H
    replace H : (if t209 = true then ((impl_ValOk.f a0_2).bind fun t210 => (some t210)) else (some false)) = some r := H
    have A7 := Aside0.mk A70
    clear A70
    by_cases c8 : t209 = true
    ·subst c8
     have H1 : ((impl_ValOk.f a0_2).bind fun t210 => (some t210)) = some r := by rw [if_pos rfl] at H; exact H
     clear H
     have H := H1
     clear H1
     replace H := Option.bind_eq_some_iff.mp H
     obtain ⟨t210, A90, H⟩ := H
     replace H : (some t210) = some r := H
     have A9 := Aside0.mk A90
     clear A90
     obtain rfl := Option.some.inj H
     obtain ⟨hcz10_0, hcz10_1, hcz10_2, hfz10_0, hfz10_1, hfz10_2⟩ := c3 BK208
     go_wp2_with (first | ((with_reducible refine gate_callee (f := 119) rfl ?_); refine gL 10 Try.func119 #[.int .i64 a0_1] ?_; (with_reducible refine (impl_KeyOk.calls a0_1 true _ A7.out).mono ?_); rintro e w' ⟨rfl, ⟨nd, rfl⟩⟩; refine ⟨_, rfl, ?_⟩) | (go_at_call 120; (with_reducible refine (impl_ValOk.calls a0_2 t210 _ A9.out).mono ?_); rintro e w' ⟨rfl, ⟨nd, rfl⟩⟩))
     go_ret
     exact ⟨er, tb HB⟩
    ·replace c8 := Bool.eq_false_iff.mpr c8
     subst c8
     have H1 : (some false) = some r := by rw [if_neg (show ¬ (false = true) by decide)] at H; exact H
     clear H
     have H := H1
     clear H1
     obtain rfl := Option.some.inj H
     obtain ⟨hcz11_0, hcz11_1, hcz11_2, hfz11_0, hfz11_1, hfz11_2⟩ := c3 BK208
     go_wp2_with (first | ((with_reducible refine gate_callee (f := 119) rfl ?_); refine gL 10 Try.func119 #[.int .i64 a0_1] ?_; (with_reducible refine (impl_KeyOk.calls a0_1 false _ A7.out).mono ?_); rintro e w' ⟨rfl, ⟨nd, rfl⟩⟩; refine ⟨_, rfl, ?_⟩))
     go_ret
     exact ⟨er, tb HB⟩
   ·replace c6 := Bool.eq_false_iff.mpr c6
    subst c6
    have H1 : (if a0_0 = 3 then (impl_OpOk.j1 kj1 a0_0 (a0_0 == 3) a0_0 a0_1 a0_2) else (impl_OpOk.j1 kj1 a0_0 (a0_0 == 4) a0_0 a0_1 a0_2)) = some r := by rw [if_neg (show ¬ (false = true) by decide)] at H; exact H
    clear H
    have H := H1
    clear H1
    have HC12 := Aside0.mk H
    clear H
    go_upto_if 16 with (fail)
    go_cut [16] (fun v16 wc => ∃ (kq : Nat) (x16_11 : Bool), v16 = .bool x16_11 ∧ Aside0 (impl_OpOk.j1 kq a0_0 x16_11 a0_0 a0_1 a0_2 = some r) ∧ Aside0 (kq ≤ kj1) ∧ Aside0 (wc.heap[gb208]? = some (.cells #[.int .i64 a0_0, .int .i64 a0_1, .int .i64 a0_2] 68 (0, 0))) ∧ Aside0 (Below w.heap.size w wc))
    case first =>
     have H := HC12.out
     clear HC12
     by_cases c13 : a0_0 = 3
     ·rw [if_pos c13] at H
      have c13b0 : (a0_0 == 3) = true := beq_iff_eq.mpr c13
      have c13b1 : (a0_0 != 3) = false := bne_eq_false_iff_eq.mpr c13
      clear c13
      (first | rw [c13b0] | (simp only [i64_w, i32_w]; rw [c13b0]) | skip)
      have H' := Aside0.mk H
      clear H
      go_wp2
      go_meet
      case rel => exact ⟨_, ((a0_0 == 3)), (by first | rfl | (simp; done) | (simp [*]; done)), H', ⟨by have := HJ1.out; first | omega | exact Nat.le_refl _⟩, ⟨by (with_reducible repeat (first | refine blk_drewN ?_ _ | refine blk_drew ?_ | refine blk_alloc ?_ _)); exact BK208.out⟩, ⟨tb HB⟩⟩
     ·rw [if_neg c13] at H
      have c13b0 : (a0_0 == 3) = false := beq_eq_false_iff_ne.mpr c13
      have c13b1 : (a0_0 != 3) = true := bne_iff_ne.mpr c13
      (first | rw [c13b0] | (simp only [i64_w, i32_w]; rw [c13b0]) | skip)
      have H' := Aside0.mk H
      clear H
      go_wp2
      go_meet
      case rel => exact ⟨_, ((a0_0 == 4)), (by first | rfl | (simp; done) | (simp [*]; done)), H', ⟨by have := HJ1.out; first | omega | exact Nat.le_refl _⟩, ⟨by (with_reducible repeat (first | refine blk_drewN ?_ _ | refine blk_drew ?_ | refine blk_alloc ?_ _)); exact BK208.out⟩, ⟨tb HB⟩⟩
    case rest =>
     clear HC12
     try clear c1
     try clear p2
     try clear c5
     try clear c5b0
     try clear c5b1
     try clear c6
     try clear c8
     try clear c11
     try clear c13
     try clear c13b0
     try clear c13b1
     try clear hcz10_0
     try clear hcz10_1
     try clear hcz10_2
     try clear hcz11_0
     try clear hcz11_1
     try clear hcz11_2
     try clear hcz4_0
     try clear hcz4_1
     try clear hcz4_2
     try clear hfz10_0
     try clear hfz10_1
     try clear hfz10_2
     try clear hfz11_0
     try clear hfz11_1
     try clear hfz11_2
     try clear hfz4_0
     try clear hfz4_1
     try clear hfz4_2
     try clear p2
     obtain ⟨kq, x16_11, rfl, HA, HJ11, BK208, HB⟩ := hcut
     cases kq with
     | zero => exact absurd HA.out (by simp [impl_OpOk.j1])
     | succ kj11 =>
      have H := HA.out
      clear HA
      simp only [impl_OpOk.j1] at H
      by_cases c14 : x16_11 = true
      ·subst c14
       have H1 : ((impl_KeyOk.f a0_1).bind fun t211 => (if t211 = true then (some (a0_2 == 0)) else (some false))) = some r := by rw [if_pos rfl] at H; exact H
       clear H
       have H := H1
       clear H1
       replace H := Option.bind_eq_some_iff.mp H
       obtain ⟨t211, A150, H⟩ := H
       replace H : (if t211 = true then (some (a0_2 == 0)) else (some false)) = some r := H
       have A15 := Aside0.mk A150
       clear A150
       by_cases c16 : t211 = true
       ·subst c16
        have H1 : (some (a0_2 == 0)) = some r := by rw [if_pos rfl] at H; exact H
        clear H
        have H := H1
        clear H1
        obtain rfl := Option.some.inj H
        obtain ⟨hcz17_0, hcz17_1, hcz17_2, hfz17_0, hfz17_1, hfz17_2⟩ := c3 BK208
        go_wp2_with (first | ((with_reducible refine gate_callee (f := 119) rfl ?_); refine gL 21 Try.func119 #[.int .i64 a0_1] ?_; (with_reducible refine (impl_KeyOk.calls a0_1 true _ A15.out).mono ?_); rintro e w' ⟨rfl, ⟨nd, rfl⟩⟩; refine ⟨_, rfl, ?_⟩))
        go_ret
        exact ⟨er, tb HB⟩
       ·replace c16 := Bool.eq_false_iff.mpr c16
        subst c16
        have H1 : (some false) = some r := by rw [if_neg (show ¬ (false = true) by decide)] at H; exact H
        clear H
        have H := H1
        clear H1
        obtain rfl := Option.some.inj H
        obtain ⟨hcz18_0, hcz18_1, hcz18_2, hfz18_0, hfz18_1, hfz18_2⟩ := c3 BK208
        go_wp2_with (first | ((with_reducible refine gate_callee (f := 119) rfl ?_); refine gL 21 Try.func119 #[.int .i64 a0_1] ?_; (with_reducible refine (impl_KeyOk.calls a0_1 false _ A15.out).mono ?_); rintro e w' ⟨rfl, ⟨nd, rfl⟩⟩; refine ⟨_, rfl, ?_⟩))
        go_ret
        exact ⟨er, tb HB⟩
      ·replace c14 := Bool.eq_false_iff.mpr c14
       subst c14
       have H1 : (if a0_0 = 5 then (impl_OpOk.j2 kj11 a0_0 (a0_0 == 5) a0_0 a0_1 a0_2) else (impl_OpOk.j2 kj11 a0_0 (a0_0 == 10) a0_0 a0_1 a0_2)) = some r := by rw [if_neg (show ¬ (false = true) by decide)] at H; exact H
       clear H
       have H := H1
       clear H1
       have HC19 := Aside0.mk H
       clear H
       go_upto_if 27 with (fail)
       go_cut [27] (fun v27 wc => ∃ (kq : Nat) (x27_18 : Bool), v27 = .bool x27_18 ∧ Aside0 (impl_OpOk.j2 kq a0_0 x27_18 a0_0 a0_1 a0_2 = some r) ∧ Aside0 (kq ≤ kj11) ∧ Aside0 (wc.heap[gb208]? = some (.cells #[.int .i64 a0_0, .int .i64 a0_1, .int .i64 a0_2] 68 (0, 0))) ∧ Aside0 (Below w.heap.size w wc))
       case first =>
        have H := HC19.out
        clear HC19
        by_cases c20 : a0_0 = 5
        ·rw [if_pos c20] at H
         have c20b0 : (a0_0 == 5) = true := beq_iff_eq.mpr c20
         have c20b1 : (a0_0 != 5) = false := bne_eq_false_iff_eq.mpr c20
         clear c20
         (first | rw [c20b0] | (simp only [i64_w, i32_w]; rw [c20b0]) | skip)
         have H' := Aside0.mk H
         clear H
         go_wp2
         go_meet
         case rel => exact ⟨_, ((a0_0 == 5)), (by first | rfl | (simp; done) | (simp [*]; done)), H', ⟨by have := HJ1.out; have := HJ11.out; first | omega | exact Nat.le_refl _⟩, ⟨by (with_reducible repeat (first | refine blk_drewN ?_ _ | refine blk_drew ?_ | refine blk_alloc ?_ _)); exact BK208.out⟩, ⟨tb HB⟩⟩
        ·rw [if_neg c20] at H
         have c20b0 : (a0_0 == 5) = false := beq_eq_false_iff_ne.mpr c20
         have c20b1 : (a0_0 != 5) = true := bne_iff_ne.mpr c20
         (first | rw [c20b0] | (simp only [i64_w, i32_w]; rw [c20b0]) | skip)
         have H' := Aside0.mk H
         clear H
         go_wp2
         go_meet
         case rel => exact ⟨_, ((a0_0 == 10)), (by first | rfl | (simp; done) | (simp [*]; done)), H', ⟨by have := HJ1.out; have := HJ11.out; first | omega | exact Nat.le_refl _⟩, ⟨by (with_reducible repeat (first | refine blk_drewN ?_ _ | refine blk_drew ?_ | refine blk_alloc ?_ _)); exact BK208.out⟩, ⟨tb HB⟩⟩
       case rest =>
        clear HC19
        try clear c1
        try clear c2
        try clear p2
        try clear c5
        try clear c5b0
        try clear c5b1
        try clear c6
        try clear c8
        try clear c11
        try clear c13
        try clear c13b0
        try clear c13b1
        try clear c14
        try clear c16
        try clear c20
        try clear c20b0
        try clear c20b1
        try clear hcz10_0
        try clear hcz10_1
        try clear hcz10_2
        try clear hcz11_0
        try clear hcz11_1
        try clear hcz11_2
        try clear hcz17_0
        try clear hcz17_1
        try clear hcz17_2
        try clear hcz18_0
        try clear hcz18_1
        try clear hcz18_2
        try clear hcz4_0
        try clear hcz4_1
        try clear hcz4_2
        try clear hfz10_0
        try clear hfz10_1
        try clear hfz10_2
        try clear hfz11_0
        try clear hfz11_1
        try clear hfz11_2
        try clear hfz17_0
        try clear hfz17_1
        try clear hfz17_2
        try clear hfz18_0
        try clear hfz18_1
        try clear hfz18_2
        try clear hfz4_0
        try clear hfz4_1
        try clear hfz4_2
        try clear p2
        obtain ⟨kq, x27_18, rfl, HA, HJ18, BK208, HB⟩ := hcut
        cases kq with
        | zero => exact absurd HA.out (by simp [impl_OpOk.j2])
        | succ kj18 =>
         have H := HA.out
         clear HA
         simp only [impl_OpOk.j2] at H
         by_cases c21 : x27_18 = true
         ·subst c21
          have H1 : (if a0_1 = 0 then ((impl_ValOk.f a0_2).bind fun t212 => (some t212)) else (some false)) = some r := by rw [if_pos rfl] at H; exact H
          clear H
          have H := H1
          clear H1
          by_cases c22 : a0_1 = 0
          ·rw [if_pos c22] at H
           have c22b0 : (a0_1 == 0) = true := beq_iff_eq.mpr c22
           have c22b1 : (a0_1 != 0) = false := bne_eq_false_iff_eq.mpr c22
           clear c22
           replace H := Option.bind_eq_some_iff.mp H
           obtain ⟨t212, A230, H⟩ := H
           replace H : (some t212) = some r := H
           have A23 := Aside0.mk A230
           clear A230
           obtain rfl := Option.some.inj H
           obtain ⟨hcz24_0, hcz24_1, hcz24_2, hfz24_0, hfz24_1, hfz24_2⟩ := c3 BK208
           go_wp2_with (first | (go_at_call 120; (with_reducible refine (impl_ValOk.calls a0_2 t212 _ A23.out).mono ?_); rintro e w' ⟨rfl, ⟨nd, rfl⟩⟩))
           go_ret
           exact ⟨er, tb HB⟩
          ·rw [if_neg c22] at H
           have c22b0 : (a0_1 == 0) = false := beq_eq_false_iff_ne.mpr c22
           have c22b1 : (a0_1 != 0) = true := bne_iff_ne.mpr c22
           obtain rfl := Option.some.inj H
           obtain ⟨hcz25_0, hcz25_1, hcz25_2, hfz25_0, hfz25_1, hfz25_2⟩ := c3 BK208
           go_wp2
           go_ret
           exact ⟨er, tb HB⟩
         ·replace c21 := Bool.eq_false_iff.mpr c21
          subst c21
          have H1 : (if a0_0 = 6 then ((impl_isClass.f a0_1).bind fun t213 => (if t213 = true then (some (a0_2 == 0)) else (some false))) else (if a0_0 = 7 then (if a0_1 = 0 then (some (a0_2 == 0)) else (some false)) else (if a0_0 = 8 then (if a0_1 = 0 then (some (a0_2 == 0)) else (some false)) else (if a0_0 = 9 then (if a0_1 = 0 then (some (a0_2 == 0)) else (some false)) else (some false))))) = some r := by rw [if_neg (show ¬ (false = true) by decide)] at H; exact H
          clear H
          have H := H1
          clear H1
          by_cases c26 : a0_0 = 6
          ·rw [if_pos c26] at H
           have c26b0 : (a0_0 == 6) = true := beq_iff_eq.mpr c26
           have c26b1 : (a0_0 != 6) = false := bne_eq_false_iff_eq.mpr c26
           clear c26
           replace H := Option.bind_eq_some_iff.mp H
           obtain ⟨t213, A270, H⟩ := H
           replace H : (if t213 = true then (some (a0_2 == 0)) else (some false)) = some r := H
           have A27 := Aside0.mk A270
           clear A270
           by_cases c28 : t213 = true
           ·subst c28
            have H1 : (some (a0_2 == 0)) = some r := by rw [if_pos rfl] at H; exact H
            clear H
            have H := H1
            clear H1
            obtain rfl := Option.some.inj H
            obtain ⟨hcz29_0, hcz29_1, hcz29_2, hfz29_0, hfz29_1, hfz29_2⟩ := c3 BK208
            go_wp2_with (first | ((with_reducible refine gate_callee (f := 121) rfl ?_); refine gL 42 Try.func121 #[.int .i64 a0_1] ?_; (with_reducible refine (impl_isClass.calls a0_1 true _ A27.out).mono ?_); rintro e w' ⟨rfl, ⟨nd, rfl⟩⟩; refine ⟨_, rfl, ?_⟩))
            go_ret
            exact ⟨er, tb HB⟩
           ·replace c28 := Bool.eq_false_iff.mpr c28
            subst c28
            have H1 : (some false) = some r := by rw [if_neg (show ¬ (false = true) by decide)] at H; exact H
            clear H
            have H := H1
            clear H1
            obtain rfl := Option.some.inj H
            obtain ⟨hcz30_0, hcz30_1, hcz30_2, hfz30_0, hfz30_1, hfz30_2⟩ := c3 BK208
            go_wp2_with (first | ((with_reducible refine gate_callee (f := 121) rfl ?_); refine gL 42 Try.func121 #[.int .i64 a0_1] ?_; (with_reducible refine (impl_isClass.calls a0_1 false _ A27.out).mono ?_); rintro e w' ⟨rfl, ⟨nd, rfl⟩⟩; refine ⟨_, rfl, ?_⟩))
            go_ret
            exact ⟨er, tb HB⟩
          ·rw [if_neg c26] at H
           have c26b0 : (a0_0 == 6) = false := beq_eq_false_iff_ne.mpr c26
           have c26b1 : (a0_0 != 6) = true := bne_iff_ne.mpr c26
           by_cases c31 : a0_0 = 7
           ·rw [if_pos c31] at H
            have c31b0 : (a0_0 == 7) = true := beq_iff_eq.mpr c31
            have c31b1 : (a0_0 != 7) = false := bne_eq_false_iff_eq.mpr c31
            clear c31
            by_cases c32 : a0_1 = 0
            ·rw [if_pos c32] at H
             have c32b0 : (a0_1 == 0) = true := beq_iff_eq.mpr c32
             have c32b1 : (a0_1 != 0) = false := bne_eq_false_iff_eq.mpr c32
             clear c32
             obtain rfl := Option.some.inj H
             obtain ⟨hcz33_0, hcz33_1, hcz33_2, hfz33_0, hfz33_1, hfz33_2⟩ := c3 BK208
             go_wp2
             go_ret
             exact ⟨er, tb HB⟩
            ·rw [if_neg c32] at H
             have c32b0 : (a0_1 == 0) = false := beq_eq_false_iff_ne.mpr c32
             have c32b1 : (a0_1 != 0) = true := bne_iff_ne.mpr c32
             obtain rfl := Option.some.inj H
             obtain ⟨hcz34_0, hcz34_1, hcz34_2, hfz34_0, hfz34_1, hfz34_2⟩ := c3 BK208
             go_wp2
             go_ret
             exact ⟨er, tb HB⟩
           ·rw [if_neg c31] at H
            have c31b0 : (a0_0 == 7) = false := beq_eq_false_iff_ne.mpr c31
            have c31b1 : (a0_0 != 7) = true := bne_iff_ne.mpr c31
            by_cases c35 : a0_0 = 8
            ·rw [if_pos c35] at H
             have c35b0 : (a0_0 == 8) = true := beq_iff_eq.mpr c35
             have c35b1 : (a0_0 != 8) = false := bne_eq_false_iff_eq.mpr c35
             clear c35
             by_cases c36 : a0_1 = 0
             ·rw [if_pos c36] at H
              have c36b0 : (a0_1 == 0) = true := beq_iff_eq.mpr c36
              have c36b1 : (a0_1 != 0) = false := bne_eq_false_iff_eq.mpr c36
              clear c36
              obtain rfl := Option.some.inj H
              obtain ⟨hcz37_0, hcz37_1, hcz37_2, hfz37_0, hfz37_1, hfz37_2⟩ := c3 BK208
              go_wp2
              go_ret
              exact ⟨er, tb HB⟩
             ·rw [if_neg c36] at H
              have c36b0 : (a0_1 == 0) = false := beq_eq_false_iff_ne.mpr c36
              have c36b1 : (a0_1 != 0) = true := bne_iff_ne.mpr c36
              obtain rfl := Option.some.inj H
              obtain ⟨hcz38_0, hcz38_1, hcz38_2, hfz38_0, hfz38_1, hfz38_2⟩ := c3 BK208
              go_wp2
              go_ret
              exact ⟨er, tb HB⟩
            ·rw [if_neg c35] at H
             have c35b0 : (a0_0 == 8) = false := beq_eq_false_iff_ne.mpr c35
             have c35b1 : (a0_0 != 8) = true := bne_iff_ne.mpr c35
             by_cases c39 : a0_0 = 9
             ·rw [if_pos c39] at H
              have c39b0 : (a0_0 == 9) = true := beq_iff_eq.mpr c39
              have c39b1 : (a0_0 != 9) = false := bne_eq_false_iff_eq.mpr c39
              clear c39
              by_cases c40 : a0_1 = 0
              ·rw [if_pos c40] at H
               have c40b0 : (a0_1 == 0) = true := beq_iff_eq.mpr c40
               have c40b1 : (a0_1 != 0) = false := bne_eq_false_iff_eq.mpr c40
               clear c40
               obtain rfl := Option.some.inj H
               obtain ⟨hcz41_0, hcz41_1, hcz41_2, hfz41_0, hfz41_1, hfz41_2⟩ := c3 BK208
               go_wp2
               go_ret
               exact ⟨er, tb HB⟩
              ·rw [if_neg c40] at H
               have c40b0 : (a0_1 == 0) = false := beq_eq_false_iff_ne.mpr c40
               have c40b1 : (a0_1 != 0) = true := bne_iff_ne.mpr c40
               obtain rfl := Option.some.inj H
               obtain ⟨hcz42_0, hcz42_1, hcz42_2, hfz42_0, hfz42_1, hfz42_2⟩ := c3 BK208
               go_wp2
               go_ret
               exact ⟨er, tb HB⟩
             ·rw [if_neg c39] at H
              have c39b0 : (a0_0 == 9) = false := beq_eq_false_iff_ne.mpr c39
              have c39b1 : (a0_0 != 9) = true := bne_iff_ne.mpr c39
              obtain rfl := Option.some.inj H
              go_wp2
              go_ret
              exact ⟨er, tb HB⟩
def spec_KeyOf.l0 : Nat → Int → Int → List Int → Int → Option (Int)
 | 0, _, _, _, _ => none
 | k + 1, x1, x5, x451000, x451001 => if x5 < (x451000.length : Int) then (if 0 ≤ x5 then (if (rd x451000 x5) = x1 then (some x5) else (spec_KeyOf.l0 k x1 (wrap64 (x5 + 1)) x451000 x451001)) else (none)) else (some (-1))
def spec_KeyOf.f (k : Nat) (l0_0 : List Int) (a0_1 : Int) (a1 : Int) : Option (Int) := spec_KeyOf.l0 k a1 0 l0_0 a0_1
theorem spec_KeyOf.mono_l : ∀ k, (∀ y0 y1 y2 y3, LeO (spec_KeyOf.l0 k y0 y1 y2 y3) (spec_KeyOf.l0 (k + 1) y0 y1 y2 y3))
 | 0 => fun _ _ _ _ r h => by simp [spec_KeyOf.l0] at h
 | k + 1 => by
  have ih0 := spec_KeyOf.mono_l k
  ·intro y0 y1 y2 y3
   unfold spec_KeyOf.l0
   repeat' first
   | (with_reducible exact ih0 _ _ _ _)
   | (with_reducible exact LeO.refl _)
   | (with_reducible exact LeO.none _)
   | (with_reducible refine LeO.ite ?_ ?_)
   | (with_reducible refine LeO.bind ?_ (fun _ => ?_))
   | exact ih0 _ _ _ _
   | exact LeO.none _
   | refine LeO.ite ?_ ?_
   | refine LeO.bind ?_ (fun _ => ?_)
theorem spec_KeyOf.mono : ∀ a0 a1 a2 k, LeO (spec_KeyOf.f k a0 a1 a2) (spec_KeyOf.f (k + 1) a0 a1 a2) := by
 intro a0 a1 a2 k
 have ih0 := spec_KeyOf.mono_l k
 unfold spec_KeyOf.f
 repeat' first
   | (with_reducible exact ih0 _ _ _ _)
   | (with_reducible exact LeO.refl _)
   | (with_reducible exact LeO.none _)
   | (with_reducible refine LeO.ite ?_ ?_)
   | (with_reducible refine LeO.bind ?_ (fun _ => ?_))
   | exact ih0 _ _ _ _
   | exact LeO.none _
   | refine LeO.ite ?_ ?_
   | refine LeO.bind ?_ (fun _ => ?_)
set_option maxHeartbeats 8000000 in
set_option maxRecDepth 100000 in
theorem spec_KeyOf.calls (k : Nat) (A0_0 : Option Addr) (c0_0 : Nat) (l0_0 : List Int) (a0_1 : Int) (a1 : Int) (r : Int) (w : World) (hr0_0 : Kd.C (Kd.int .i64) w A0_0 l0_0.length l0_0) (hc0_0 : l0_0.length ≤ c0_0) (h : spec_KeyOf.f k l0_0 a0_1 a1 = some r) :
  Calls Try.prog 165 #[.agg #[.slice A0_0 l0_0.length c0_0, .int .i64 a0_1], .int .i64 a1] w fun e w' => e = .returned (.int .i64 r) ∧ Below w.heap.size w w' := by
 have hu65 := Try.underlying65
 have HR0_0 := Aside0.mk hr0_0
 have HC0_0 := Aside0.mk hc0_0
 clear hr0_0 hc0_0
 have HB := Aside0.mk (Below.refl w.heap.size w)
 have H : (spec_KeyOf.l0 k a1 0 l0_0 a0_1) = some r := h
 clear h
 have H' := Aside0.mk H
 clear H
 go_enter Try.func165, Try.ntmps165
 go_wp2_with (first | ((with_reducible refine gate_dst (N := 2) rfl ?_); refine bx (N := 2) (cs := #[.slice A0_0 l0_0.length c0_0, .int .i64 a0_1]) (t := 65) ?_; intro gb450 hg w3 hbox hb; have BK450 := Aside0.mk (hbox); have GW450 := Aside0.mk (ge_ hg HB); have GE450 := Aside0.mk (ge_ hg HB); replace HB := bs HB hb; clear hb hbox hg))
 go_loopg [5] k (fun kq v5 w' => ∃ (x5_1 : Int), v5 = .int .i64 x5_1 ∧ Aside0 (spec_KeyOf.l0 kq a1 x5_1 l0_0 a0_1 = some r) ∧ Aside0 (kq ≤ k) ∧ Aside0 (w'.heap[gb450]? = some (.cells #[(.slice A0_0 l0_0.length c0_0), .int .i64 a0_1] 65 (0, 0))) ∧ Aside0 (Below w.heap.size w w'))
 case atStart => exact ⟨(0), (by first | rfl | (simp; done) | (simp [*]; done)), H', ⟨Nat.le_refl _⟩, ⟨by (with_reducible repeat (first | refine blk_drewN ?_ _ | refine blk_drew ?_ | refine blk_alloc ?_ _)); exact BK450.out⟩, ⟨tb HB⟩⟩
 case round =>
  clear H'
  try clear c1
  try clear p2
  obtain ⟨x5_1, rfl, HA, HK1, BK450, HB⟩ := hrel
  cases gk with
  | zero => exact absurd HA.out (by simp [spec_KeyOf.l0])
  | succ k1 =>
   have H := HA.out
   clear HA
   simp only [spec_KeyOf.l0] at H
   by_cases c4 : x5_1 < (l0_0.length : Int)
   ·rw [if_pos c4] at H
    have c4b0 := decide_eq_true c4
    clear c4
    by_cases c5 : 0 ≤ x5_1
    ·rw [if_pos c5] at H
     have c5b0 := decide_eq_true c5
     clear c5
     by_cases c6 : (rd l0_0 x5_1) = a1
     ·rw [if_pos c6] at H
      have c6b0 : ((rd l0_0 x5_1) == a1) = true := beq_iff_eq.mpr c6
      have c6b1 : ((rd l0_0 x5_1) != a1) = false := bne_eq_false_iff_eq.mpr c6
      clear c6
      obtain rfl := Option.some.inj H
      obtain ⟨hcz7_0, hcz7_1, hfz7_0, hfz7_1⟩ := c2 BK450
      have p451 : 0 ≤ (x5_1 : Int) := od
      have q451 : x5_1 < (l0_0.length : Int) := od
      obtain ⟨ad451, e451, hx451_0⟩ := Kd.at_int HR0_0.out x5_1 p451 q451
      cases e451
      replace hx451_0 := (HB.out.cell (World.block_lt_of_cell? w _ hx451_0)).trans hx451_0
      replace p451 := eq_true p451
      replace q451 := eq_true q451
      go_wp2
      go_ret
      exact ⟨er, tb HB⟩
     ·rw [if_neg c6] at H
      have c6b0 : ((rd l0_0 x5_1) == a1) = false := beq_eq_false_iff_ne.mpr c6
      have c6b1 : ((rd l0_0 x5_1) != a1) = true := bne_iff_ne.mpr c6
      have H' := Aside0.mk H
      clear H
      obtain ⟨hcz8_0, hcz8_1, hfz8_0, hfz8_1⟩ := c2 BK450
      have p451 : 0 ≤ (x5_1 : Int) := od
      have q451 : x5_1 < (l0_0.length : Int) := od
      obtain ⟨ad451, e451, hx451_0⟩ := Kd.at_int HR0_0.out x5_1 p451 q451
      cases e451
      replace hx451_0 := (HB.out.cell (World.block_lt_of_cell? w _ hx451_0)).trans hx451_0
      replace p451 := eq_true p451
      replace q451 := eq_true q451
      go_wp2
      go_roundg k1
      case measure => have := HK1.out; omega
      case rel => exact ⟨(wrap64 (x5_1 + 1)), (by first | rfl | (simp; done) | (simp [*]; done)), H', ⟨by have := HK1.out; omega⟩, ⟨by (with_reducible repeat (first | refine blk_drewN ?_ _ | refine blk_drew ?_ | refine blk_alloc ?_ _)); exact BK450.out⟩, ⟨tb HB⟩⟩
    ·rw [if_neg c5] at H
     exact absurd H (by simp)
   ·rw [if_neg c4] at H
    have c4b0 := decide_eq_false c4
    clear c4
    obtain rfl := Option.some.inj H
    obtain ⟨hcz9_0, hcz9_1, hfz9_0, hfz9_1⟩ := c2 BK450
    go_wp2
    go_ret
    exact ⟨er, tb HB⟩
def spec_RowsOk.l0 : Nat → Int → List Int → Int → Option (Bool)
 | 0, _, _, _ => none
 | k + 1, x3, x453000, x453001 => if x3 < (x453000.length : Int) then (if 0 ≤ x3 then (if (rd x453000 x3) = 0 then (spec_RowsOk.l0 k (wrap64 (x3 + 1)) x453000 x453001) else ((spec_ValOk.f (rd x453000 x3)).bind fun t456 => (if t456 = true then ((spec_KeyOf.f k x453000 x453001 (rd x453000 x3)).bind fun t458 => (if t458 = x3 then (spec_RowsOk.l0 k (wrap64 (x3 + 1)) x453000 x453001) else (some false))) else (some false)))) else (none)) else (if (x453000.length : Int) = 4 then ((spec_l1In.f x453001 0 5).bind fun t453 => (some t453)) else (some false))
def spec_RowsOk.f (k : Nat) (l0_0 : List Int) (a0_1 : Int) : Option (Bool) := spec_RowsOk.l0 k 0 l0_0 a0_1
theorem spec_RowsOk.mono_l : ∀ k, (∀ y0 y1 y2, LeO (spec_RowsOk.l0 k y0 y1 y2) (spec_RowsOk.l0 (k + 1) y0 y1 y2))
 | 0 => fun _ _ _ r h => by simp [spec_RowsOk.l0] at h
 | k + 1 => by
  have ih0 := spec_RowsOk.mono_l k
  ·intro y0 y1 y2
   unfold spec_RowsOk.l0
   repeat' first
   | (with_reducible exact ih0 _ _ _)
   | (with_reducible exact spec_KeyOf.mono _ _ _ _)
   | (with_reducible exact LeO.refl _)
   | (with_reducible exact LeO.none _)
   | (with_reducible refine LeO.ite ?_ ?_)
   | (with_reducible refine LeO.bind ?_ (fun _ => ?_))
   | exact ih0 _ _ _
   | exact spec_KeyOf.mono _ _ _ _
   | exact LeO.none _
   | refine LeO.ite ?_ ?_
   | refine LeO.bind ?_ (fun _ => ?_)
theorem spec_RowsOk.mono : ∀ a0 a1 k, LeO (spec_RowsOk.f k a0 a1) (spec_RowsOk.f (k + 1) a0 a1) := by
 intro a0 a1 k
 have ih0 := spec_RowsOk.mono_l k
 unfold spec_RowsOk.f
 repeat' first
   | (with_reducible exact ih0 _ _ _)
   | (with_reducible exact spec_KeyOf.mono _ _ _ _)
   | (with_reducible exact LeO.refl _)
   | (with_reducible exact LeO.none _)
   | (with_reducible refine LeO.ite ?_ ?_)
   | (with_reducible refine LeO.bind ?_ (fun _ => ?_))
   | exact ih0 _ _ _
   | exact spec_KeyOf.mono _ _ _ _
   | exact LeO.none _
   | refine LeO.ite ?_ ?_
   | refine LeO.bind ?_ (fun _ => ?_)
def spec_RowsOk.T4 : Bool × List (List Nat × List Nat) := (true, [([], []), ([0], [0]), ([], []), ([1, 2], [1, 2]), ([3], [3]), ([4], [4]), ([5], [5]), ([6], [6]), ([7, 6], [6, 7]), ([6], [6]), ([8, 9, 6], [6, 8, 9]), ([10, 6], [6, 10]), ([11, 6, 6], [6, 11]), ([12, 6], [6, 12]), ([13, 12, 6], [6, 13]), ([14], [14]), ([14], [14]), ([16, 14], [14, 16]), ([14], [14]), ([17, 18, 14], [14, 17, 18]), ([19, 14], [14, 19]), ([15, 20, 14, 14], [14, 15, 20]), ([14], [14]), ([21, 22, 14], [14, 21, 22]), ([14, 23, 6], [6, 14, 23]), ([6, 24], [6, 24])])
def spec_RowsOk.B4 : List Nat := [0, 1, 0, 7, 15, 31, 63, 127, 255, 127, 1023, 2047, 4095, 8191, 16383, 32767, 32767, 98303, 32767, 491519, 1015807, 2097151, 32767, 8388607, 16777215, 33554431]
theorem spec_RowsOk.tab4 : rtab .any (opsOf Try.f115 4) = spec_RowsOk.T4 := by kernel_rfl
theorem spec_RowsOk.bits4 : waitsOk spec_RowsOk.T4.2 spec_RowsOk.B4 = true := by kernel_rfl
set_option maxHeartbeats 8000000 in
set_option maxRecDepth 100000 in
theorem spec_RowsOk.calls (k : Nat) (A0_0 : Option Addr) (c0_0 : Nat) (l0_0 : List Int) (a0_1 : Int) (r : Bool) (w : World) (hr0_0 : Kd.C (Kd.int .i64) w A0_0 l0_0.length l0_0) (hc0_0 : l0_0.length ≤ c0_0) (h : spec_RowsOk.f k l0_0 a0_1 = some r) :
  Calls Try.prog 115 #[.agg #[.slice A0_0 l0_0.length c0_0, .int .i64 a0_1]] w fun e w' => e = .returned (.bool r) ∧ Below w.heap.size w w' := by
 have hu65 := Try.underlying65
 have HR0_0 := Aside0.mk hr0_0
 have HC0_0 := Aside0.mk hc0_0
 clear hr0_0 hc0_0
 have HB := Aside0.mk (Below.refl w.heap.size w)
 have H : (spec_RowsOk.l0 k 0 l0_0 a0_1) = some r := h
 clear h
 have H' := Aside0.mk H
 clear H
 go_enter Try.func115, Try.ntmps115
 go_wp2_with (first | ((with_reducible refine gate_dst (N := 1) rfl ?_); refine bx (N := 1) (cs := #[.slice A0_0 l0_0.length c0_0, .int .i64 a0_1]) (t := 65) ?_; intro gb452 hg w2 hbox hb; have BK452 := Aside0.mk (hbox); have GW452 := Aside0.mk (ge_ hg HB); have GE452 := Aside0.mk (ge_ hg HB); replace HB := bs HB hb; clear hb hbox hg))
 go_loopg [3] k (fun kq v3 w' => ∃ (x3_1 : Int), v3 = .int .i64 x3_1 ∧ Aside0 (spec_RowsOk.l0 kq x3_1 l0_0 a0_1 = some r) ∧ Aside0 (kq ≤ k) ∧ Aside0 (w'.heap[gb452]? = some (.cells #[(.slice A0_0 l0_0.length c0_0), .int .i64 a0_1] 65 (0, 0))) ∧ Aside0 (Below w.heap.size w w'))
 case atStart => exact ⟨(0), (by first | rfl | (simp; done) | (simp [*]; done)), H', ⟨Nat.le_refl _⟩, ⟨by (with_reducible repeat (first | refine blk_drewN ?_ _ | refine blk_drew ?_ | refine blk_alloc ?_ _)); exact BK452.out⟩, ⟨tb HB⟩⟩
 case round =>
  clear H'
  try clear c1
  try clear p2
  obtain ⟨x3_1, rfl, HA, HK1, BK452, HB⟩ := hrel
  cases gk with
  | zero => exact absurd HA.out (by simp [spec_RowsOk.l0])
  | succ k1 =>
   have H := HA.out
   clear HA
   simp only [spec_RowsOk.l0] at H
   by_cases c3 : x3_1 < (l0_0.length : Int)
   ·rw [if_pos c3] at H
    have c3b0 := decide_eq_true c3
    clear c3
    by_cases c4 : 0 ≤ x3_1
    ·rw [if_pos c4] at H
     have c4b0 := decide_eq_true c4
     clear c4
     by_cases c5 : (rd l0_0 x3_1) = 0
     ·rw [if_pos c5] at H
      have c5b0 : ((rd l0_0 x3_1) == 0) = true := beq_iff_eq.mpr c5
      have c5b1 : ((rd l0_0 x3_1) != 0) = false := bne_eq_false_iff_eq.mpr c5
      clear c5
      have H' := Aside0.mk H
      clear H
      obtain ⟨hcz6_0, hcz6_1, hfz6_0, hfz6_1⟩ := c2 BK452
      try go_wp2
      replace BK452 := bd BK452
      replace HB := Aside0.mk (below_drew1 HB.out)
      have p454 : 0 ≤ (x3_1 : Int) := od
      have q454 : x3_1 < (l0_0.length : Int) := od
      obtain ⟨ad454, e454, hx454_0⟩ := Kd.at_int HR0_0.out x3_1 p454 q454
      have hw454_0 := hx454_0
      cases e454
      replace hx454_0 := (HB.out.cell (World.block_lt_of_cell? w _ hx454_0)).trans hx454_0
      replace p454 := eq_true p454
      replace q454 := eq_true q454
      refine start_ (n := 26) (S := fun w' => w'.cell? ⟨gb452, 0, none⟩ = some (.slice (some ad454) l0_0.length c0_0) ∧ w'.cell? ⟨gb452, 1, none⟩ = some (.int .i64 a0_1) ∧ w'.cell? (ad454.add (x3_1).toNat) = some (.int .i64 (rd l0_0 x3_1))) (ds := []) #[false, false, false, false, false, false, false, false, false, false, false, false, false, false, false, false, false, false, false, false, false, false, false, false, false, false] (by kernel_rfl) rfl rfl ⟨cz BK452 0, cz BK452 1, ((HB.out.cell (World.block_lt_of_cell? w _ hw454_0)).trans hw454_0)⟩ (fun hHeld => ?_); refine with_tabW spec_RowsOk.tab4 spec_RowsOk.bits4 (fun HT_ HW_ => ?_)
      generalize wr.drew = w7 at BK452 HB hx454_0 hHeld ⊢
      refine pu 0 11 ?_
      refine pu 2 13 ?_
      refine ta 1 12 ?_
      refine pu 3 14 ?_
      refine ta 4 15 ?_
      refine pu 5 16 ?_
      refine pu 6 17 ?_
      refine pn 7 18 ?_
      refine pn 8 19 ?_
      refine pn 9 20 ?_
      refine pn 10 21 ?_
      refine pn 11 22 ?_
      refine pn 12 23 ?_
      refine pn 13 24 ?_
      refine pn 14 25 ?_
      refine pn 15 26 ?_
      refine pn 16 27 ?_
      refine pn 17 28 ?_
      refine pn 18 29 ?_
      refine pn 19 30 ?_
      refine pn 20 31 ?_
      refine pn 21 32 ?_
      refine pn 22 33 ?_
      refine pn 23 34 ?_
      refine pn 24 35 ?_
      refine pu 25 36 ?_
      refine done_ (done_of HT_.out (by kernel_rfl)) ?_
      try go_wp2
      go_roundg k1
      case measure => have := HK1.out; omega
      case rel => exact ⟨(wrap64 (x3_1 + 1)), (by first | rfl | (simp; done) | (simp [*]; done)), H', ⟨by have := HK1.out; omega⟩, ⟨by (with_reducible repeat (first | refine blk_drewN ?_ _ | refine blk_drew ?_ | refine blk_alloc ?_ _)); exact BK452.out⟩, ⟨tb HB⟩⟩
     ·rw [if_neg c5] at H
      have c5b0 : ((rd l0_0 x3_1) == 0) = false := beq_eq_false_iff_ne.mpr c5
      have c5b1 : ((rd l0_0 x3_1) != 0) = true := bne_iff_ne.mpr c5
      replace H := Option.bind_eq_some_iff.mp H
      obtain ⟨t456, A80, H⟩ := H
      replace H : (if t456 = true then ((spec_KeyOf.f k1 l0_0 a0_1 (rd l0_0 x3_1)).bind fun t458 => (if t458 = x3_1 then (spec_RowsOk.l0 k1 (wrap64 (x3_1 + 1)) l0_0 a0_1) else (some false))) else (some false)) = some r := H
      have A8 := Aside0.mk A80
      clear A80
      by_cases c9 : t456 = true
      ·subst c9
       have H1 : ((spec_KeyOf.f k1 l0_0 a0_1 (rd l0_0 x3_1)).bind fun t458 => (if t458 = x3_1 then (spec_RowsOk.l0 k1 (wrap64 (x3_1 + 1)) l0_0 a0_1) else (some false))) = some r := by rw [if_pos rfl] at H; exact H
       clear H
       have H := H1
       clear H1
       replace H := Option.bind_eq_some_iff.mp H
       obtain ⟨t458, A100, H⟩ := H
       replace H : (if t458 = x3_1 then (spec_RowsOk.l0 k1 (wrap64 (x3_1 + 1)) l0_0 a0_1) else (some false)) = some r := H
       have A10 := Aside0.mk A100
       clear A100
       by_cases c11 : t458 = x3_1
       ·rw [if_pos c11] at H
        have c11b0 : (t458 == x3_1) = true := beq_iff_eq.mpr c11
        have c11b1 : (t458 != x3_1) = false := bne_eq_false_iff_eq.mpr c11
        clear c11
        have H' := Aside0.mk H
        clear H
        obtain ⟨hcz12_0, hcz12_1, hfz12_0, hfz12_1⟩ := c2 BK452
        try go_wp2
        replace BK452 := bd BK452
        replace HB := Aside0.mk (below_drew1 HB.out)
        have p454 : 0 ≤ (x3_1 : Int) := od
        have q454 : x3_1 < (l0_0.length : Int) := od
        obtain ⟨ad454, e454, hx454_0⟩ := Kd.at_int HR0_0.out x3_1 p454 q454
        have hw454_0 := hx454_0
        cases e454
        replace hx454_0 := (HB.out.cell (World.block_lt_of_cell? w _ hx454_0)).trans hx454_0
        replace p454 := eq_true p454
        replace q454 := eq_true q454
        have p455 : 0 ≤ (x3_1 : Int) := od
        have q455 : x3_1 < (l0_0.length : Int) := od
        obtain ⟨ad455, e455, hx455_0⟩ := Kd.at_int HR0_0.out x3_1 p455 q455
        have hw455_0 := hx455_0
        obtain rfl : ad454 = ad455 := (by injection e455)
        replace hx455_0 := (HB.out.cell (World.block_lt_of_cell? w _ hx455_0)).trans hx455_0
        replace p455 := eq_true p455
        replace q455 := eq_true q455
        have p457 : 0 ≤ (x3_1 : Int) := od
        have q457 : x3_1 < (l0_0.length : Int) := od
        obtain ⟨ad457, e457, hx457_0⟩ := Kd.at_int HR0_0.out x3_1 p457 q457
        have hw457_0 := hx457_0
        obtain rfl : ad454 = ad457 := (by injection e457)
        replace hx457_0 := (HB.out.cell (World.block_lt_of_cell? w _ hx457_0)).trans hx457_0
        replace p457 := eq_true p457
        replace q457 := eq_true q457
        refine start_ (n := 26) (S := fun w' => w'.cell? ⟨gb452, 0, none⟩ = some (.slice (some ad454) l0_0.length c0_0) ∧ w'.cell? ⟨gb452, 1, none⟩ = some (.int .i64 a0_1) ∧ w'.cell? (ad454.add (x3_1).toNat) = some (.int .i64 (rd l0_0 x3_1)) ∧ w'.cell? (ad454.add (x3_1).toNat) = some (.int .i64 (rd l0_0 x3_1)) ∧ w'.cell? (ad454.add (x3_1).toNat) = some (.int .i64 (rd l0_0 x3_1))) (ds := []) #[false, false, false, false, false, false, false, false, false, false, false, false, false, false, false, false, false, false, false, false, false, false, false, false, false, false] (by kernel_rfl) rfl rfl ⟨cz BK452 0, cz BK452 1, ((HB.out.cell (World.block_lt_of_cell? w _ hw454_0)).trans hw454_0), ((HB.out.cell (World.block_lt_of_cell? w _ hw455_0)).trans hw455_0), ((HB.out.cell (World.block_lt_of_cell? w _ hw457_0)).trans hw457_0)⟩ (fun hHeld => ?_); refine with_tabW spec_RowsOk.tab4 spec_RowsOk.bits4 (fun HT_ HW_ => ?_)
        generalize wr.drew = w13 at BK452 HB hx454_0 hx455_0 hx457_0 hHeld ⊢
        refine pu 0 11 ?_
        refine pu 2 13 ?_
        refine ta 1 12 ?_
        refine pu 3 14 ?_
        refine ta 4 15 ?_
        refine pu 5 16 ?_
        refine pu 6 17 ?_
        refine pu 7 18 ?_
        refine pu 9 20 ?_
        refine ta 8 19 ?_
        refine pu 10 21 ?_
        refine ta 11 22 ?_
        refine one_ (i := 12) (N := some 23) #[true, true, true, true, true, true, true, true, true, true, true, true, true, false, false, false, false, false, false, false, false, false, false, false, false, false] rfl rfl (one_of HT_.out (by kernel_rfl)) (by decide) (fun K hK => ?_)
        refine gS Try.func125 #[.int .i64 (rd l0_0 x3_1)] ?_
        with_reducible refine (spec_ValOk.calls (rd l0_0 x3_1) true _ A8.out).mono ?_
        rintro e w' ⟨rfl, ⟨nd, rfl⟩⟩
        refine ⟨_, rfl, ?_⟩
        refine hK.out _ _ ⟨cz BK452 0, cz BK452 1, ((HB.out.cell (World.block_lt_of_cell? w _ hw454_0)).trans hw454_0), ((HB.out.cell (World.block_lt_of_cell? w _ hw455_0)).trans hw455_0), ((HB.out.cell (World.block_lt_of_cell? w _ hw457_0)).trans hw457_0)⟩ (fun hHeld => ?_)
        clear hK K
        refine nm 23 ?_
        refine pu 13 24 ?_
        refine pu 14 25 ?_
        refine pu 16 27 ?_
        refine pu 18 29 ?_
        refine pu 22 33 ?_
        refine ta 15 26 ?_
        refine ta 17 28 ?_
        refine pu 19 30 ?_
        refine ta 20 31 ?_
        refine one_ (i := 21) (N := some 32) #[true, true, true, true, true, true, true, true, true, true, true, true, true, true, true, true, true, true, true, true, true, true, true, false, false, false] rfl rfl (one_of HT_.out (by kernel_rfl)) (by decide) (fun K hK => ?_)
        refine gS Try.func165 #[.agg #[.slice (some ad454) l0_0.length c0_0, .int .i64 a0_1], .int .i64 (rd l0_0 x3_1)] ?_
        with_reducible refine (spec_KeyOf.calls k1 _ _ l0_0 a0_1 (rd l0_0 x3_1) t458 _ ?side1 ?side2 A10.out).mono ?_
        (case side1 => repeat (first | exact (Kd.C_below HR0_0.out (tb HB)) | (with_reducible refine Kd.C_alloc ?_ _) | (with_reducible refine Kd.C_drewN ?_ _) | (with_reducible refine Kd.C_drew ?_)))
        (case side2 => exact HC0_0.out)
        rintro e w14 ⟨rfl, hb⟩
        refine ⟨_, rfl, ?_⟩
        replace BK452 := bb BK452 hb
        replace HB := bs HB hb
        (try clear hb)
        (try clear hb2)
        (try clear hk)
        (try clear hi)
        refine hK.out _ _ ⟨cz BK452 0, cz BK452 1, ((HB.out.cell (World.block_lt_of_cell? w _ hw454_0)).trans hw454_0), ((HB.out.cell (World.block_lt_of_cell? w _ hw455_0)).trans hw455_0), ((HB.out.cell (World.block_lt_of_cell? w _ hw457_0)).trans hw457_0)⟩ (fun hHeld => ?_)
        clear hK K
        refine nm 32 ?_
        refine pu 23 34 ?_
        refine pu 24 35 ?_
        refine pu 25 36 ?_
        refine done_ (done_of HT_.out (by kernel_rfl)) ?_
        try go_wp2
        go_roundg k1
        case measure => have := HK1.out; omega
        case rel => exact ⟨(wrap64 (x3_1 + 1)), (by first | rfl | (simp; done) | (simp [*]; done)), H', ⟨by have := HK1.out; omega⟩, ⟨by (with_reducible repeat (first | refine blk_drewN ?_ _ | refine blk_drew ?_ | refine blk_alloc ?_ _)); exact BK452.out⟩, ⟨tb HB⟩⟩
       ·rw [if_neg c11] at H
        have c11b0 : (t458 == x3_1) = false := beq_eq_false_iff_ne.mpr c11
        have c11b1 : (t458 != x3_1) = true := bne_iff_ne.mpr c11
        obtain rfl := Option.some.inj H
        obtain ⟨hcz15_0, hcz15_1, hfz15_0, hfz15_1⟩ := c2 BK452
        try go_wp2
        replace BK452 := bd BK452
        replace HB := Aside0.mk (below_drew1 HB.out)
        have p454 : 0 ≤ (x3_1 : Int) := od
        have q454 : x3_1 < (l0_0.length : Int) := od
        obtain ⟨ad454, e454, hx454_0⟩ := Kd.at_int HR0_0.out x3_1 p454 q454
        have hw454_0 := hx454_0
        cases e454
        replace hx454_0 := (HB.out.cell (World.block_lt_of_cell? w _ hx454_0)).trans hx454_0
        replace p454 := eq_true p454
        replace q454 := eq_true q454
        have p455 : 0 ≤ (x3_1 : Int) := od
        have q455 : x3_1 < (l0_0.length : Int) := od
        obtain ⟨ad455, e455, hx455_0⟩ := Kd.at_int HR0_0.out x3_1 p455 q455
        have hw455_0 := hx455_0
        obtain rfl : ad454 = ad455 := (by injection e455)
        replace hx455_0 := (HB.out.cell (World.block_lt_of_cell? w _ hx455_0)).trans hx455_0
        replace p455 := eq_true p455
        replace q455 := eq_true q455
        have p457 : 0 ≤ (x3_1 : Int) := od
        have q457 : x3_1 < (l0_0.length : Int) := od
        obtain ⟨ad457, e457, hx457_0⟩ := Kd.at_int HR0_0.out x3_1 p457 q457
        have hw457_0 := hx457_0
        obtain rfl : ad454 = ad457 := (by injection e457)
        replace hx457_0 := (HB.out.cell (World.block_lt_of_cell? w _ hx457_0)).trans hx457_0
        replace p457 := eq_true p457
        replace q457 := eq_true q457
        refine start_ (n := 26) (S := fun w' => w'.cell? ⟨gb452, 0, none⟩ = some (.slice (some ad454) l0_0.length c0_0) ∧ w'.cell? ⟨gb452, 1, none⟩ = some (.int .i64 a0_1) ∧ w'.cell? (ad454.add (x3_1).toNat) = some (.int .i64 (rd l0_0 x3_1)) ∧ w'.cell? (ad454.add (x3_1).toNat) = some (.int .i64 (rd l0_0 x3_1)) ∧ w'.cell? (ad454.add (x3_1).toNat) = some (.int .i64 (rd l0_0 x3_1))) (ds := []) #[false, false, false, false, false, false, false, false, false, false, false, false, false, false, false, false, false, false, false, false, false, false, false, false, false, false] (by kernel_rfl) rfl rfl ⟨cz BK452 0, cz BK452 1, ((HB.out.cell (World.block_lt_of_cell? w _ hw454_0)).trans hw454_0), ((HB.out.cell (World.block_lt_of_cell? w _ hw455_0)).trans hw455_0), ((HB.out.cell (World.block_lt_of_cell? w _ hw457_0)).trans hw457_0)⟩ (fun hHeld => ?_); refine with_tabW spec_RowsOk.tab4 spec_RowsOk.bits4 (fun HT_ HW_ => ?_)
        generalize wr.drew = w16 at BK452 HB hx454_0 hx455_0 hx457_0 hHeld ⊢
        refine pu 0 11 ?_
        refine pu 2 13 ?_
        refine ta 1 12 ?_
        refine pu 3 14 ?_
        refine ta 4 15 ?_
        refine pu 5 16 ?_
        refine pu 6 17 ?_
        refine pu 7 18 ?_
        refine pu 9 20 ?_
        refine ta 8 19 ?_
        refine pu 10 21 ?_
        refine ta 11 22 ?_
        refine one_ (i := 12) (N := some 23) #[true, true, true, true, true, true, true, true, true, true, true, true, true, false, false, false, false, false, false, false, false, false, false, false, false, false] rfl rfl (one_of HT_.out (by kernel_rfl)) (by decide) (fun K hK => ?_)
        refine gS Try.func125 #[.int .i64 (rd l0_0 x3_1)] ?_
        with_reducible refine (spec_ValOk.calls (rd l0_0 x3_1) true _ A8.out).mono ?_
        rintro e w' ⟨rfl, ⟨nd, rfl⟩⟩
        refine ⟨_, rfl, ?_⟩
        refine hK.out _ _ ⟨cz BK452 0, cz BK452 1, ((HB.out.cell (World.block_lt_of_cell? w _ hw454_0)).trans hw454_0), ((HB.out.cell (World.block_lt_of_cell? w _ hw455_0)).trans hw455_0), ((HB.out.cell (World.block_lt_of_cell? w _ hw457_0)).trans hw457_0)⟩ (fun hHeld => ?_)
        clear hK K
        refine nm 23 ?_
        refine pu 13 24 ?_
        refine pu 14 25 ?_
        refine pu 16 27 ?_
        refine pu 18 29 ?_
        refine pu 22 33 ?_
        refine ta 15 26 ?_
        refine ta 17 28 ?_
        refine pu 19 30 ?_
        refine ta 20 31 ?_
        refine one_ (i := 21) (N := some 32) #[true, true, true, true, true, true, true, true, true, true, true, true, true, true, true, true, true, true, true, true, true, true, true, false, false, false] rfl rfl (one_of HT_.out (by kernel_rfl)) (by decide) (fun K hK => ?_)
        refine gS Try.func165 #[.agg #[.slice (some ad454) l0_0.length c0_0, .int .i64 a0_1], .int .i64 (rd l0_0 x3_1)] ?_
        with_reducible refine (spec_KeyOf.calls k1 _ _ l0_0 a0_1 (rd l0_0 x3_1) t458 _ ?side1 ?side2 A10.out).mono ?_
        (case side1 => repeat (first | exact (Kd.C_below HR0_0.out (tb HB)) | (with_reducible refine Kd.C_alloc ?_ _) | (with_reducible refine Kd.C_drewN ?_ _) | (with_reducible refine Kd.C_drew ?_)))
        (case side2 => exact HC0_0.out)
        rintro e w17 ⟨rfl, hb⟩
        refine ⟨_, rfl, ?_⟩
        replace BK452 := bb BK452 hb
        replace HB := bs HB hb
        (try clear hb)
        (try clear hb2)
        (try clear hk)
        (try clear hi)
        refine hK.out _ _ ⟨cz BK452 0, cz BK452 1, ((HB.out.cell (World.block_lt_of_cell? w _ hw454_0)).trans hw454_0), ((HB.out.cell (World.block_lt_of_cell? w _ hw455_0)).trans hw455_0), ((HB.out.cell (World.block_lt_of_cell? w _ hw457_0)).trans hw457_0)⟩ (fun hHeld => ?_)
        clear hK K
        refine nm 32 ?_
        refine pu 23 34 ?_
        refine pu 24 35 ?_
        refine pu 25 36 ?_
        refine done_ (done_of HT_.out (by kernel_rfl)) ?_
        try go_wp2
        go_ret
        exact ⟨er, tb HB⟩
      ·replace c9 := Bool.eq_false_iff.mpr c9
       subst c9
       have H1 : (some false) = some r := by rw [if_neg (show ¬ (false = true) by decide)] at H; exact H
       clear H
       have H := H1
       clear H1
       obtain rfl := Option.some.inj H
       obtain ⟨hcz18_0, hcz18_1, hfz18_0, hfz18_1⟩ := c2 BK452
       try go_wp2
       replace BK452 := bd BK452
       replace HB := Aside0.mk (below_drew1 HB.out)
       have p454 : 0 ≤ (x3_1 : Int) := od
       have q454 : x3_1 < (l0_0.length : Int) := od
       obtain ⟨ad454, e454, hx454_0⟩ := Kd.at_int HR0_0.out x3_1 p454 q454
       have hw454_0 := hx454_0
       cases e454
       replace hx454_0 := (HB.out.cell (World.block_lt_of_cell? w _ hx454_0)).trans hx454_0
       replace p454 := eq_true p454
       replace q454 := eq_true q454
       have p455 : 0 ≤ (x3_1 : Int) := od
       have q455 : x3_1 < (l0_0.length : Int) := od
       obtain ⟨ad455, e455, hx455_0⟩ := Kd.at_int HR0_0.out x3_1 p455 q455
       have hw455_0 := hx455_0
       obtain rfl : ad454 = ad455 := (by injection e455)
       replace hx455_0 := (HB.out.cell (World.block_lt_of_cell? w _ hx455_0)).trans hx455_0
       replace p455 := eq_true p455
       replace q455 := eq_true q455
       refine start_ (n := 26) (S := fun w' => w'.cell? ⟨gb452, 0, none⟩ = some (.slice (some ad454) l0_0.length c0_0) ∧ w'.cell? ⟨gb452, 1, none⟩ = some (.int .i64 a0_1) ∧ w'.cell? (ad454.add (x3_1).toNat) = some (.int .i64 (rd l0_0 x3_1)) ∧ w'.cell? (ad454.add (x3_1).toNat) = some (.int .i64 (rd l0_0 x3_1))) (ds := []) #[false, false, false, false, false, false, false, false, false, false, false, false, false, false, false, false, false, false, false, false, false, false, false, false, false, false] (by kernel_rfl) rfl rfl ⟨cz BK452 0, cz BK452 1, ((HB.out.cell (World.block_lt_of_cell? w _ hw454_0)).trans hw454_0), ((HB.out.cell (World.block_lt_of_cell? w _ hw455_0)).trans hw455_0)⟩ (fun hHeld => ?_); refine with_tabW spec_RowsOk.tab4 spec_RowsOk.bits4 (fun HT_ HW_ => ?_)
       generalize wr.drew = w19 at BK452 HB hx454_0 hx455_0 hHeld ⊢
       refine pu 0 11 ?_
       refine pu 2 13 ?_
       refine ta 1 12 ?_
       refine pu 3 14 ?_
       refine ta 4 15 ?_
       refine pu 5 16 ?_
       refine pu 6 17 ?_
       refine pu 7 18 ?_
       refine pu 9 20 ?_
       refine ta 8 19 ?_
       refine pu 10 21 ?_
       refine ta 11 22 ?_
       refine one_ (i := 12) (N := some 23) #[true, true, true, true, true, true, true, true, true, true, true, true, true, false, false, false, false, false, false, false, false, false, false, false, false, false] rfl rfl (one_of HT_.out (by kernel_rfl)) (by decide) (fun K hK => ?_)
       refine gS Try.func125 #[.int .i64 (rd l0_0 x3_1)] ?_
       with_reducible refine (spec_ValOk.calls (rd l0_0 x3_1) false _ A8.out).mono ?_
       rintro e w' ⟨rfl, ⟨nd, rfl⟩⟩
       refine ⟨_, rfl, ?_⟩
       refine hK.out _ _ ⟨cz BK452 0, cz BK452 1, ((HB.out.cell (World.block_lt_of_cell? w _ hw454_0)).trans hw454_0), ((HB.out.cell (World.block_lt_of_cell? w _ hw455_0)).trans hw455_0)⟩ (fun hHeld => ?_)
       clear hK K
       refine nm 23 ?_
       refine pu 13 24 ?_
       refine pu 14 25 ?_
       refine pn 15 26 ?_
       refine pn 16 27 ?_
       refine pn 17 28 ?_
       refine pn 18 29 ?_
       refine pn 19 30 ?_
       refine pn 20 31 ?_
       refine pn 21 32 ?_
       refine pn 22 33 ?_
       refine pn 23 34 ?_
       refine pu 24 35 ?_
       refine pu 25 36 ?_
       refine done_ (done_of HT_.out (by kernel_rfl)) ?_
       try go_wp2
       go_ret
       exact ⟨er, tb HB⟩
    ·rw [if_neg c4] at H
     exact absurd H (by simp)
   ·rw [if_neg c3] at H
    have c3b0 := decide_eq_false c3
    clear c3
    by_cases c20 : (l0_0.length : Int) = 4
    ·rw [if_pos c20] at H
     have c20b0 : ((l0_0.length : Int) == 4) = true := beq_iff_eq.mpr c20
     have c20b1 : ((l0_0.length : Int) != 4) = false := bne_eq_false_iff_eq.mpr c20
     clear c20
     replace H := Option.bind_eq_some_iff.mp H
     obtain ⟨t453, A210, H⟩ := H
     replace H : (some t453) = some r := H
     have A21 := Aside0.mk A210
     clear A210
     obtain rfl := Option.some.inj H
     obtain ⟨hcz22_0, hcz22_1, hfz22_0, hfz22_1⟩ := c2 BK452
     go_wp2_with (first | (go_at_call 79; (with_reducible refine (spec_l1In.calls a0_1 0 5 t453 _ A21.out).mono ?_); rintro e w' ⟨rfl, ⟨nd, rfl⟩⟩))
     go_ret
     exact ⟨er, tb HB⟩
    ·rw [if_neg c20] at H
     have c20b0 : ((l0_0.length : Int) == 4) = false := beq_eq_false_iff_ne.mpr c20
     have c20b1 : ((l0_0.length : Int) != 4) = true := bne_iff_ne.mpr c20
     obtain rfl := Option.some.inj H
     obtain ⟨hcz23_0, hcz23_1, hfz23_0, hfz23_1⟩ := c2 BK452
     go_wp2
     go_ret
     exact ⟨er, tb HB⟩
def spec_l4Fails.j0 : Nat → Bool → Bool → Int → Bool → List Int → Int → Int → Int → Int → Option (Bool)
 | 0, _, _, _, _, _, _, _, _, _ => none
 | k + 1, x7, x8, x48, x49, x460000, x460001, x461000, x461001, x461002 => if x49 = true then (if 0 ≤ x461001 then (if x461001 < (x460000.length : Int) then (some ((rd x460000 x461001) == 0)) else (none)) else (none)) else (if x48 = 5 then (some (!x7)) else (if x48 = 10 then (if x8 = true then (some (!x7)) else (some false)) else (some false)))
def spec_l4Fails.f (k : Nat) (l0_0 : List Int) (a0_1 : Int) (a1_0 : Int) (a1_1 : Int) (a1_2 : Int) (a2 : Int) : Option (Bool) := (spec_KeyOf.f k l0_0 a0_1 a1_2).bind fun t461 => (if a2 = 1 then (if a1_0 = 1 then (if 0 ≤ a1_1 then (if a1_1 < (l0_0.length : Int) then (some ((rd l0_0 a1_1) != 0)) else (none)) else (none)) else (some false)) else (if a2 = 2 then (if a1_0 = 1 then (some (decide (t461 ≥ 0))) else (if a1_0 = 2 then (some (decide (t461 ≥ 0))) else (some false))) else (if a2 = 3 then (if a1_0 = 2 then (spec_l4Fails.j0 k (decide (t461 ≥ 0)) (a0_1 == 5) a1_0 (a1_0 == 2) l0_0 a0_1 a1_0 a1_1 a1_2) else (if a1_0 = 3 then (spec_l4Fails.j0 k (decide (t461 ≥ 0)) (a0_1 == 5) a1_0 (a1_0 == 3) l0_0 a0_1 a1_0 a1_1 a1_2) else (spec_l4Fails.j0 k (decide (t461 ≥ 0)) (a0_1 == 5) a1_0 (a1_0 == 4) l0_0 a0_1 a1_0 a1_1 a1_2))) else (if a2 = 4 then (if a1_0 = 8 then (some (a0_1 != 0)) else (if a1_0 = 9 then (if a0_1 = 0 then (some true) else (some (a0_1 == 5))) else (if a1_0 = 10 then (some (!(a0_1 == 5))) else (some false)))) else (some false)))))
theorem spec_l4Fails.mono_l : ∀ k, (∀ y0 y1 y2 y3 y4 y5 y6 y7 y8, LeO (spec_l4Fails.j0 k y0 y1 y2 y3 y4 y5 y6 y7 y8) (spec_l4Fails.j0 (k + 1) y0 y1 y2 y3 y4 y5 y6 y7 y8))
 | 0 => fun _ _ _ _ _ _ _ _ _ r h => by simp [spec_l4Fails.j0] at h
 | k + 1 => by
  have ih0 := spec_l4Fails.mono_l k
  ·intro y0 y1 y2 y3 y4 y5 y6 y7 y8
   unfold spec_l4Fails.j0
   repeat' first
   | (with_reducible exact ih0 _ _ _ _ _ _ _ _ _)
   | (with_reducible exact spec_KeyOf.mono _ _ _ _)
   | (with_reducible exact LeO.refl _)
   | (with_reducible exact LeO.none _)
   | (with_reducible refine LeO.ite ?_ ?_)
   | (with_reducible refine LeO.bind ?_ (fun _ => ?_))
   | exact ih0 _ _ _ _ _ _ _ _ _
   | exact spec_KeyOf.mono _ _ _ _
   | exact LeO.none _
   | refine LeO.ite ?_ ?_
   | refine LeO.bind ?_ (fun _ => ?_)
theorem spec_l4Fails.mono : ∀ a0 a1 a2 a3 a4 a5 k, LeO (spec_l4Fails.f k a0 a1 a2 a3 a4 a5) (spec_l4Fails.f (k + 1) a0 a1 a2 a3 a4 a5) := by
 intro a0 a1 a2 a3 a4 a5 k
 have ih0 := spec_l4Fails.mono_l k
 unfold spec_l4Fails.f
 repeat' first
   | (with_reducible exact ih0 _ _ _ _ _ _ _ _ _)
   | (with_reducible exact spec_KeyOf.mono _ _ _ _)
   | (with_reducible exact LeO.refl _)
   | (with_reducible exact LeO.none _)
   | (with_reducible refine LeO.ite ?_ ?_)
   | (with_reducible refine LeO.bind ?_ (fun _ => ?_))
   | exact ih0 _ _ _ _ _ _ _ _ _
   | exact spec_KeyOf.mono _ _ _ _
   | exact LeO.none _
   | refine LeO.ite ?_ ?_
   | refine LeO.bind ?_ (fun _ => ?_)
set_option maxHeartbeats 8000000 in
set_option maxRecDepth 100000 in
theorem spec_l4Fails.calls (k : Nat) (A0_0 : Option Addr) (c0_0 : Nat) (l0_0 : List Int) (a0_1 : Int) (a1_0 : Int) (a1_1 : Int) (a1_2 : Int) (a2 : Int) (r : Bool) (w : World) (hr0_0 : Kd.C (Kd.int .i64) w A0_0 l0_0.length l0_0) (hc0_0 : l0_0.length ≤ c0_0) (h : spec_l4Fails.f k l0_0 a0_1 a1_0 a1_1 a1_2 a2 = some r) :
  Calls Try.prog 116 #[.agg #[.slice A0_0 l0_0.length c0_0, .int .i64 a0_1], .agg #[.int .i64 a1_0, .int .i64 a1_1, .int .i64 a1_2], .int .i64 a2] w fun e w' => e = .returned (.bool r) ∧ Below w.heap.size w w' := by
 have hu65 := Try.underlying65
 have hu68 := Try.underlying68
 have HR0_0 := Aside0.mk hr0_0
 have HC0_0 := Aside0.mk hc0_0
 clear hr0_0 hc0_0
 have HB := Aside0.mk (Below.refl w.heap.size w)
 have H : ((spec_KeyOf.f k l0_0 a0_1 a1_2).bind fun t461 => (if a2 = 1 then (if a1_0 = 1 then (if 0 ≤ a1_1 then (if a1_1 < (l0_0.length : Int) then (some ((rd l0_0 a1_1) != 0)) else (none)) else (none)) else (some false)) else (if a2 = 2 then (if a1_0 = 1 then (some (decide (t461 ≥ 0))) else (if a1_0 = 2 then (some (decide (t461 ≥ 0))) else (some false))) else (if a2 = 3 then (if a1_0 = 2 then (spec_l4Fails.j0 k (decide (t461 ≥ 0)) (a0_1 == 5) a1_0 (a1_0 == 2) l0_0 a0_1 a1_0 a1_1 a1_2) else (if a1_0 = 3 then (spec_l4Fails.j0 k (decide (t461 ≥ 0)) (a0_1 == 5) a1_0 (a1_0 == 3) l0_0 a0_1 a1_0 a1_1 a1_2) else (spec_l4Fails.j0 k (decide (t461 ≥ 0)) (a0_1 == 5) a1_0 (a1_0 == 4) l0_0 a0_1 a1_0 a1_1 a1_2))) else (if a2 = 4 then (if a1_0 = 8 then (some (a0_1 != 0)) else (if a1_0 = 9 then (if a0_1 = 0 then (some true) else (some (a0_1 == 5))) else (if a1_0 = 10 then (some (!(a0_1 == 5))) else (some false)))) else (some false)))))) = some r := h
 clear h
 replace H := Option.bind_eq_some_iff.mp H
 obtain ⟨t461, A40, H⟩ := H
 replace H : (if a2 = 1 then (if a1_0 = 1 then (if 0 ≤ a1_1 then (if a1_1 < (l0_0.length : Int) then (some ((rd l0_0 a1_1) != 0)) else (none)) else (none)) else (some false)) else (if a2 = 2 then (if a1_0 = 1 then (some (decide (t461 ≥ 0))) else (if a1_0 = 2 then (some (decide (t461 ≥ 0))) else (some false))) else (if a2 = 3 then (if a1_0 = 2 then (spec_l4Fails.j0 k (decide (t461 ≥ 0)) (a0_1 == 5) a1_0 (a1_0 == 2) l0_0 a0_1 a1_0 a1_1 a1_2) else (if a1_0 = 3 then (spec_l4Fails.j0 k (decide (t461 ≥ 0)) (a0_1 == 5) a1_0 (a1_0 == 3) l0_0 a0_1 a1_0 a1_1 a1_2) else (spec_l4Fails.j0 k (decide (t461 ≥ 0)) (a0_1 == 5) a1_0 (a1_0 == 4) l0_0 a0_1 a1_0 a1_1 a1_2))) else (if a2 = 4 then (if a1_0 = 8 then (some (a0_1 != 0)) else (if a1_0 = 9 then (if a0_1 = 0 then (some true) else (some (a0_1 == 5))) else (if a1_0 = 10 then (some (!(a0_1 == 5))) else (some false)))) else (some false))))) = some r := H
 have A4 := Aside0.mk A40
 clear A40
 by_cases c5 : a2 = 1
 ·rw [if_pos c5] at H
  have c5b0 : (a2 == 1) = true := beq_iff_eq.mpr c5
  have c5b1 : (a2 != 1) = false := bne_eq_false_iff_eq.mpr c5
  clear c5
  by_cases c6 : a1_0 = 1
  ·rw [if_pos c6] at H
   have c6b0 : (a1_0 == 1) = true := beq_iff_eq.mpr c6
   have c6b1 : (a1_0 != 1) = false := bne_eq_false_iff_eq.mpr c6
   clear c6
   by_cases c7 : 0 ≤ a1_1
   ·rw [if_pos c7] at H
    have c7b0 := decide_eq_true c7
    clear c7
    by_cases c8 : a1_1 < (l0_0.length : Int)
    ·rw [if_pos c8] at H
     have c8b0 := decide_eq_true c8
     clear c8
     obtain rfl := Option.some.inj H
     go_enter Try.func116, Try.ntmps116
     go_wp2_with (first | ((with_reducible refine gate_dst (N := 3) rfl ?_); refine bx (N := 3) (cs := #[.slice A0_0 l0_0.length c0_0, .int .i64 a0_1]) (t := 65) ?_; intro gb459 hg w9 hbox hb; have BK459 := Aside0.mk (hbox); have GW459 := Aside0.mk (ge_ hg HB); have GE459 := Aside0.mk (ge_ hg HB); replace HB := bs HB hb; clear hb hbox hg) | ((with_reducible refine gate_dst (N := 4) rfl ?_); refine bx (N := 4) (cs := #[.int .i64 a1_0, .int .i64 a1_1, .int .i64 a1_2]) (t := 68) ?_; intro gb460 hg w10 hbox hb; have BK460 := Aside0.mk (hbox); have GW460 := Aside0.mk (ge_ hg HB); have GE460 := Aside0.mk (ge_ hg HB); replace HB := bs HB hb; have NB459_460 := Aside0.mk (nl_ hg BK459); have NB460_459 := Aside0.mk (ng_ hg BK459); replace BK459 := bb BK459 hb; clear hb hbox hg; have hnb11 := NB459_460.out; have hnc11 := NB460_459.out; obtain ⟨hcz12_0, hcz12_1, hfz12_0, hfz12_1⟩ := c2 BK459; obtain ⟨hcz13_0, hcz13_1, hcz13_2, hfz13_0, hfz13_1, hfz13_2⟩ := c3 BK460) | ((with_reducible refine gate_callee (f := 165) rfl ?_); refine gL 12 Try.func165 #[.agg #[.slice A0_0 l0_0.length c0_0, .int .i64 a0_1], .int .i64 a1_2] ?_; (with_reducible refine (spec_KeyOf.calls k _ _ l0_0 a0_1 a1_2 t461 _ ?side1 ?side2 A4.out).mono ?_); (case side1 => exact kc HR0_0 HB); (case side2 => exact HC0_0.out); rintro e w14 ⟨rfl, hb⟩; refine ⟨_, rfl, ?_⟩; replace BK459 := bb BK459 hb; replace BK460 := bb BK460 hb; replace HB := bs HB hb; (try clear hb); (try clear hb2); (try clear hk); (try clear hi); obtain ⟨hcz15_0, hcz15_1, hfz15_0, hfz15_1⟩ := c2 BK459; obtain ⟨hcz16_0, hcz16_1, hcz16_2, hfz16_0, hfz16_1, hfz16_2⟩ := c3 BK460; have p462 : 0 ≤ (a1_1 : Int) := od; have q462 : a1_1 < (l0_0.length : Int) := od; obtain ⟨ad462, e462, hx462_0⟩ := Kd.at_int HR0_0.out a1_1 p462 q462; cases e462; replace hx462_0 := (HB.out.cell (World.block_lt_of_cell? w _ hx462_0)).trans hx462_0; replace p462 := eq_true p462; replace q462 := eq_true q462))
     go_ret
     exact ⟨er, tb HB⟩
    ·rw [if_neg c8] at H
     exact absurd H (by simp)
   ·rw [if_neg c7] at H
    exact absurd H (by simp)
  ·rw [if_neg c6] at H
   have c6b0 : (a1_0 == 1) = false := beq_eq_false_iff_ne.mpr c6
   have c6b1 : (a1_0 != 1) = true := bne_iff_ne.mpr c6
   obtain rfl := Option.some.inj H
   go_enter Try.func116, Try.ntmps116
   go_wp2_with (first | ((with_reducible refine gate_dst (N := 3) rfl ?_); refine bx (N := 3) (cs := #[.slice A0_0 l0_0.length c0_0, .int .i64 a0_1]) (t := 65) ?_; intro gb459 hg w17 hbox hb; have BK459 := Aside0.mk (hbox); have GW459 := Aside0.mk (ge_ hg HB); have GE459 := Aside0.mk (ge_ hg HB); replace HB := bs HB hb; clear hb hbox hg) | ((with_reducible refine gate_dst (N := 4) rfl ?_); refine bx (N := 4) (cs := #[.int .i64 a1_0, .int .i64 a1_1, .int .i64 a1_2]) (t := 68) ?_; intro gb460 hg w18 hbox hb; have BK460 := Aside0.mk (hbox); have GW460 := Aside0.mk (ge_ hg HB); have GE460 := Aside0.mk (ge_ hg HB); replace HB := bs HB hb; have NB459_460 := Aside0.mk (nl_ hg BK459); have NB460_459 := Aside0.mk (ng_ hg BK459); replace BK459 := bb BK459 hb; clear hb hbox hg; have hnb19 := NB459_460.out; have hnc19 := NB460_459.out; obtain ⟨hcz20_0, hcz20_1, hfz20_0, hfz20_1⟩ := c2 BK459; obtain ⟨hcz21_0, hcz21_1, hcz21_2, hfz21_0, hfz21_1, hfz21_2⟩ := c3 BK460) | ((with_reducible refine gate_callee (f := 165) rfl ?_); refine gL 12 Try.func165 #[.agg #[.slice A0_0 l0_0.length c0_0, .int .i64 a0_1], .int .i64 a1_2] ?_; (with_reducible refine (spec_KeyOf.calls k _ _ l0_0 a0_1 a1_2 t461 _ ?side1 ?side2 A4.out).mono ?_); (case side1 => exact kc HR0_0 HB); (case side2 => exact HC0_0.out); rintro e w22 ⟨rfl, hb⟩; refine ⟨_, rfl, ?_⟩; replace BK459 := bb BK459 hb; replace BK460 := bb BK460 hb; replace HB := bs HB hb; (try clear hb); (try clear hb2); (try clear hk); (try clear hi); obtain ⟨hcz23_0, hcz23_1, hfz23_0, hfz23_1⟩ := c2 BK459; obtain ⟨hcz24_0, hcz24_1, hcz24_2, hfz24_0, hfz24_1, hfz24_2⟩ := c3 BK460))
   go_ret
   exact ⟨er, tb HB⟩
 ·rw [if_neg c5] at H
  have c5b0 : (a2 == 1) = false := beq_eq_false_iff_ne.mpr c5
  have c5b1 : (a2 != 1) = true := bne_iff_ne.mpr c5
  by_cases c25 : a2 = 2
  ·rw [if_pos c25] at H
   have c25b0 : (a2 == 2) = true := beq_iff_eq.mpr c25
   have c25b1 : (a2 != 2) = false := bne_eq_false_iff_eq.mpr c25
   clear c25
   by_cases c26 : a1_0 = 1
   ·rw [if_pos c26] at H
    have c26b0 : (a1_0 == 1) = true := beq_iff_eq.mpr c26
    have c26b1 : (a1_0 != 1) = false := bne_eq_false_iff_eq.mpr c26
    clear c26
    obtain rfl := Option.some.inj H
    go_enter Try.func116, Try.ntmps116
    go_wp2_with (first | ((with_reducible refine gate_dst (N := 3) rfl ?_); refine bx (N := 3) (cs := #[.slice A0_0 l0_0.length c0_0, .int .i64 a0_1]) (t := 65) ?_; intro gb459 hg w27 hbox hb; have BK459 := Aside0.mk (hbox); have GW459 := Aside0.mk (ge_ hg HB); have GE459 := Aside0.mk (ge_ hg HB); replace HB := bs HB hb; clear hb hbox hg) | ((with_reducible refine gate_dst (N := 4) rfl ?_); refine bx (N := 4) (cs := #[.int .i64 a1_0, .int .i64 a1_1, .int .i64 a1_2]) (t := 68) ?_; intro gb460 hg w28 hbox hb; have BK460 := Aside0.mk (hbox); have GW460 := Aside0.mk (ge_ hg HB); have GE460 := Aside0.mk (ge_ hg HB); replace HB := bs HB hb; have NB459_460 := Aside0.mk (nl_ hg BK459); have NB460_459 := Aside0.mk (ng_ hg BK459); replace BK459 := bb BK459 hb; clear hb hbox hg; have hnb29 := NB459_460.out; have hnc29 := NB460_459.out; obtain ⟨hcz30_0, hcz30_1, hfz30_0, hfz30_1⟩ := c2 BK459; obtain ⟨hcz31_0, hcz31_1, hcz31_2, hfz31_0, hfz31_1, hfz31_2⟩ := c3 BK460) | ((with_reducible refine gate_callee (f := 165) rfl ?_); refine gL 12 Try.func165 #[.agg #[.slice A0_0 l0_0.length c0_0, .int .i64 a0_1], .int .i64 a1_2] ?_; (with_reducible refine (spec_KeyOf.calls k _ _ l0_0 a0_1 a1_2 t461 _ ?side1 ?side2 A4.out).mono ?_); (case side1 => exact kc HR0_0 HB); (case side2 => exact HC0_0.out); rintro e w32 ⟨rfl, hb⟩; refine ⟨_, rfl, ?_⟩; replace BK459 := bb BK459 hb; replace BK460 := bb BK460 hb; replace HB := bs HB hb; (try clear hb); (try clear hb2); (try clear hk); (try clear hi); obtain ⟨hcz33_0, hcz33_1, hfz33_0, hfz33_1⟩ := c2 BK459; obtain ⟨hcz34_0, hcz34_1, hcz34_2, hfz34_0, hfz34_1, hfz34_2⟩ := c3 BK460))
    go_ret
    exact ⟨er, tb HB⟩
   ·rw [if_neg c26] at H
    have c26b0 : (a1_0 == 1) = false := beq_eq_false_iff_ne.mpr c26
    have c26b1 : (a1_0 != 1) = true := bne_iff_ne.mpr c26
    by_cases c35 : a1_0 = 2
    ·rw [if_pos c35] at H
     have c35b0 : (a1_0 == 2) = true := beq_iff_eq.mpr c35
     have c35b1 : (a1_0 != 2) = false := bne_eq_false_iff_eq.mpr c35
     clear c35
     obtain rfl := Option.some.inj H
     go_enter Try.func116, Try.ntmps116
     go_wp2_with (first | ((with_reducible refine gate_dst (N := 3) rfl ?_); refine bx (N := 3) (cs := #[.slice A0_0 l0_0.length c0_0, .int .i64 a0_1]) (t := 65) ?_; intro gb459 hg w36 hbox hb; have BK459 := Aside0.mk (hbox); have GW459 := Aside0.mk (ge_ hg HB); have GE459 := Aside0.mk (ge_ hg HB); replace HB := bs HB hb; clear hb hbox hg) | ((with_reducible refine gate_dst (N := 4) rfl ?_); refine bx (N := 4) (cs := #[.int .i64 a1_0, .int .i64 a1_1, .int .i64 a1_2]) (t := 68) ?_; intro gb460 hg w37 hbox hb; have BK460 := Aside0.mk (hbox); have GW460 := Aside0.mk (ge_ hg HB); have GE460 := Aside0.mk (ge_ hg HB); replace HB := bs HB hb; have NB459_460 := Aside0.mk (nl_ hg BK459); have NB460_459 := Aside0.mk (ng_ hg BK459); replace BK459 := bb BK459 hb; clear hb hbox hg; have hnb38 := NB459_460.out; have hnc38 := NB460_459.out; obtain ⟨hcz39_0, hcz39_1, hfz39_0, hfz39_1⟩ := c2 BK459; obtain ⟨hcz40_0, hcz40_1, hcz40_2, hfz40_0, hfz40_1, hfz40_2⟩ := c3 BK460) | ((with_reducible refine gate_callee (f := 165) rfl ?_); refine gL 12 Try.func165 #[.agg #[.slice A0_0 l0_0.length c0_0, .int .i64 a0_1], .int .i64 a1_2] ?_; (with_reducible refine (spec_KeyOf.calls k _ _ l0_0 a0_1 a1_2 t461 _ ?side1 ?side2 A4.out).mono ?_); (case side1 => exact kc HR0_0 HB); (case side2 => exact HC0_0.out); rintro e w41 ⟨rfl, hb⟩; refine ⟨_, rfl, ?_⟩; replace BK459 := bb BK459 hb; replace BK460 := bb BK460 hb; replace HB := bs HB hb; (try clear hb); (try clear hb2); (try clear hk); (try clear hi); obtain ⟨hcz42_0, hcz42_1, hfz42_0, hfz42_1⟩ := c2 BK459; obtain ⟨hcz43_0, hcz43_1, hcz43_2, hfz43_0, hfz43_1, hfz43_2⟩ := c3 BK460))
     go_ret
     exact ⟨er, tb HB⟩
    ·rw [if_neg c35] at H
     have c35b0 : (a1_0 == 2) = false := beq_eq_false_iff_ne.mpr c35
     have c35b1 : (a1_0 != 2) = true := bne_iff_ne.mpr c35
     obtain rfl := Option.some.inj H
     go_enter Try.func116, Try.ntmps116
     go_wp2_with (first | ((with_reducible refine gate_dst (N := 3) rfl ?_); refine bx (N := 3) (cs := #[.slice A0_0 l0_0.length c0_0, .int .i64 a0_1]) (t := 65) ?_; intro gb459 hg w44 hbox hb; have BK459 := Aside0.mk (hbox); have GW459 := Aside0.mk (ge_ hg HB); have GE459 := Aside0.mk (ge_ hg HB); replace HB := bs HB hb; clear hb hbox hg) | ((with_reducible refine gate_dst (N := 4) rfl ?_); refine bx (N := 4) (cs := #[.int .i64 a1_0, .int .i64 a1_1, .int .i64 a1_2]) (t := 68) ?_; intro gb460 hg w45 hbox hb; have BK460 := Aside0.mk (hbox); have GW460 := Aside0.mk (ge_ hg HB); have GE460 := Aside0.mk (ge_ hg HB); replace HB := bs HB hb; have NB459_460 := Aside0.mk (nl_ hg BK459); have NB460_459 := Aside0.mk (ng_ hg BK459); replace BK459 := bb BK459 hb; clear hb hbox hg; have hnb46 := NB459_460.out; have hnc46 := NB460_459.out; obtain ⟨hcz47_0, hcz47_1, hfz47_0, hfz47_1⟩ := c2 BK459; obtain ⟨hcz48_0, hcz48_1, hcz48_2, hfz48_0, hfz48_1, hfz48_2⟩ := c3 BK460) | ((with_reducible refine gate_callee (f := 165) rfl ?_); refine gL 12 Try.func165 #[.agg #[.slice A0_0 l0_0.length c0_0, .int .i64 a0_1], .int .i64 a1_2] ?_; (with_reducible refine (spec_KeyOf.calls k _ _ l0_0 a0_1 a1_2 t461 _ ?side1 ?side2 A4.out).mono ?_); (case side1 => exact kc HR0_0 HB); (case side2 => exact HC0_0.out); rintro e w49 ⟨rfl, hb⟩; refine ⟨_, rfl, ?_⟩; replace BK459 := bb BK459 hb; replace BK460 := bb BK460 hb; replace HB := bs HB hb; (try clear hb); (try clear hb2); (try clear hk); (try clear hi); obtain ⟨hcz50_0, hcz50_1, hfz50_0, hfz50_1⟩ := c2 BK459; obtain ⟨hcz51_0, hcz51_1, hcz51_2, hfz51_0, hfz51_1, hfz51_2⟩ := c3 BK460))
     go_ret
     exact ⟨er, tb HB⟩
  ·rw [if_neg c25] at H
   have c25b0 : (a2 == 2) = false := beq_eq_false_iff_ne.mpr c25
   have c25b1 : (a2 != 2) = true := bne_iff_ne.mpr c25
   by_cases c52 : a2 = 3
   ·rw [if_pos c52] at H
    have c52b0 : (a2 == 3) = true := beq_iff_eq.mpr c52
    have c52b1 : (a2 != 3) = false := bne_eq_false_iff_eq.mpr c52
    clear c52
    have HC53 := Aside0.mk H
    clear H
    go_enter Try.func116, Try.ntmps116
    go_upto_if 49 with (first | ((with_reducible refine gate_dst (N := 3) rfl ?_); refine bx (N := 3) (cs := #[.slice A0_0 l0_0.length c0_0, .int .i64 a0_1]) (t := 65) ?_; intro gb459 hg w54 hbox hb; have BK459 := Aside0.mk (hbox); have GW459 := Aside0.mk (ge_ hg HB); have GE459 := Aside0.mk (ge_ hg HB); replace HB := bs HB hb; clear hb hbox hg) | ((with_reducible refine gate_dst (N := 4) rfl ?_); refine bx (N := 4) (cs := #[.int .i64 a1_0, .int .i64 a1_1, .int .i64 a1_2]) (t := 68) ?_; intro gb460 hg w55 hbox hb; have BK460 := Aside0.mk (hbox); have GW460 := Aside0.mk (ge_ hg HB); have GE460 := Aside0.mk (ge_ hg HB); replace HB := bs HB hb; have NB459_460 := Aside0.mk (nl_ hg BK459); have NB460_459 := Aside0.mk (ng_ hg BK459); replace BK459 := bb BK459 hb; clear hb hbox hg; have hnb56 := NB459_460.out; have hnc56 := NB460_459.out; obtain ⟨hcz57_0, hcz57_1, hfz57_0, hfz57_1⟩ := c2 BK459; obtain ⟨hcz58_0, hcz58_1, hcz58_2, hfz58_0, hfz58_1, hfz58_2⟩ := c3 BK460) | ((with_reducible refine gate_callee (f := 165) rfl ?_); refine gL 12 Try.func165 #[.agg #[.slice A0_0 l0_0.length c0_0, .int .i64 a0_1], .int .i64 a1_2] ?_; (with_reducible refine (spec_KeyOf.calls k _ _ l0_0 a0_1 a1_2 t461 _ ?side1 ?side2 A4.out).mono ?_); (case side1 => exact kc HR0_0 HB); (case side2 => exact HC0_0.out); rintro e w59 ⟨rfl, hb⟩; refine ⟨_, rfl, ?_⟩; replace BK459 := bb BK459 hb; replace BK460 := bb BK460 hb; replace HB := bs HB hb; (try clear hb); (try clear hb2); (try clear hk); (try clear hi); obtain ⟨hcz60_0, hcz60_1, hfz60_0, hfz60_1⟩ := c2 BK459; obtain ⟨hcz61_0, hcz61_1, hcz61_2, hfz61_0, hfz61_1, hfz61_2⟩ := c3 BK460))
    (try simp only [Act.put, sA, sB, sC])
    go_cut [49] (fun v49 wc => ∃ (kq : Nat) (x49_52 : Bool), v49 = .bool x49_52 ∧ Aside0 (spec_l4Fails.j0 kq (decide (t461 ≥ 0)) (a0_1 == 5) a1_0 x49_52 l0_0 a0_1 a1_0 a1_1 a1_2 = some r) ∧ Aside0 (kq ≤ k) ∧ Aside0 (wc.heap[gb459]? = some (.cells #[(.slice A0_0 l0_0.length c0_0), .int .i64 a0_1] 65 (0, 0))) ∧ Aside0 (wc.heap[gb460]? = some (.cells #[.int .i64 a1_0, .int .i64 a1_1, .int .i64 a1_2] 68 (0, 0))) ∧ Aside0 (Below w.heap.size w wc))
    case first =>
     have H := HC53.out
     clear HC53
     by_cases c62 : a1_0 = 2
     ·rw [if_pos c62] at H
      have c62b0 : (a1_0 == 2) = true := beq_iff_eq.mpr c62
      have c62b1 : (a1_0 != 2) = false := bne_eq_false_iff_eq.mpr c62
      clear c62
      (first | rw [c62b0] | (simp only [i64_w, i32_w]; rw [c62b0]) | skip)
      have H' := Aside0.mk H
      clear H
      go_wp2
      go_meet
      case rel => exact ⟨_, ((a1_0 == 2)), (by first | rfl | (simp; done) | (simp [*]; done)), H', ⟨by first | omega | exact Nat.le_refl _⟩, ⟨by (with_reducible repeat (first | refine blk_drewN ?_ _ | refine blk_drew ?_ | refine blk_alloc ?_ _)); exact BK459.out⟩, ⟨by (with_reducible repeat (first | refine blk_drewN ?_ _ | refine blk_drew ?_ | refine blk_alloc ?_ _)); exact BK460.out⟩, ⟨tb HB⟩⟩
     ·rw [if_neg c62] at H
      have c62b0 : (a1_0 == 2) = false := beq_eq_false_iff_ne.mpr c62
      have c62b1 : (a1_0 != 2) = true := bne_iff_ne.mpr c62
      (first | rw [c62b0] | (simp only [i64_w, i32_w]; rw [c62b0]) | skip)
      by_cases c63 : a1_0 = 3
      ·rw [if_pos c63] at H
       have c63b0 : (a1_0 == 3) = true := beq_iff_eq.mpr c63
       have c63b1 : (a1_0 != 3) = false := bne_eq_false_iff_eq.mpr c63
       clear c63
       have H' := Aside0.mk H
       clear H
       go_wp2
       go_meet
       case rel => exact ⟨_, ((a1_0 == 3)), (by first | rfl | (simp; done) | (simp [*]; done)), H', ⟨by first | omega | exact Nat.le_refl _⟩, ⟨by (with_reducible repeat (first | refine blk_drewN ?_ _ | refine blk_drew ?_ | refine blk_alloc ?_ _)); exact BK459.out⟩, ⟨by (with_reducible repeat (first | refine blk_drewN ?_ _ | refine blk_drew ?_ | refine blk_alloc ?_ _)); exact BK460.out⟩, ⟨tb HB⟩⟩
      ·rw [if_neg c63] at H
       have c63b0 : (a1_0 == 3) = false := beq_eq_false_iff_ne.mpr c63
       have c63b1 : (a1_0 != 3) = true := bne_iff_ne.mpr c63
       have H' := Aside0.mk H
       clear H
       go_wp2
       go_meet
       case rel => exact ⟨_, ((a1_0 == 4)), (by first | rfl | (simp; done) | (simp [*]; done)), H', ⟨by first | omega | exact Nat.le_refl _⟩, ⟨by (with_reducible repeat (first | refine blk_drewN ?_ _ | refine blk_drew ?_ | refine blk_alloc ?_ _)); exact BK459.out⟩, ⟨by (with_reducible repeat (first | refine blk_drewN ?_ _ | refine blk_drew ?_ | refine blk_alloc ?_ _)); exact BK460.out⟩, ⟨tb HB⟩⟩
    case rest =>
     clear HC53
     try clear c1
     try clear c2
     try clear p2
     try clear c3
     try clear c4
     try clear p4
     try clear q4
     try clear hx4
     try clear c5
     try clear c5b0
     try clear c5b1
     try clear c6
     try clear c6b0
     try clear c6b1
     try clear c7
     try clear c7b0
     try clear c8
     try clear c8b0
     try clear c11
     try clear c16
     try clear c19
     try clear c25
     try clear c25b0
     try clear c25b1
     try clear c26
     try clear c26b0
     try clear c26b1
     try clear c29
     try clear c35
     try clear c35b0
     try clear c35b1
     try clear c38
     try clear c46
     try clear p46
     try clear q46
     try clear hx46
     try clear c52
     try clear c52b0
     try clear c52b1
     try clear c56
     try clear c62
     try clear c62b0
     try clear c62b1
     try clear c63
     try clear c63b0
     try clear c63b1
     try clear hcz12_0
     try clear hcz12_1
     try clear hcz13_0
     try clear hcz13_1
     try clear hcz13_2
     try clear hcz15_0
     try clear hcz15_1
     try clear hcz16_0
     try clear hcz16_1
     try clear hcz16_2
     try clear hcz20_0
     try clear hcz20_1
     try clear hcz21_0
     try clear hcz21_1
     try clear hcz21_2
     try clear hcz23_0
     try clear hcz23_1
     try clear hcz24_0
     try clear hcz24_1
     try clear hcz24_2
     try clear hcz30_0
     try clear hcz30_1
     try clear hcz31_0
     try clear hcz31_1
     try clear hcz31_2
     try clear hcz33_0
     try clear hcz33_1
     try clear hcz34_0
     try clear hcz34_1
     try clear hcz34_2
     try clear hcz39_0
     try clear hcz39_1
     try clear hcz40_0
     try clear hcz40_1
     try clear hcz40_2
     try clear hcz42_0
     try clear hcz42_1
     try clear hcz43_0
     try clear hcz43_1
     try clear hcz43_2
     try clear hcz47_0
     try clear hcz47_1
     try clear hcz48_0
     try clear hcz48_1
     try clear hcz48_2
     try clear hcz50_0
     try clear hcz50_1
     try clear hcz51_0
     try clear hcz51_1
     try clear hcz51_2
     try clear hcz57_0
     try clear hcz57_1
     try clear hcz58_0
     try clear hcz58_1
     try clear hcz58_2
     try clear hcz60_0
     try clear hcz60_1
     try clear hcz61_0
     try clear hcz61_1
     try clear hcz61_2
     try clear hfz12_0
     try clear hfz12_1
     try clear hfz13_0
     try clear hfz13_1
     try clear hfz13_2
     try clear hfz15_0
     try clear hfz15_1
     try clear hfz16_0
     try clear hfz16_1
     try clear hfz16_2
     try clear hfz20_0
     try clear hfz20_1
     try clear hfz21_0
     try clear hfz21_1
     try clear hfz21_2
     try clear hfz23_0
     try clear hfz23_1
     try clear hfz24_0
     try clear hfz24_1
     try clear hfz24_2
     try clear hfz30_0
     try clear hfz30_1
     try clear hfz31_0
     try clear hfz31_1
     try clear hfz31_2
     try clear hfz33_0
     try clear hfz33_1
     try clear hfz34_0
     try clear hfz34_1
     try clear hfz34_2
     try clear hfz39_0
     try clear hfz39_1
     try clear hfz40_0
     try clear hfz40_1
     try clear hfz40_2
     try clear hfz42_0
     try clear hfz42_1
     try clear hfz43_0
     try clear hfz43_1
     try clear hfz43_2
     try clear hfz47_0
     try clear hfz47_1
     try clear hfz48_0
     try clear hfz48_1
     try clear hfz48_2
     try clear hfz50_0
     try clear hfz50_1
     try clear hfz51_0
     try clear hfz51_1
     try clear hfz51_2
     try clear hfz57_0
     try clear hfz57_1
     try clear hfz58_0
     try clear hfz58_1
     try clear hfz58_2
     try clear hfz60_0
     try clear hfz60_1
     try clear hfz61_0
     try clear hfz61_1
     try clear hfz61_2
     try clear hx462_0
     try clear p462
     try clear q462
     obtain ⟨kq, x49_52, rfl, HA, HJ52, BK459, BK460, HB⟩ := hcut
     cases kq with
     | zero => exact absurd HA.out (by simp [spec_l4Fails.j0])
     | succ kj52 =>
      have H := HA.out
      clear HA
      simp only [spec_l4Fails.j0] at H
      by_cases c64 : x49_52 = true
      ·subst c64
       have H1 : (if 0 ≤ a1_1 then (if a1_1 < (l0_0.length : Int) then (some ((rd l0_0 a1_1) == 0)) else (none)) else (none)) = some r := by rw [if_pos rfl] at H; exact H
       clear H
       have H := H1
       clear H1
       by_cases c65 : 0 ≤ a1_1
       ·rw [if_pos c65] at H
        have c65b0 := decide_eq_true c65
        clear c65
        by_cases c66 : a1_1 < (l0_0.length : Int)
        ·rw [if_pos c66] at H
         have c66b0 := decide_eq_true c66
         clear c66
         obtain rfl := Option.some.inj H
         have hnb67 := NB459_460.out
         have hnc67 := NB460_459.out
         obtain ⟨hcz68_0, hcz68_1, hfz68_0, hfz68_1⟩ := c2 BK459
         obtain ⟨hcz69_0, hcz69_1, hcz69_2, hfz69_0, hfz69_1, hfz69_2⟩ := c3 BK460
         have p463 : 0 ≤ (a1_1 : Int) := od
         have q463 : a1_1 < (l0_0.length : Int) := od
         obtain ⟨ad463, e463, hx463_0⟩ := Kd.at_int HR0_0.out a1_1 p463 q463
         cases e463
         replace hx463_0 := (HB.out.cell (World.block_lt_of_cell? w _ hx463_0)).trans hx463_0
         replace p463 := eq_true p463
         replace q463 := eq_true q463
         go_wp2
         go_ret
         exact ⟨er, tb HB⟩
        ·rw [if_neg c66] at H
         exact absurd H (by simp)
       ·rw [if_neg c65] at H
        exact absurd H (by simp)
      ·replace c64 := Bool.eq_false_iff.mpr c64
       subst c64
       have H1 : (if a1_0 = 5 then (some (!(decide (t461 ≥ 0)))) else (if a1_0 = 10 then (if (a0_1 == 5) = true then (some (!(decide (t461 ≥ 0)))) else (some false)) else (some false))) = some r := by rw [if_neg (show ¬ (false = true) by decide)] at H; exact H
       clear H
       have H := H1
       clear H1
       by_cases c70 : a1_0 = 5
       ·rw [if_pos c70] at H
        have c70b0 : (a1_0 == 5) = true := beq_iff_eq.mpr c70
        have c70b1 : (a1_0 != 5) = false := bne_eq_false_iff_eq.mpr c70
        clear c70
        obtain rfl := Option.some.inj H
        go_wp2
        go_ret
        exact ⟨er, tb HB⟩
       ·rw [if_neg c70] at H
        have c70b0 : (a1_0 == 5) = false := beq_eq_false_iff_ne.mpr c70
        have c70b1 : (a1_0 != 5) = true := bne_iff_ne.mpr c70
        by_cases c71 : a1_0 = 10
        ·rw [if_pos c71] at H
         have c71b0 : (a1_0 == 10) = true := beq_iff_eq.mpr c71
         have c71b1 : (a1_0 != 10) = false := bne_eq_false_iff_eq.mpr c71
         clear c71
         by_cases c72 : (a0_1 == 5) = true
         ·rw [if_pos c72] at H
          have c72b0 : (a0_1 == 5) = true := c72
          (try (have c72b1 : decide (a0_1 = 5) = true := by simpa using c72))
          (try (have c72b2 : (a0_1 == 5) = true := by simpa using c72))
          clear c72
          obtain rfl := Option.some.inj H
          go_wp2
          go_ret
          exact ⟨er, tb HB⟩
         ·rw [if_neg c72] at H
          have c72b0 : (a0_1 == 5) = false := by simpa using c72
          (try (have c72b1 : decide (a0_1 = 5) = false := by simpa using c72))
          (try (have c72b2 : (a0_1 == 5) = false := by simpa using c72))
          (try (have c72b3 : ¬ (a0_1 = 5) := by simpa using c72))
          clear c72
          obtain rfl := Option.some.inj H
          go_wp2
          go_ret
          exact ⟨er, tb HB⟩
        ·rw [if_neg c71] at H
         have c71b0 : (a1_0 == 10) = false := beq_eq_false_iff_ne.mpr c71
         have c71b1 : (a1_0 != 10) = true := bne_iff_ne.mpr c71
         obtain rfl := Option.some.inj H
         go_wp2
         go_ret
         exact ⟨er, tb HB⟩
   ·rw [if_neg c52] at H
    have c52b0 : (a2 == 3) = false := beq_eq_false_iff_ne.mpr c52
    have c52b1 : (a2 != 3) = true := bne_iff_ne.mpr c52
    by_cases c73 : a2 = 4
    ·rw [if_pos c73] at H
     have c73b0 : (a2 == 4) = true := beq_iff_eq.mpr c73
     have c73b1 : (a2 != 4) = false := bne_eq_false_iff_eq.mpr c73
     clear c73
     by_cases c74 : a1_0 = 8
     ·rw [if_pos c74] at H
      have c74b0 : (a1_0 == 8) = true := beq_iff_eq.mpr c74
      have c74b1 : (a1_0 != 8) = false := bne_eq_false_iff_eq.mpr c74
      clear c74
      obtain rfl := Option.some.inj H
      go_enter Try.func116, Try.ntmps116
      go_wp2_with (first | ((with_reducible refine gate_dst (N := 3) rfl ?_); refine bx (N := 3) (cs := #[.slice A0_0 l0_0.length c0_0, .int .i64 a0_1]) (t := 65) ?_; intro gb459 hg w75 hbox hb; have BK459 := Aside0.mk (hbox); have GW459 := Aside0.mk (ge_ hg HB); have GE459 := Aside0.mk (ge_ hg HB); replace HB := bs HB hb; clear hb hbox hg) | ((with_reducible refine gate_dst (N := 4) rfl ?_); refine bx (N := 4) (cs := #[.int .i64 a1_0, .int .i64 a1_1, .int .i64 a1_2]) (t := 68) ?_; intro gb460 hg w76 hbox hb; have BK460 := Aside0.mk (hbox); have GW460 := Aside0.mk (ge_ hg HB); have GE460 := Aside0.mk (ge_ hg HB); replace HB := bs HB hb; have NB459_460 := Aside0.mk (nl_ hg BK459); have NB460_459 := Aside0.mk (ng_ hg BK459); replace BK459 := bb BK459 hb; clear hb hbox hg; have hnb77 := NB459_460.out; have hnc77 := NB460_459.out; obtain ⟨hcz78_0, hcz78_1, hfz78_0, hfz78_1⟩ := c2 BK459; obtain ⟨hcz79_0, hcz79_1, hcz79_2, hfz79_0, hfz79_1, hfz79_2⟩ := c3 BK460) | ((with_reducible refine gate_callee (f := 165) rfl ?_); refine gL 12 Try.func165 #[.agg #[.slice A0_0 l0_0.length c0_0, .int .i64 a0_1], .int .i64 a1_2] ?_; (with_reducible refine (spec_KeyOf.calls k _ _ l0_0 a0_1 a1_2 t461 _ ?side1 ?side2 A4.out).mono ?_); (case side1 => exact kc HR0_0 HB); (case side2 => exact HC0_0.out); rintro e w80 ⟨rfl, hb⟩; refine ⟨_, rfl, ?_⟩; replace BK459 := bb BK459 hb; replace BK460 := bb BK460 hb; replace HB := bs HB hb; (try clear hb); (try clear hb2); (try clear hk); (try clear hi); obtain ⟨hcz81_0, hcz81_1, hfz81_0, hfz81_1⟩ := c2 BK459; obtain ⟨hcz82_0, hcz82_1, hcz82_2, hfz82_0, hfz82_1, hfz82_2⟩ := c3 BK460))
      go_ret
      exact ⟨er, tb HB⟩
     ·rw [if_neg c74] at H
      have c74b0 : (a1_0 == 8) = false := beq_eq_false_iff_ne.mpr c74
      have c74b1 : (a1_0 != 8) = true := bne_iff_ne.mpr c74
      by_cases c83 : a1_0 = 9
      ·rw [if_pos c83] at H
       have c83b0 : (a1_0 == 9) = true := beq_iff_eq.mpr c83
       have c83b1 : (a1_0 != 9) = false := bne_eq_false_iff_eq.mpr c83
       clear c83
       by_cases c84 : a0_1 = 0
       ·rw [if_pos c84] at H
        have c84b0 : (a0_1 == 0) = true := beq_iff_eq.mpr c84
        have c84b1 : (a0_1 != 0) = false := bne_eq_false_iff_eq.mpr c84
        clear c84
        obtain rfl := Option.some.inj H
        go_enter Try.func116, Try.ntmps116
        go_wp2_with (first | ((with_reducible refine gate_dst (N := 3) rfl ?_); refine bx (N := 3) (cs := #[.slice A0_0 l0_0.length c0_0, .int .i64 a0_1]) (t := 65) ?_; intro gb459 hg w85 hbox hb; have BK459 := Aside0.mk (hbox); have GW459 := Aside0.mk (ge_ hg HB); have GE459 := Aside0.mk (ge_ hg HB); replace HB := bs HB hb; clear hb hbox hg) | ((with_reducible refine gate_dst (N := 4) rfl ?_); refine bx (N := 4) (cs := #[.int .i64 a1_0, .int .i64 a1_1, .int .i64 a1_2]) (t := 68) ?_; intro gb460 hg w86 hbox hb; have BK460 := Aside0.mk (hbox); have GW460 := Aside0.mk (ge_ hg HB); have GE460 := Aside0.mk (ge_ hg HB); replace HB := bs HB hb; have NB459_460 := Aside0.mk (nl_ hg BK459); have NB460_459 := Aside0.mk (ng_ hg BK459); replace BK459 := bb BK459 hb; clear hb hbox hg; have hnb87 := NB459_460.out; have hnc87 := NB460_459.out; obtain ⟨hcz88_0, hcz88_1, hfz88_0, hfz88_1⟩ := c2 BK459; obtain ⟨hcz89_0, hcz89_1, hcz89_2, hfz89_0, hfz89_1, hfz89_2⟩ := c3 BK460) | ((with_reducible refine gate_callee (f := 165) rfl ?_); refine gL 12 Try.func165 #[.agg #[.slice A0_0 l0_0.length c0_0, .int .i64 a0_1], .int .i64 a1_2] ?_; (with_reducible refine (spec_KeyOf.calls k _ _ l0_0 a0_1 a1_2 t461 _ ?side1 ?side2 A4.out).mono ?_); (case side1 => exact kc HR0_0 HB); (case side2 => exact HC0_0.out); rintro e w90 ⟨rfl, hb⟩; refine ⟨_, rfl, ?_⟩; replace BK459 := bb BK459 hb; replace BK460 := bb BK460 hb; replace HB := bs HB hb; (try clear hb); (try clear hb2); (try clear hk); (try clear hi); obtain ⟨hcz91_0, hcz91_1, hfz91_0, hfz91_1⟩ := c2 BK459; obtain ⟨hcz92_0, hcz92_1, hcz92_2, hfz92_0, hfz92_1, hfz92_2⟩ := c3 BK460))
        go_ret
        exact ⟨er, tb HB⟩
       ·rw [if_neg c84] at H
        have c84b0 : (a0_1 == 0) = false := beq_eq_false_iff_ne.mpr c84
        have c84b1 : (a0_1 != 0) = true := bne_iff_ne.mpr c84
        obtain rfl := Option.some.inj H
        go_enter Try.func116, Try.ntmps116
        go_wp2_with (first | ((with_reducible refine gate_dst (N := 3) rfl ?_); refine bx (N := 3) (cs := #[.slice A0_0 l0_0.length c0_0, .int .i64 a0_1]) (t := 65) ?_; intro gb459 hg w93 hbox hb; have BK459 := Aside0.mk (hbox); have GW459 := Aside0.mk (ge_ hg HB); have GE459 := Aside0.mk (ge_ hg HB); replace HB := bs HB hb; clear hb hbox hg) | ((with_reducible refine gate_dst (N := 4) rfl ?_); refine bx (N := 4) (cs := #[.int .i64 a1_0, .int .i64 a1_1, .int .i64 a1_2]) (t := 68) ?_; intro gb460 hg w94 hbox hb; have BK460 := Aside0.mk (hbox); have GW460 := Aside0.mk (ge_ hg HB); have GE460 := Aside0.mk (ge_ hg HB); replace HB := bs HB hb; have NB459_460 := Aside0.mk (nl_ hg BK459); have NB460_459 := Aside0.mk (ng_ hg BK459); replace BK459 := bb BK459 hb; clear hb hbox hg; have hnb95 := NB459_460.out; have hnc95 := NB460_459.out; obtain ⟨hcz96_0, hcz96_1, hfz96_0, hfz96_1⟩ := c2 BK459; obtain ⟨hcz97_0, hcz97_1, hcz97_2, hfz97_0, hfz97_1, hfz97_2⟩ := c3 BK460) | ((with_reducible refine gate_callee (f := 165) rfl ?_); refine gL 12 Try.func165 #[.agg #[.slice A0_0 l0_0.length c0_0, .int .i64 a0_1], .int .i64 a1_2] ?_; (with_reducible refine (spec_KeyOf.calls k _ _ l0_0 a0_1 a1_2 t461 _ ?side1 ?side2 A4.out).mono ?_); (case side1 => exact kc HR0_0 HB); (case side2 => exact HC0_0.out); rintro e w98 ⟨rfl, hb⟩; refine ⟨_, rfl, ?_⟩; replace BK459 := bb BK459 hb; replace BK460 := bb BK460 hb; replace HB := bs HB hb; (try clear hb); (try clear hb2); (try clear hk); (try clear hi); obtain ⟨hcz99_0, hcz99_1, hfz99_0, hfz99_1⟩ := c2 BK459; obtain ⟨hcz100_0, hcz100_1, hcz100_2, hfz100_0, hfz100_1, hfz100_2⟩ := c3 BK460))
        go_ret
        exact ⟨er, tb HB⟩
      ·rw [if_neg c83] at H
       have c83b0 : (a1_0 == 9) = false := beq_eq_false_iff_ne.mpr c83
       have c83b1 : (a1_0 != 9) = true := bne_iff_ne.mpr c83
       by_cases c101 : a1_0 = 10
       ·rw [if_pos c101] at H
        have c101b0 : (a1_0 == 10) = true := beq_iff_eq.mpr c101
        have c101b1 : (a1_0 != 10) = false := bne_eq_false_iff_eq.mpr c101
        clear c101
        obtain rfl := Option.some.inj H
        go_enter Try.func116, Try.ntmps116
        go_wp2_with (first | ((with_reducible refine gate_dst (N := 3) rfl ?_); refine bx (N := 3) (cs := #[.slice A0_0 l0_0.length c0_0, .int .i64 a0_1]) (t := 65) ?_; intro gb459 hg w102 hbox hb; have BK459 := Aside0.mk (hbox); have GW459 := Aside0.mk (ge_ hg HB); have GE459 := Aside0.mk (ge_ hg HB); replace HB := bs HB hb; clear hb hbox hg) | ((with_reducible refine gate_dst (N := 4) rfl ?_); refine bx (N := 4) (cs := #[.int .i64 a1_0, .int .i64 a1_1, .int .i64 a1_2]) (t := 68) ?_; intro gb460 hg w103 hbox hb; have BK460 := Aside0.mk (hbox); have GW460 := Aside0.mk (ge_ hg HB); have GE460 := Aside0.mk (ge_ hg HB); replace HB := bs HB hb; have NB459_460 := Aside0.mk (nl_ hg BK459); have NB460_459 := Aside0.mk (ng_ hg BK459); replace BK459 := bb BK459 hb; clear hb hbox hg; have hnb104 := NB459_460.out; have hnc104 := NB460_459.out; obtain ⟨hcz105_0, hcz105_1, hfz105_0, hfz105_1⟩ := c2 BK459; obtain ⟨hcz106_0, hcz106_1, hcz106_2, hfz106_0, hfz106_1, hfz106_2⟩ := c3 BK460) | ((with_reducible refine gate_callee (f := 165) rfl ?_); refine gL 12 Try.func165 #[.agg #[.slice A0_0 l0_0.length c0_0, .int .i64 a0_1], .int .i64 a1_2] ?_; (with_reducible refine (spec_KeyOf.calls k _ _ l0_0 a0_1 a1_2 t461 _ ?side1 ?side2 A4.out).mono ?_); (case side1 => exact kc HR0_0 HB); (case side2 => exact HC0_0.out); rintro e w107 ⟨rfl, hb⟩; refine ⟨_, rfl, ?_⟩; replace BK459 := bb BK459 hb; replace BK460 := bb BK460 hb; replace HB := bs HB hb; (try clear hb); (try clear hb2); (try clear hk); (try clear hi); obtain ⟨hcz108_0, hcz108_1, hfz108_0, hfz108_1⟩ := c2 BK459; obtain ⟨hcz109_0, hcz109_1, hcz109_2, hfz109_0, hfz109_1, hfz109_2⟩ := c3 BK460))
        go_ret
        exact ⟨er, tb HB⟩
       ·rw [if_neg c101] at H
        have c101b0 : (a1_0 == 10) = false := beq_eq_false_iff_ne.mpr c101
        have c101b1 : (a1_0 != 10) = true := bne_iff_ne.mpr c101
        obtain rfl := Option.some.inj H
        go_enter Try.func116, Try.ntmps116
        go_wp2_with (first | ((with_reducible refine gate_dst (N := 3) rfl ?_); refine bx (N := 3) (cs := #[.slice A0_0 l0_0.length c0_0, .int .i64 a0_1]) (t := 65) ?_; intro gb459 hg w110 hbox hb; have BK459 := Aside0.mk (hbox); have GW459 := Aside0.mk (ge_ hg HB); have GE459 := Aside0.mk (ge_ hg HB); replace HB := bs HB hb; clear hb hbox hg) | ((with_reducible refine gate_dst (N := 4) rfl ?_); refine bx (N := 4) (cs := #[.int .i64 a1_0, .int .i64 a1_1, .int .i64 a1_2]) (t := 68) ?_; intro gb460 hg w111 hbox hb; have BK460 := Aside0.mk (hbox); have GW460 := Aside0.mk (ge_ hg HB); have GE460 := Aside0.mk (ge_ hg HB); replace HB := bs HB hb; have NB459_460 := Aside0.mk (nl_ hg BK459); have NB460_459 := Aside0.mk (ng_ hg BK459); replace BK459 := bb BK459 hb; clear hb hbox hg; have hnb112 := NB459_460.out; have hnc112 := NB460_459.out; obtain ⟨hcz113_0, hcz113_1, hfz113_0, hfz113_1⟩ := c2 BK459; obtain ⟨hcz114_0, hcz114_1, hcz114_2, hfz114_0, hfz114_1, hfz114_2⟩ := c3 BK460) | ((with_reducible refine gate_callee (f := 165) rfl ?_); refine gL 12 Try.func165 #[.agg #[.slice A0_0 l0_0.length c0_0, .int .i64 a0_1], .int .i64 a1_2] ?_; (with_reducible refine (spec_KeyOf.calls k _ _ l0_0 a0_1 a1_2 t461 _ ?side1 ?side2 A4.out).mono ?_); (case side1 => exact kc HR0_0 HB); (case side2 => exact HC0_0.out); rintro e w115 ⟨rfl, hb⟩; refine ⟨_, rfl, ?_⟩; replace BK459 := bb BK459 hb; replace BK460 := bb BK460 hb; replace HB := bs HB hb; (try clear hb); (try clear hb2); (try clear hk); (try clear hi); obtain ⟨hcz116_0, hcz116_1, hfz116_0, hfz116_1⟩ := c2 BK459; obtain ⟨hcz117_0, hcz117_1, hcz117_2, hfz117_0, hfz117_1, hfz117_2⟩ := c3 BK460))
        go_ret
        exact ⟨er, tb HB⟩
    ·rw [if_neg c73] at H
     have c73b0 : (a2 == 4) = false := beq_eq_false_iff_ne.mpr c73
     have c73b1 : (a2 != 4) = true := bne_iff_ne.mpr c73
     obtain rfl := Option.some.inj H
     go_enter Try.func116, Try.ntmps116
     go_wp2_with (first | ((with_reducible refine gate_dst (N := 3) rfl ?_); refine bx (N := 3) (cs := #[.slice A0_0 l0_0.length c0_0, .int .i64 a0_1]) (t := 65) ?_; intro gb459 hg w118 hbox hb; have BK459 := Aside0.mk (hbox); have GW459 := Aside0.mk (ge_ hg HB); have GE459 := Aside0.mk (ge_ hg HB); replace HB := bs HB hb; clear hb hbox hg) | ((with_reducible refine gate_dst (N := 4) rfl ?_); refine bx (N := 4) (cs := #[.int .i64 a1_0, .int .i64 a1_1, .int .i64 a1_2]) (t := 68) ?_; intro gb460 hg w119 hbox hb; have BK460 := Aside0.mk (hbox); have GW460 := Aside0.mk (ge_ hg HB); have GE460 := Aside0.mk (ge_ hg HB); replace HB := bs HB hb; have NB459_460 := Aside0.mk (nl_ hg BK459); have NB460_459 := Aside0.mk (ng_ hg BK459); replace BK459 := bb BK459 hb; clear hb hbox hg; have hnb120 := NB459_460.out; have hnc120 := NB460_459.out; obtain ⟨hcz121_0, hcz121_1, hfz121_0, hfz121_1⟩ := c2 BK459; obtain ⟨hcz122_0, hcz122_1, hcz122_2, hfz122_0, hfz122_1, hfz122_2⟩ := c3 BK460) | ((with_reducible refine gate_callee (f := 165) rfl ?_); refine gL 12 Try.func165 #[.agg #[.slice A0_0 l0_0.length c0_0, .int .i64 a0_1], .int .i64 a1_2] ?_; (with_reducible refine (spec_KeyOf.calls k _ _ l0_0 a0_1 a1_2 t461 _ ?side1 ?side2 A4.out).mono ?_); (case side1 => exact kc HR0_0 HB); (case side2 => exact HC0_0.out); rintro e w123 ⟨rfl, hb⟩; refine ⟨_, rfl, ?_⟩; replace BK459 := bb BK459 hb; replace BK460 := bb BK460 hb; replace HB := bs HB hb; (try clear hb); (try clear hb2); (try clear hk); (try clear hi); obtain ⟨hcz124_0, hcz124_1, hfz124_0, hfz124_1⟩ := c2 BK459))
     go_ret
     exact ⟨er, tb HB⟩
def spec_l1Bit.f (a0 : Bool) : Option (Int) := if a0 = true then (some 1) else (some 0)
set_option maxHeartbeats 8000000 in
set_option maxRecDepth 100000 in
theorem spec_l1Bit.calls (a0 : Bool) (r : Int) (w : World) (h : spec_l1Bit.f a0 = some r) :
  Calls Try.prog 192 #[.bool a0] w fun e w' => e = .returned (.int .i64 r) ∧ Drawn0 w w' := by
 have H : (if a0 = true then (some 1) else (some 0)) = some r := h
 clear h
 by_cases c2 : a0 = true
 ·subst c2
  have H1 : (some 1) = some r := by rw [if_pos rfl] at H; exact H
  clear H
  have H := H1
  clear H1
  obtain rfl := Option.some.inj H
  go_enter Try.func192, Try.ntmps192
  go_wp2
  go_ret
  exact ⟨by first | rfl | (simp; done) | (simp [*]; done), by repeat (first | exact Drawn0.refl _ | apply Drawn0.step)⟩
 ·replace c2 := Bool.eq_false_iff.mpr c2
  subst c2
  have H1 : (some 0) = some r := by rw [if_neg (show ¬ (false = true) by decide)] at H; exact H
  clear H
  have H := H1
  clear H1
  obtain rfl := Option.some.inj H
  go_enter Try.func192, Try.ntmps192
  go_wp2
  go_ret
  exact ⟨by first | rfl | (simp; done) | (simp [*]; done), by repeat (first | exact Drawn0.refl _ | apply Drawn0.step)⟩
def spec_ClassOf.f (a0 : Int) : Option (Int) := (spec_ValOk.f a0).bind fun t464 => (if t464 = true then (some (Int.tmod a0 3)) else (some (-1)))
set_option maxHeartbeats 8000000 in
set_option maxRecDepth 100000 in
theorem spec_ClassOf.calls (a0 : Int) (r : Int) (w : World) (h : spec_ClassOf.f a0 = some r) :
  Calls Try.prog 193 #[.int .i64 a0] w fun e w' => e = .returned (.int .i64 r) ∧ Drawn0 w w' := by
 have H : ((spec_ValOk.f a0).bind fun t464 => (if t464 = true then (some (Int.tmod a0 3)) else (some (-1)))) = some r := h
 clear h
 replace H := Option.bind_eq_some_iff.mp H
 obtain ⟨t464, A20, H⟩ := H
 replace H : (if t464 = true then (some (Int.tmod a0 3)) else (some (-1))) = some r := H
 have A2 := Aside0.mk A20
 clear A20
 by_cases c3 : t464 = true
 ·subst c3
  have H1 : (some (Int.tmod a0 3)) = some r := by rw [if_pos rfl] at H; exact H
  clear H
  have H := H1
  clear H1
  obtain rfl := Option.some.inj H
  go_enter Try.func193, Try.ntmps193
  go_wp2_with (first | ((with_reducible refine gate_callee (f := 125) rfl ?_); refine gL 4 Try.func125 #[.int .i64 a0] ?_; (with_reducible refine (spec_ValOk.calls a0 true _ A2.out).mono ?_); rintro e w' ⟨rfl, ⟨nd, rfl⟩⟩; refine ⟨_, rfl, ?_⟩))
  go_ret
  exact ⟨by first | rfl | (simp; done) | (simp [*]; done), by repeat (first | exact Drawn0.refl _ | apply Drawn0.step)⟩
 ·replace c3 := Bool.eq_false_iff.mpr c3
  subst c3
  have H1 : (some (-1)) = some r := by rw [if_neg (show ¬ (false = true) by decide)] at H; exact H
  clear H
  have H := H1
  clear H1
  obtain rfl := Option.some.inj H
  go_enter Try.func193, Try.ntmps193
  go_wp2_with (first | ((with_reducible refine gate_callee (f := 125) rfl ?_); refine gL 4 Try.func125 #[.int .i64 a0] ?_; (with_reducible refine (spec_ValOk.calls a0 false _ A2.out).mono ?_); rintro e w' ⟨rfl, ⟨nd, rfl⟩⟩; refine ⟨_, rfl, ?_⟩))
  go_ret
  exact ⟨by first | rfl | (simp; done) | (simp [*]; done), by repeat (first | exact Drawn0.refl _ | apply Drawn0.step)⟩
def spec_HowMany.l0 : Nat → Int → Int → Int → List Int → Int → Option (Int)
 | 0, _, _, _, _, _ => none
 | k + 1, x1, x5, x6, x466000, x466001 => if x6 < (x466000.length : Int) then (if 0 ≤ x6 then ((spec_ValOk.f (rd x466000 x6)).bind fun t467 => (if t467 = true then ((spec_ClassOf.f (rd x466000 x6)).bind fun t469 => ((spec_l1Bit.f (t469 == x1)).bind fun t470 => (spec_HowMany.l0 k x1 (wrap64 (x5 + t470)) (wrap64 (x6 + 1)) x466000 x466001))) else ((spec_l1Bit.f false).bind fun t471 => (spec_HowMany.l0 k x1 (wrap64 (x5 + t471)) (wrap64 (x6 + 1)) x466000 x466001)))) else (none)) else (some x5)
def spec_HowMany.f (k : Nat) (l0_0 : List Int) (a0_1 : Int) (a1 : Int) : Option (Int) := spec_HowMany.l0 k a1 0 0 l0_0 a0_1
theorem spec_HowMany.mono_l : ∀ k, (∀ y0 y1 y2 y3 y4, LeO (spec_HowMany.l0 k y0 y1 y2 y3 y4) (spec_HowMany.l0 (k + 1) y0 y1 y2 y3 y4))
 | 0 => fun _ _ _ _ _ r h => by simp [spec_HowMany.l0] at h
 | k + 1 => by
  have ih0 := spec_HowMany.mono_l k
  ·intro y0 y1 y2 y3 y4
   unfold spec_HowMany.l0
   repeat' first
   | (with_reducible exact ih0 _ _ _ _ _)
   | (with_reducible exact LeO.refl _)
   | (with_reducible exact LeO.none _)
   | (with_reducible refine LeO.ite ?_ ?_)
   | (with_reducible refine LeO.bind ?_ (fun _ => ?_))
   | exact ih0 _ _ _ _ _
   | exact LeO.none _
   | refine LeO.ite ?_ ?_
   | refine LeO.bind ?_ (fun _ => ?_)
theorem spec_HowMany.mono : ∀ a0 a1 a2 k, LeO (spec_HowMany.f k a0 a1 a2) (spec_HowMany.f (k + 1) a0 a1 a2) := by
 intro a0 a1 a2 k
 have ih0 := spec_HowMany.mono_l k
 unfold spec_HowMany.f
 repeat' first
   | (with_reducible exact ih0 _ _ _ _ _)
   | (with_reducible exact LeO.refl _)
   | (with_reducible exact LeO.none _)
   | (with_reducible refine LeO.ite ?_ ?_)
   | (with_reducible refine LeO.bind ?_ (fun _ => ?_))
   | exact ih0 _ _ _ _ _
   | exact LeO.none _
   | refine LeO.ite ?_ ?_
   | refine LeO.bind ?_ (fun _ => ?_)
set_option maxHeartbeats 8000000 in
set_option maxRecDepth 100000 in
theorem spec_HowMany.calls (k : Nat) (A0_0 : Option Addr) (c0_0 : Nat) (l0_0 : List Int) (a0_1 : Int) (a1 : Int) (r : Int) (w : World) (hr0_0 : Kd.C (Kd.int .i64) w A0_0 l0_0.length l0_0) (hc0_0 : l0_0.length ≤ c0_0) (h : spec_HowMany.f k l0_0 a0_1 a1 = some r) :
  Calls Try.prog 166 #[.agg #[.slice A0_0 l0_0.length c0_0, .int .i64 a0_1], .int .i64 a1] w fun e w' => e = .returned (.int .i64 r) ∧ Below w.heap.size w w' := by
 have hu65 := Try.underlying65
 have HR0_0 := Aside0.mk hr0_0
 have HC0_0 := Aside0.mk hc0_0
 clear hr0_0 hc0_0
 have HB := Aside0.mk (Below.refl w.heap.size w)
 have H : (spec_HowMany.l0 k a1 0 0 l0_0 a0_1) = some r := h
 clear h
 have H' := Aside0.mk H
 clear H
 go_enter Try.func166, Try.ntmps166
 go_wp2_with (first | ((with_reducible refine gate_dst (N := 2) rfl ?_); refine bx (N := 2) (cs := #[.slice A0_0 l0_0.length c0_0, .int .i64 a0_1]) (t := 65) ?_; intro gb465 hg w3 hbox hb; have BK465 := Aside0.mk (hbox); have GW465 := Aside0.mk (ge_ hg HB); have GE465 := Aside0.mk (ge_ hg HB); replace HB := bs HB hb; clear hb hbox hg))
 go_loopg [5, 6] k (fun kq v5 v6 w' => ∃ (x5_1 : Int) (x6_1 : Int), v5 = .int .i64 x5_1 ∧ v6 = .int .i64 x6_1 ∧ Aside0 (spec_HowMany.l0 kq a1 x5_1 x6_1 l0_0 a0_1 = some r) ∧ Aside0 (kq ≤ k) ∧ Aside0 (w'.heap[gb465]? = some (.cells #[(.slice A0_0 l0_0.length c0_0), .int .i64 a0_1] 65 (0, 0))) ∧ Aside0 (Below w.heap.size w w'))
 case atStart => exact ⟨(0), (0), (by first | rfl | (simp; done) | (simp [*]; done)), (by first | rfl | (simp; done) | (simp [*]; done)), H', ⟨Nat.le_refl _⟩, ⟨by (with_reducible repeat (first | refine blk_drewN ?_ _ | refine blk_drew ?_ | refine blk_alloc ?_ _)); exact BK465.out⟩, ⟨tb HB⟩⟩
 case round =>
  clear H'
  try clear c1
  try clear p2
  obtain ⟨x5_1, x6_1, rfl, rfl, HA, HK1, BK465, HB⟩ := hrel
  cases gk with
  | zero => exact absurd HA.out (by simp [spec_HowMany.l0])
  | succ k1 =>
   have H := HA.out
   clear HA
   simp only [spec_HowMany.l0] at H
   by_cases c4 : x6_1 < (l0_0.length : Int)
   ·rw [if_pos c4] at H
    have c4b0 := decide_eq_true c4
    clear c4
    by_cases c5 : 0 ≤ x6_1
    ·rw [if_pos c5] at H
     have c5b0 := decide_eq_true c5
     clear c5
     replace H := Option.bind_eq_some_iff.mp H
     obtain ⟨t467, A60, H⟩ := H
     replace H : (if t467 = true then ((spec_ClassOf.f (rd l0_0 x6_1)).bind fun t469 => ((spec_l1Bit.f (t469 == a1)).bind fun t470 => (spec_HowMany.l0 k1 a1 (wrap64 (x5_1 + t470)) (wrap64 (x6_1 + 1)) l0_0 a0_1))) else ((spec_l1Bit.f false).bind fun t471 => (spec_HowMany.l0 k1 a1 (wrap64 (x5_1 + t471)) (wrap64 (x6_1 + 1)) l0_0 a0_1))) = some r := H
     have A6 := Aside0.mk A60
     clear A60
     by_cases c7 : t467 = true
     ·subst c7
      have H1 : ((spec_ClassOf.f (rd l0_0 x6_1)).bind fun t469 => ((spec_l1Bit.f (t469 == a1)).bind fun t470 => (spec_HowMany.l0 k1 a1 (wrap64 (x5_1 + t470)) (wrap64 (x6_1 + 1)) l0_0 a0_1))) = some r := by rw [if_pos rfl] at H; exact H
      clear H
      have H := H1
      clear H1
      replace H := Option.bind_eq_some_iff.mp H
      obtain ⟨t469, A80, H⟩ := H
      replace H : ((spec_l1Bit.f (t469 == a1)).bind fun t470 => (spec_HowMany.l0 k1 a1 (wrap64 (x5_1 + t470)) (wrap64 (x6_1 + 1)) l0_0 a0_1)) = some r := H
      have A8 := Aside0.mk A80
      clear A80
      replace H := Option.bind_eq_some_iff.mp H
      obtain ⟨t470, A90, H⟩ := H
      replace H : (spec_HowMany.l0 k1 a1 (wrap64 (x5_1 + t470)) (wrap64 (x6_1 + 1)) l0_0 a0_1) = some r := H
      have A9 := Aside0.mk A90
      clear A90
      have H' := Aside0.mk H
      clear H
      obtain ⟨hcz10_0, hcz10_1, hfz10_0, hfz10_1⟩ := c2 BK465
      have p466 : 0 ≤ (x6_1 : Int) := od
      have q466 : x6_1 < (l0_0.length : Int) := od
      obtain ⟨ad466, e466, hx466_0⟩ := Kd.at_int HR0_0.out x6_1 p466 q466
      cases e466
      replace hx466_0 := (HB.out.cell (World.block_lt_of_cell? w _ hx466_0)).trans hx466_0
      replace p466 := eq_true p466
      replace q466 := eq_true q466
      go_wp2_with (first | ((with_reducible refine gate_callee (f := 125) rfl ?_); refine gL 20 Try.func125 #[.int .i64 (rd l0_0 x6_1)] ?_; (with_reducible refine (spec_ValOk.calls (rd l0_0 x6_1) true _ A6.out).mono ?_); rintro e w' ⟨rfl, ⟨nd, rfl⟩⟩; refine ⟨_, rfl, ?_⟩; have p468 : 0 ≤ (x6_1 : Int) := od; have q468 : x6_1 < (l0_0.length : Int) := od; obtain ⟨ad468, e468, hx468_0⟩ := Kd.at_int HR0_0.out x6_1 p468 q468; obtain rfl : ad466 = ad468 := (by injection e468); replace hx468_0 := (HB.out.cell (World.block_lt_of_cell? w _ hx468_0)).trans hx468_0; replace p468 := eq_true p468; replace q468 := eq_true q468) | (go_at_call 193; (with_reducible refine (spec_ClassOf.calls (rd l0_0 x6_1) t469 _ A8.out).mono ?_); rintro e w' ⟨rfl, ⟨nd, rfl⟩⟩) | ((with_reducible refine gate_callee (f := 192) rfl ?_); refine gL 31 Try.func192 #[.bool (t469 == a1)] ?_; (with_reducible refine (spec_l1Bit.calls (t469 == a1) t470 _ A9.out).mono ?_); rintro e w' ⟨rfl, ⟨nd, rfl⟩⟩; refine ⟨_, rfl, ?_⟩))
      go_roundg k1
      case measure => have := HK1.out; omega
      case rel => exact ⟨(wrap64 (x5_1 + t470)), (wrap64 (x6_1 + 1)), (by first | rfl | (simp; done) | (simp [*]; done)), (by first | rfl | (simp; done) | (simp [*]; done)), H', ⟨by have := HK1.out; omega⟩, ⟨by (with_reducible repeat (first | refine blk_drewN ?_ _ | refine blk_drew ?_ | refine blk_alloc ?_ _)); exact BK465.out⟩, ⟨tb HB⟩⟩
     ·replace c7 := Bool.eq_false_iff.mpr c7
      subst c7
      have H1 : ((spec_l1Bit.f false).bind fun t471 => (spec_HowMany.l0 k1 a1 (wrap64 (x5_1 + t471)) (wrap64 (x6_1 + 1)) l0_0 a0_1)) = some r := by rw [if_neg (show ¬ (false = true) by decide)] at H; exact H
      clear H
      have H := H1
      clear H1
      replace H := Option.bind_eq_some_iff.mp H
      obtain ⟨t471, A110, H⟩ := H
      replace H : (spec_HowMany.l0 k1 a1 (wrap64 (x5_1 + t471)) (wrap64 (x6_1 + 1)) l0_0 a0_1) = some r := H
      have A11 := Aside0.mk A110
      clear A110
      have H' := Aside0.mk H
      clear H
      obtain ⟨hcz12_0, hcz12_1, hfz12_0, hfz12_1⟩ := c2 BK465
      have p466 : 0 ≤ (x6_1 : Int) := od
      have q466 : x6_1 < (l0_0.length : Int) := od
      obtain ⟨ad466, e466, hx466_0⟩ := Kd.at_int HR0_0.out x6_1 p466 q466
      cases e466
      replace hx466_0 := (HB.out.cell (World.block_lt_of_cell? w _ hx466_0)).trans hx466_0
      replace p466 := eq_true p466
      replace q466 := eq_true q466
      go_wp2_with (first | ((with_reducible refine gate_callee (f := 125) rfl ?_); refine gL 20 Try.func125 #[.int .i64 (rd l0_0 x6_1)] ?_; (with_reducible refine (spec_ValOk.calls (rd l0_0 x6_1) false _ A6.out).mono ?_); rintro e w' ⟨rfl, ⟨nd, rfl⟩⟩; refine ⟨_, rfl, ?_⟩) | ((with_reducible refine gate_callee (f := 192) rfl ?_); refine gL 31 Try.func192 #[.bool false] ?_; (with_reducible refine (spec_l1Bit.calls false t471 _ A11.out).mono ?_); rintro e w' ⟨rfl, ⟨nd, rfl⟩⟩; refine ⟨_, rfl, ?_⟩))
      go_roundg k1
      case measure => have := HK1.out; omega
      case rel => exact ⟨(wrap64 (x5_1 + t471)), (wrap64 (x6_1 + 1)), (by first | rfl | (simp; done) | (simp [*]; done)), (by first | rfl | (simp; done) | (simp [*]; done)), H', ⟨by have := HK1.out; omega⟩, ⟨by (with_reducible repeat (first | refine blk_drewN ?_ _ | refine blk_drew ?_ | refine blk_alloc ?_ _)); exact BK465.out⟩, ⟨tb HB⟩⟩
    ·rw [if_neg c5] at H
     exact absurd H (by simp)
   ·rw [if_neg c4] at H
    have c4b0 := decide_eq_false c4
    clear c4
    obtain rfl := Option.some.inj H
    obtain ⟨hcz13_0, hcz13_1, hfz13_0, hfz13_1⟩ := c2 BK465
    go_wp2
    go_ret
    exact ⟨er, tb HB⟩
def spec_l4Done.f (k : Nat) (l0_0 : List Int) (a0_1 : Int) (a1_0 : Int) (a1_1 : Int) (a1_2 : Int) : Option (List Int × Bool) := (some (([] : List Int) : List Int)).bind fun y474 => ((spec_KeyOf.f k l0_0 a0_1 a1_2).bind fun t477 => (if a1_0 = 1 then (if 0 ≤ a1_1 then (if a1_1 < (l0_0.length : Int) then (if (rd l0_0 a1_1) = 0 then (some (y474, decide (t477 < 0))) else (some (y474, false))) else (none)) else (none)) else (if a1_0 = 2 then (if 0 ≤ a1_1 then (if a1_1 < (l0_0.length : Int) then (if (rd l0_0 a1_1) = 0 then (some (y474, false)) else (if t477 < 0 then (some (y474, true)) else (some (y474, (t477 == a1_1))))) else (none)) else (none)) else (if a1_0 = 3 then (if 0 ≤ a1_1 then (if a1_1 < (l0_0.length : Int) then (some (y474, ((rd l0_0 a1_1) != 0))) else (none)) else (none)) else (if a1_0 = 4 then (if 0 ≤ a1_1 then (if a1_1 < (l0_0.length : Int) then (some ((([rd l0_0 a1_1] : List Int)), ((rd l0_0 a1_1) != 0))) else (none)) else (none)) else (if a1_0 = 5 then (some ((([t477] : List Int)), decide (t477 ≥ 0))) else (if a1_0 = 6 then ((spec_HowMany.f k l0_0 a0_1 a1_1).bind fun t489 => (some ((([t489] : List Int)), true))) else (if a1_0 = 7 then ((some (([] : List Int) : List Int)).bind fun y493 => (if y493.length + l0_0.length < 17592186044416 then (some ((y493 ++ l0_0), true)) else (none))) else (if a1_0 = 8 then (some (y474, (a0_1 == 0))) else (if a1_0 = 9 then ((spec_l1In.f a0_1 1 4).bind fun t499 => (some (y474, t499))) else ((some (([t477] : List Int) : List Int)).bind fun y500 => (if a0_1 = 5 then (some (y500, decide (t477 ≥ 0))) else (some (y500, false))))))))))))))
theorem spec_l4Done.mono : ∀ a0 a1 a2 a3 a4 k, LeO (spec_l4Done.f k a0 a1 a2 a3 a4) (spec_l4Done.f (k + 1) a0 a1 a2 a3 a4) := by
 intro a0 a1 a2 a3 a4 k
 unfold spec_l4Done.f
 repeat' first
   | (with_reducible exact spec_HowMany.mono _ _ _ _)
   | (with_reducible exact spec_KeyOf.mono _ _ _ _)
   | (with_reducible exact LeO.refl _)
   | (with_reducible exact LeO.none _)
   | (with_reducible refine LeO.ite ?_ ?_)
   | (with_reducible refine LeO.bind ?_ (fun _ => ?_))
   | exact spec_HowMany.mono _ _ _ _
   | exact spec_KeyOf.mono _ _ _ _
   | exact LeO.none _
   | refine LeO.ite ?_ ?_
   | refine LeO.bind ?_ (fun _ => ?_)
def spec_l4Done.T7 : Bool × List (List Nat × List Nat) := (true, [([], []), ([], []), ([1], [1]), ([], []), ([3], [3]), ([2, 4], [2, 4]), ([5], [5]), ([6], [6]), ([7], [7]), ([8], [8]), ([9, 8], [8, 9]), ([10, 8, 8], [8, 10]), ([11], [11]), ([11], [11]), ([13, 11], [11, 13]), ([12, 14, 11], [11, 12, 14]), ([11, 15, 8], [8, 11, 15]), ([8, 16], [8, 16]), ([0, 11, 0], [0]), ([17, 18, 0, 1, 2, 3, 4, 5, 6, 7, 8, 9, 10, 11, 12, 13, 14, 15, 16, 17, 18], [17])])
def spec_l4Done.B7 : List Nat := [0, 0, 2, 0, 8, 30, 62, 126, 254, 510, 1022, 2046, 4094, 4094, 12286, 32766, 65534, 131070, 4095, 524287]
theorem spec_l4Done.tab7 : rtab .any (opsOf Try.f117 7) = spec_l4Done.T7 := by kernel_rfl
theorem spec_l4Done.bits7 : waitsOk spec_l4Done.T7.2 spec_l4Done.B7 = true := by kernel_rfl
def spec_l4Done.T9 : Bool × List (List Nat × List Nat) := (true, [([], []), ([], []), ([1], [1]), ([], []), ([3], [3]), ([2, 4], [2, 4]), ([5], [5]), ([6], [6]), ([0, 0], [0]), ([7, 8, 0, 1, 2, 3, 4, 5, 6, 7, 8], [7])])
def spec_l4Done.B9 : List Nat := [0, 0, 2, 0, 8, 30, 62, 126, 1, 511]
theorem spec_l4Done.tab9 : rtab .any (opsOf Try.f117 9) = spec_l4Done.T9 := by kernel_rfl
theorem spec_l4Done.bits9 : waitsOk spec_l4Done.T9.2 spec_l4Done.B9 = true := by kernel_rfl
def spec_l4Done.T11 : Bool × List (List Nat × List Nat) := (true, [([], []), ([0], [0]), ([], []), ([2], [2]), ([1, 3], [1, 3]), ([4], [4]), ([5], [5]), ([], []), ([7], [7]), ([], []), ([9], [9]), ([8, 10], [8, 10]), ([11], [11]), ([12], [12]), ([6, 0, 1, 2, 3, 4, 5, 6], [6]), ([13, 14, 0, 1, 2, 3, 4, 5, 6, 7, 8, 9, 10, 11, 12, 13, 14], [13])])
def spec_l4Done.B11 : List Nat := [0, 1, 0, 4, 15, 31, 63, 0, 128, 0, 512, 1920, 3968, 8064, 127, 32767]
theorem spec_l4Done.tab11 : rtab .any (opsOf Try.f117 11) = spec_l4Done.T11 := by kernel_rfl
theorem spec_l4Done.bits11 : waitsOk spec_l4Done.T11.2 spec_l4Done.B11 = true := by kernel_rfl
set_option maxHeartbeats 8000000 in
set_option maxRecDepth 100000 in
theorem spec_l4Done.calls (k : Nat) (A0_0 : Option Addr) (c0_0 : Nat) (l0_0 : List Int) (a0_1 : Int) (a1_0 : Int) (a1_1 : Int) (a1_2 : Int) (r1 : List Int) (r2 : Bool) (w : World) (hr0_0 : Kd.C (Kd.int .i64) w A0_0 l0_0.length l0_0) (hc0_0 : l0_0.length ≤ c0_0) (h : spec_l4Done.f k l0_0 a0_1 a1_0 a1_1 a1_2 = some (r1, r2)) :
  Calls Try.prog 117 #[.agg #[.slice A0_0 l0_0.length c0_0, .int .i64 a0_1], .agg #[.int .i64 a1_0, .int .i64 a1_1, .int .i64 a1_2]] w fun e w' => ∃ v0_ : Value, e = .returned (.tuple #[v0_, .bool r2]) ∧ Kd.R (Kd.int .i64) 3 w' w.heap.size (fun _ => True) v0_ r1 ∧ Below w.heap.size w w' := by
 have hu65 := Try.underlying65
 have hu68 := Try.underlying68
 have HR0_0 := Aside0.mk hr0_0
 have HC0_0 := Aside0.mk hc0_0
 clear hr0_0 hc0_0
 have HB := Aside0.mk (Below.refl w.heap.size w)
 have H : ((some (([] : List Int) : List Int)).bind fun y474 => ((spec_KeyOf.f k l0_0 a0_1 a1_2).bind fun t477 => (if a1_0 = 1 then (if 0 ≤ a1_1 then (if a1_1 < (l0_0.length : Int) then (if (rd l0_0 a1_1) = 0 then (some (y474, decide (t477 < 0))) else (some (y474, false))) else (none)) else (none)) else (if a1_0 = 2 then (if 0 ≤ a1_1 then (if a1_1 < (l0_0.length : Int) then (if (rd l0_0 a1_1) = 0 then (some (y474, false)) else (if t477 < 0 then (some (y474, true)) else (some (y474, (t477 == a1_1))))) else (none)) else (none)) else (if a1_0 = 3 then (if 0 ≤ a1_1 then (if a1_1 < (l0_0.length : Int) then (some (y474, ((rd l0_0 a1_1) != 0))) else (none)) else (none)) else (if a1_0 = 4 then (if 0 ≤ a1_1 then (if a1_1 < (l0_0.length : Int) then (some ((([rd l0_0 a1_1] : List Int)), ((rd l0_0 a1_1) != 0))) else (none)) else (none)) else (if a1_0 = 5 then (some ((([t477] : List Int)), decide (t477 ≥ 0))) else (if a1_0 = 6 then ((spec_HowMany.f k l0_0 a0_1 a1_1).bind fun t489 => (some ((([t489] : List Int)), true))) else (if a1_0 = 7 then ((some (([] : List Int) : List Int)).bind fun y493 => (if y493.length + l0_0.length < 17592186044416 then (some ((y493 ++ l0_0), true)) else (none))) else (if a1_0 = 8 then (some (y474, (a0_1 == 0))) else (if a1_0 = 9 then ((spec_l1In.f a0_1 1 4).bind fun t499 => (some (y474, t499))) else ((some (([t477] : List Int) : List Int)).bind fun y500 => (if a0_1 = 5 then (some (y500, decide (t477 ≥ 0))) else (some (y500, false))))))))))))))) = some (r1, r2) := h
 clear h
 obtain ⟨y474, hy474⟩ : ∃ y_ : List Int, y_ = (([] : List Int)) := ⟨_, rfl⟩
 replace H : ((spec_KeyOf.f k l0_0 a0_1 a1_2).bind fun t477 => (if a1_0 = 1 then (if 0 ≤ a1_1 then (if a1_1 < (l0_0.length : Int) then (if (rd l0_0 a1_1) = 0 then (some (y474, decide (t477 < 0))) else (some (y474, false))) else (none)) else (none)) else (if a1_0 = 2 then (if 0 ≤ a1_1 then (if a1_1 < (l0_0.length : Int) then (if (rd l0_0 a1_1) = 0 then (some (y474, false)) else (if t477 < 0 then (some (y474, true)) else (some (y474, (t477 == a1_1))))) else (none)) else (none)) else (if a1_0 = 3 then (if 0 ≤ a1_1 then (if a1_1 < (l0_0.length : Int) then (some (y474, ((rd l0_0 a1_1) != 0))) else (none)) else (none)) else (if a1_0 = 4 then (if 0 ≤ a1_1 then (if a1_1 < (l0_0.length : Int) then (some ((([rd l0_0 a1_1] : List Int)), ((rd l0_0 a1_1) != 0))) else (none)) else (none)) else (if a1_0 = 5 then (some ((([t477] : List Int)), decide (t477 ≥ 0))) else (if a1_0 = 6 then ((spec_HowMany.f k l0_0 a0_1 a1_1).bind fun t489 => (some ((([t489] : List Int)), true))) else (if a1_0 = 7 then ((some (([] : List Int) : List Int)).bind fun y493 => (if y493.length + l0_0.length < 17592186044416 then (some ((y493 ++ l0_0), true)) else (none))) else (if a1_0 = 8 then (some (y474, (a0_1 == 0))) else (if a1_0 = 9 then ((spec_l1In.f a0_1 1 4).bind fun t499 => (some (y474, t499))) else ((some (([t477] : List Int) : List Int)).bind fun y500 => (if a0_1 = 5 then (some (y500, decide (t477 ≥ 0))) else (some (y500, false)))))))))))))) = some (r1, r2) := by first | (rw [hy474]; with_reducible exact H) | (have H2_ := (Option.bind_some _ _).symm.trans H; rw [hy474]; with_reducible exact H2_) | (have H2_ := (Option.bind_some _ _).symm.trans H; with_reducible exact H2_) | with_reducible exact H | (rw [hy474]; exact H) | exact H
 have Ny474 := Aside0.mk hy474
 clear hy474
 replace H := Option.bind_eq_some_iff.mp H
 obtain ⟨t477, A30, H⟩ := H
 replace H : (if a1_0 = 1 then (if 0 ≤ a1_1 then (if a1_1 < (l0_0.length : Int) then (if (rd l0_0 a1_1) = 0 then (some (y474, decide (t477 < 0))) else (some (y474, false))) else (none)) else (none)) else (if a1_0 = 2 then (if 0 ≤ a1_1 then (if a1_1 < (l0_0.length : Int) then (if (rd l0_0 a1_1) = 0 then (some (y474, false)) else (if t477 < 0 then (some (y474, true)) else (some (y474, (t477 == a1_1))))) else (none)) else (none)) else (if a1_0 = 3 then (if 0 ≤ a1_1 then (if a1_1 < (l0_0.length : Int) then (some (y474, ((rd l0_0 a1_1) != 0))) else (none)) else (none)) else (if a1_0 = 4 then (if 0 ≤ a1_1 then (if a1_1 < (l0_0.length : Int) then (some ((([rd l0_0 a1_1] : List Int)), ((rd l0_0 a1_1) != 0))) else (none)) else (none)) else (if a1_0 = 5 then (some ((([t477] : List Int)), decide (t477 ≥ 0))) else (if a1_0 = 6 then ((spec_HowMany.f k l0_0 a0_1 a1_1).bind fun t489 => (some ((([t489] : List Int)), true))) else (if a1_0 = 7 then ((some (([] : List Int) : List Int)).bind fun y493 => (if y493.length + l0_0.length < 17592186044416 then (some ((y493 ++ l0_0), true)) else (none))) else (if a1_0 = 8 then (some (y474, (a0_1 == 0))) else (if a1_0 = 9 then ((spec_l1In.f a0_1 1 4).bind fun t499 => (some (y474, t499))) else ((some (([t477] : List Int) : List Int)).bind fun y500 => (if a0_1 = 5 then (some (y500, decide (t477 ≥ 0))) else (some (y500, false))))))))))))) = some (r1, r2) := H
 have A3 := Aside0.mk A30
 clear A30
 by_cases c4 : a1_0 = 1
 ·rw [if_pos c4] at H
  have c4b0 : (a1_0 == 1) = true := beq_iff_eq.mpr c4
  have c4b1 : (a1_0 != 1) = false := bne_eq_false_iff_eq.mpr c4
  clear c4
  by_cases c5 : 0 ≤ a1_1
  ·rw [if_pos c5] at H
   have c5b0 := decide_eq_true c5
   clear c5
   by_cases c6 : a1_1 < (l0_0.length : Int)
   ·rw [if_pos c6] at H
    have c6b0 := decide_eq_true c6
    clear c6
    by_cases c7 : (rd l0_0 a1_1) = 0
    ·rw [if_pos c7] at H
     have c7b0 : ((rd l0_0 a1_1) == 0) = true := beq_iff_eq.mpr c7
     have c7b1 : ((rd l0_0 a1_1) != 0) = false := bne_eq_false_iff_eq.mpr c7
     clear c7
     simp only [Option.some.injEq, Prod.mk.injEq] at H
     obtain ⟨rfl, rfl⟩ := H
     go_enter Try.func117, Try.ntmps117
     go_wp2_with (first | ((with_reducible refine gate_dst (N := 2) rfl ?_); refine bx (N := 2) (cs := #[.slice A0_0 l0_0.length c0_0, .int .i64 a0_1]) (t := 65) ?_; intro gb472 hg w8 hbox hb; have BK472 := Aside0.mk (hbox); have GW472 := Aside0.mk (ge_ hg HB); have GE472 := Aside0.mk (ge_ hg HB); replace HB := bs HB hb; clear hb hbox hg) | ((with_reducible refine gate_dst (N := 3) rfl ?_); refine bx (N := 3) (cs := #[.int .i64 a1_0, .int .i64 a1_1, .int .i64 a1_2]) (t := 68) ?_; intro gb473 hg w9 hbox hb; have BK473 := Aside0.mk (hbox); have GW473 := Aside0.mk (ge_ hg HB); have GE473 := Aside0.mk (ge_ hg HB); replace HB := bs HB hb; have NB472_473 := Aside0.mk (nl_ hg BK472); have NB473_472 := Aside0.mk (ng_ hg BK472); replace BK472 := bb BK472 hb; clear hb hbox hg) | ((with_reducible refine gate_dst (N := 8) rfl ?_); refine Kd.R_lit (Kd.int .i64) _ 3 ?hg (N := 8) ?hd (xs := ([] : List Int)) (inner := []) (ok := fun _ => True) (okp := fun _ => True) ?hr ?hp (fun _ hk => hk) trivial (Below.refl _ _) (Nat.le_refl _) (by simp) ?_; (case hd => rfl); (case hg => rfl); (case hr => first | (go_simp; done) | (go_simp; rfl)); (case hp => exact (Reps.none _ _)); intro v475 w10 ho11 hb hg_ hnew_; clear hg_ hnew_; (first | rw [← Ny474.out] at ho11 | (simp only [Int.reduceToNat] at ho11; rw [← Ny474.out] at ho11)); have HO476 := Aside0.mk (Kd.R_lower ho11 (below_size (tb HB))); replace BK472 := bb BK472 hb; replace BK473 := bb BK473 hb; replace HB := bs HB hb; clear hb ho11; have hnb12 := NB472_473.out; have hnc12 := NB473_472.out; obtain ⟨hcz13_0, hcz13_1, hfz13_0, hfz13_1⟩ := c2 BK472; obtain ⟨hcz14_0, hcz14_1, hcz14_2, hfz14_0, hfz14_1, hfz14_2⟩ := c3 BK473) | ((with_reducible refine gate_callee (f := 165) rfl ?_); refine gL 12 Try.func165 #[.agg #[.slice A0_0 l0_0.length c0_0, .int .i64 a0_1], .int .i64 a1_2] ?_; (with_reducible refine (spec_KeyOf.calls k _ _ l0_0 a0_1 a1_2 t477 _ ?side1 ?side2 A3.out).mono ?_); (case side1 => exact kc HR0_0 HB); (case side2 => exact HC0_0.out); rintro e w15 ⟨rfl, hb⟩; refine ⟨_, rfl, ?_⟩; replace HO476 := rb HO476 hb; replace BK472 := bb BK472 hb; replace BK473 := bb BK473 hb; replace HB := bs HB hb; (try clear hb); (try clear hb2); (try clear hk); (try clear hi); obtain ⟨hcz16_0, hcz16_1, hcz16_2, hfz16_0, hfz16_1, hfz16_2⟩ := c3 BK473; obtain ⟨hcz17_0, hcz17_1, hfz17_0, hfz17_1⟩ := c2 BK472; have p478 : 0 ≤ (a1_1 : Int) := od; have q478 : a1_1 < (l0_0.length : Int) := od; obtain ⟨ad478, e478, hx478_0⟩ := Kd.at_int HR0_0.out a1_1 p478 q478; cases e478; replace hx478_0 := (HB.out.cell (World.block_lt_of_cell? w _ hx478_0)).trans hx478_0; replace p478 := eq_true p478; replace q478 := eq_true q478))
     go_ret2
     exact ⟨_, er, kr HO476.out, tb HB⟩
    ·rw [if_neg c7] at H
     have c7b0 : ((rd l0_0 a1_1) == 0) = false := beq_eq_false_iff_ne.mpr c7
     have c7b1 : ((rd l0_0 a1_1) != 0) = true := bne_iff_ne.mpr c7
     simp only [Option.some.injEq, Prod.mk.injEq] at H
     obtain ⟨rfl, rfl⟩ := H
     go_enter Try.func117, Try.ntmps117
     go_wp2_with (first | ((with_reducible refine gate_dst (N := 2) rfl ?_); refine bx (N := 2) (cs := #[.slice A0_0 l0_0.length c0_0, .int .i64 a0_1]) (t := 65) ?_; intro gb472 hg w18 hbox hb; have BK472 := Aside0.mk (hbox); have GW472 := Aside0.mk (ge_ hg HB); have GE472 := Aside0.mk (ge_ hg HB); replace HB := bs HB hb; clear hb hbox hg) | ((with_reducible refine gate_dst (N := 3) rfl ?_); refine bx (N := 3) (cs := #[.int .i64 a1_0, .int .i64 a1_1, .int .i64 a1_2]) (t := 68) ?_; intro gb473 hg w19 hbox hb; have BK473 := Aside0.mk (hbox); have GW473 := Aside0.mk (ge_ hg HB); have GE473 := Aside0.mk (ge_ hg HB); replace HB := bs HB hb; have NB472_473 := Aside0.mk (nl_ hg BK472); have NB473_472 := Aside0.mk (ng_ hg BK472); replace BK472 := bb BK472 hb; clear hb hbox hg) | ((with_reducible refine gate_dst (N := 8) rfl ?_); refine Kd.R_lit (Kd.int .i64) _ 3 ?hg (N := 8) ?hd (xs := ([] : List Int)) (inner := []) (ok := fun _ => True) (okp := fun _ => True) ?hr ?hp (fun _ hk => hk) trivial (Below.refl _ _) (Nat.le_refl _) (by simp) ?_; (case hd => rfl); (case hg => rfl); (case hr => first | (go_simp; done) | (go_simp; rfl)); (case hp => exact (Reps.none _ _)); intro v475 w20 ho21 hb hg_ hnew_; clear hg_ hnew_; (first | rw [← Ny474.out] at ho21 | (simp only [Int.reduceToNat] at ho21; rw [← Ny474.out] at ho21)); have HO476 := Aside0.mk (Kd.R_lower ho21 (below_size (tb HB))); replace BK472 := bb BK472 hb; replace BK473 := bb BK473 hb; replace HB := bs HB hb; clear hb ho21; have hnb22 := NB472_473.out; have hnc22 := NB473_472.out; obtain ⟨hcz23_0, hcz23_1, hfz23_0, hfz23_1⟩ := c2 BK472; obtain ⟨hcz24_0, hcz24_1, hcz24_2, hfz24_0, hfz24_1, hfz24_2⟩ := c3 BK473) | ((with_reducible refine gate_callee (f := 165) rfl ?_); refine gL 12 Try.func165 #[.agg #[.slice A0_0 l0_0.length c0_0, .int .i64 a0_1], .int .i64 a1_2] ?_; (with_reducible refine (spec_KeyOf.calls k _ _ l0_0 a0_1 a1_2 t477 _ ?side1 ?side2 A3.out).mono ?_); (case side1 => exact kc HR0_0 HB); (case side2 => exact HC0_0.out); rintro e w25 ⟨rfl, hb⟩; refine ⟨_, rfl, ?_⟩; replace HO476 := rb HO476 hb; replace BK472 := bb BK472 hb; replace BK473 := bb BK473 hb; replace HB := bs HB hb; (try clear hb); (try clear hb2); (try clear hk); (try clear hi); obtain ⟨hcz26_0, hcz26_1, hcz26_2, hfz26_0, hfz26_1, hfz26_2⟩ := c3 BK473; obtain ⟨hcz27_0, hcz27_1, hfz27_0, hfz27_1⟩ := c2 BK472; have p478 : 0 ≤ (a1_1 : Int) := od; have q478 : a1_1 < (l0_0.length : Int) := od; obtain ⟨ad478, e478, hx478_0⟩ := Kd.at_int HR0_0.out a1_1 p478 q478; cases e478; replace hx478_0 := (HB.out.cell (World.block_lt_of_cell? w _ hx478_0)).trans hx478_0; replace p478 := eq_true p478; replace q478 := eq_true q478))
     go_ret2
     exact ⟨_, er, kr HO476.out, tb HB⟩
   ·rw [if_neg c6] at H
    exact absurd H (by simp)
  ·rw [if_neg c5] at H
   exact absurd H (by simp)
 ·rw [if_neg c4] at H
  have c4b0 : (a1_0 == 1) = false := beq_eq_false_iff_ne.mpr c4
  have c4b1 : (a1_0 != 1) = true := bne_iff_ne.mpr c4
  by_cases c28 : a1_0 = 2
  ·rw [if_pos c28] at H
   have c28b0 : (a1_0 == 2) = true := beq_iff_eq.mpr c28
   have c28b1 : (a1_0 != 2) = false := bne_eq_false_iff_eq.mpr c28
   clear c28
   by_cases c29 : 0 ≤ a1_1
   ·rw [if_pos c29] at H
    have c29b0 := decide_eq_true c29
    clear c29
    by_cases c30 : a1_1 < (l0_0.length : Int)
    ·rw [if_pos c30] at H
     have c30b0 := decide_eq_true c30
     clear c30
     by_cases c31 : (rd l0_0 a1_1) = 0
     ·rw [if_pos c31] at H
      have c31b0 : ((rd l0_0 a1_1) == 0) = true := beq_iff_eq.mpr c31
      have c31b1 : ((rd l0_0 a1_1) != 0) = false := bne_eq_false_iff_eq.mpr c31
      clear c31
      simp only [Option.some.injEq, Prod.mk.injEq] at H
      obtain ⟨rfl, rfl⟩ := H
      go_enter Try.func117, Try.ntmps117
      try go_wp2_with (first | ((with_reducible refine gate_dst (N := 2) rfl ?_); refine bx (N := 2) (cs := #[.slice A0_0 l0_0.length c0_0, .int .i64 a0_1]) (t := 65) ?_; intro gb472 hg w32 hbox hb; have BK472 := Aside0.mk (hbox); have GW472 := Aside0.mk (ge_ hg HB); have GE472 := Aside0.mk (ge_ hg HB); replace HB := bs HB hb; clear hb hbox hg) | ((with_reducible refine gate_dst (N := 3) rfl ?_); refine bx (N := 3) (cs := #[.int .i64 a1_0, .int .i64 a1_1, .int .i64 a1_2]) (t := 68) ?_; intro gb473 hg w33 hbox hb; have BK473 := Aside0.mk (hbox); have GW473 := Aside0.mk (ge_ hg HB); have GE473 := Aside0.mk (ge_ hg HB); replace HB := bs HB hb; have NB472_473 := Aside0.mk (nl_ hg BK472); have NB473_472 := Aside0.mk (ng_ hg BK472); replace BK472 := bb BK472 hb; clear hb hbox hg) | ((with_reducible refine gate_dst (N := 8) rfl ?_); refine Kd.R_lit (Kd.int .i64) _ 3 ?hg (N := 8) ?hd (xs := ([] : List Int)) (inner := []) (ok := fun _ => True) (okp := fun _ => True) ?hr ?hp (fun _ hk => hk) trivial (Below.refl _ _) (Nat.le_refl _) (by simp) ?_; (case hd => rfl); (case hg => rfl); (case hr => first | (go_simp; done) | (go_simp; rfl)); (case hp => exact (Reps.none _ _)); intro v475 w34 ho35 hb hg_ hnew_; clear hg_ hnew_; (first | rw [← Ny474.out] at ho35 | (simp only [Int.reduceToNat] at ho35; rw [← Ny474.out] at ho35)); have HO476 := Aside0.mk (Kd.R_lower ho35 (below_size (tb HB))); replace BK472 := bb BK472 hb; replace BK473 := bb BK473 hb; replace HB := bs HB hb; clear hb ho35; have hnb36 := NB472_473.out; have hnc36 := NB473_472.out; obtain ⟨hcz37_0, hcz37_1, hfz37_0, hfz37_1⟩ := c2 BK472; obtain ⟨hcz38_0, hcz38_1, hcz38_2, hfz38_0, hfz38_1, hfz38_2⟩ := c3 BK473) | ((with_reducible refine gate_callee (f := 165) rfl ?_); refine gL 12 Try.func165 #[.agg #[.slice A0_0 l0_0.length c0_0, .int .i64 a0_1], .int .i64 a1_2] ?_; (with_reducible refine (spec_KeyOf.calls k _ _ l0_0 a0_1 a1_2 t477 _ ?side1 ?side2 A3.out).mono ?_); (case side1 => exact kc HR0_0 HB); (case side2 => exact HC0_0.out); rintro e w39 ⟨rfl, hb⟩; refine ⟨_, rfl, ?_⟩; replace HO476 := rb HO476 hb; replace BK472 := bb BK472 hb; replace BK473 := bb BK473 hb; replace HB := bs HB hb; (try clear hb); (try clear hb2); (try clear hk); (try clear hi); obtain ⟨hcz40_0, hcz40_1, hcz40_2, hfz40_0, hfz40_1, hfz40_2⟩ := c3 BK473))
      replace HO476 := rd_ HO476
      replace BK472 := bd BK472
      replace BK473 := bd BK473
      replace HB := Aside0.mk (below_drew1 HB.out)
      have p479 : 0 ≤ (a1_1 : Int) := od
      have q479 : a1_1 < (l0_0.length : Int) := od
      obtain ⟨ad479, e479, hx479_0⟩ := Kd.at_int HR0_0.out a1_1 p479 q479
      have hw479_0 := hx479_0
      cases e479
      replace hx479_0 := (HB.out.cell (World.block_lt_of_cell? w _ hx479_0)).trans hx479_0
      replace p479 := eq_true p479
      replace q479 := eq_true q479
      refine start_ (n := 20) (S := fun w' => w'.cell? ⟨gb472, 0, none⟩ = some (.slice (some ad479) l0_0.length c0_0) ∧ w'.cell? ⟨gb472, 1, none⟩ = some (.int .i64 a0_1) ∧ w'.cell? ⟨gb473, 0, none⟩ = some (.int .i64 a1_0) ∧ w'.cell? ⟨gb473, 1, none⟩ = some (.int .i64 a1_1) ∧ w'.cell? ⟨gb473, 2, none⟩ = some (.int .i64 a1_2) ∧ w'.cell? (ad479.add (a1_1).toNat) = some (.int .i64 (rd l0_0 a1_1))) (ds := []) #[false, false, false, false, false, false, false, false, false, false, false, false, false, false, false, false, false, false, false, false] (by kernel_rfl) rfl rfl ⟨cz BK472 0, cz BK472 1, cz BK473 0, cz BK473 1, cz BK473 2, ((HB.out.cell (World.block_lt_of_cell? w _ hw479_0)).trans hw479_0)⟩ (fun hHeld => ?_); refine with_tabW spec_l4Done.tab7 spec_l4Done.bits7 (fun HT_ HW_ => ?_)
      generalize w39.drew = w41 at HO476 BK472 BK473 HB hx479_0 hHeld ⊢
      refine pu 0 31 ?_
      refine pu 1 32 ?_
      refine pu 3 34 ?_
      refine ta 2 33 ?_
      refine ta 4 35 ?_
      refine pu 5 36 ?_
      refine ta 6 37 ?_
      refine pu 7 38 ?_
      refine pu 8 39 ?_
      refine pn 9 40 ?_
      refine pn 10 41 ?_
      refine pn 11 42 ?_
      refine pn 12 43 ?_
      refine pn 13 44 ?_
      refine pn 14 45 ?_
      refine pn 15 46 ?_
      refine pn 16 47 ?_
      refine pu 17 48 ?_
      refine pu 18 4 ?_
      refine pu 19 5 ?_
      refine done_ (done_of HT_.out (by kernel_rfl)) ?_
      try go_wp2
      go_ret2
      exact ⟨_, er, kr HO476.out, tb HB⟩
     ·rw [if_neg c31] at H
      have c31b0 : ((rd l0_0 a1_1) == 0) = false := beq_eq_false_iff_ne.mpr c31
      have c31b1 : ((rd l0_0 a1_1) != 0) = true := bne_iff_ne.mpr c31
      by_cases c42 : t477 < 0
      ·rw [if_pos c42] at H
       have c42b0 := decide_eq_true c42
       clear c42
       simp only [Option.some.injEq, Prod.mk.injEq] at H
       obtain ⟨rfl, rfl⟩ := H
       go_enter Try.func117, Try.ntmps117
       try go_wp2_with (first | ((with_reducible refine gate_dst (N := 2) rfl ?_); refine bx (N := 2) (cs := #[.slice A0_0 l0_0.length c0_0, .int .i64 a0_1]) (t := 65) ?_; intro gb472 hg w43 hbox hb; have BK472 := Aside0.mk (hbox); have GW472 := Aside0.mk (ge_ hg HB); have GE472 := Aside0.mk (ge_ hg HB); replace HB := bs HB hb; clear hb hbox hg) | ((with_reducible refine gate_dst (N := 3) rfl ?_); refine bx (N := 3) (cs := #[.int .i64 a1_0, .int .i64 a1_1, .int .i64 a1_2]) (t := 68) ?_; intro gb473 hg w44 hbox hb; have BK473 := Aside0.mk (hbox); have GW473 := Aside0.mk (ge_ hg HB); have GE473 := Aside0.mk (ge_ hg HB); replace HB := bs HB hb; have NB472_473 := Aside0.mk (nl_ hg BK472); have NB473_472 := Aside0.mk (ng_ hg BK472); replace BK472 := bb BK472 hb; clear hb hbox hg) | ((with_reducible refine gate_dst (N := 8) rfl ?_); refine Kd.R_lit (Kd.int .i64) _ 3 ?hg (N := 8) ?hd (xs := ([] : List Int)) (inner := []) (ok := fun _ => True) (okp := fun _ => True) ?hr ?hp (fun _ hk => hk) trivial (Below.refl _ _) (Nat.le_refl _) (by simp) ?_; (case hd => rfl); (case hg => rfl); (case hr => first | (go_simp; done) | (go_simp; rfl)); (case hp => exact (Reps.none _ _)); intro v475 w45 ho46 hb hg_ hnew_; clear hg_ hnew_; (first | rw [← Ny474.out] at ho46 | (simp only [Int.reduceToNat] at ho46; rw [← Ny474.out] at ho46)); have HO476 := Aside0.mk (Kd.R_lower ho46 (below_size (tb HB))); replace BK472 := bb BK472 hb; replace BK473 := bb BK473 hb; replace HB := bs HB hb; clear hb ho46; have hnb47 := NB472_473.out; have hnc47 := NB473_472.out; obtain ⟨hcz48_0, hcz48_1, hfz48_0, hfz48_1⟩ := c2 BK472; obtain ⟨hcz49_0, hcz49_1, hcz49_2, hfz49_0, hfz49_1, hfz49_2⟩ := c3 BK473) | ((with_reducible refine gate_callee (f := 165) rfl ?_); refine gL 12 Try.func165 #[.agg #[.slice A0_0 l0_0.length c0_0, .int .i64 a0_1], .int .i64 a1_2] ?_; (with_reducible refine (spec_KeyOf.calls k _ _ l0_0 a0_1 a1_2 t477 _ ?side1 ?side2 A3.out).mono ?_); (case side1 => exact kc HR0_0 HB); (case side2 => exact HC0_0.out); rintro e w50 ⟨rfl, hb⟩; refine ⟨_, rfl, ?_⟩; replace HO476 := rb HO476 hb; replace BK472 := bb BK472 hb; replace BK473 := bb BK473 hb; replace HB := bs HB hb; (try clear hb); (try clear hb2); (try clear hk); (try clear hi); obtain ⟨hcz51_0, hcz51_1, hcz51_2, hfz51_0, hfz51_1, hfz51_2⟩ := c3 BK473))
       replace HO476 := rd_ HO476
       replace BK472 := bd BK472
       replace BK473 := bd BK473
       replace HB := Aside0.mk (below_drew1 HB.out)
       have p479 : 0 ≤ (a1_1 : Int) := od
       have q479 : a1_1 < (l0_0.length : Int) := od
       obtain ⟨ad479, e479, hx479_0⟩ := Kd.at_int HR0_0.out a1_1 p479 q479
       have hw479_0 := hx479_0
       cases e479
       replace hx479_0 := (HB.out.cell (World.block_lt_of_cell? w _ hx479_0)).trans hx479_0
       replace p479 := eq_true p479
       replace q479 := eq_true q479
       refine start_ (n := 20) (S := fun w' => w'.cell? ⟨gb472, 0, none⟩ = some (.slice (some ad479) l0_0.length c0_0) ∧ w'.cell? ⟨gb472, 1, none⟩ = some (.int .i64 a0_1) ∧ w'.cell? ⟨gb473, 0, none⟩ = some (.int .i64 a1_0) ∧ w'.cell? ⟨gb473, 1, none⟩ = some (.int .i64 a1_1) ∧ w'.cell? ⟨gb473, 2, none⟩ = some (.int .i64 a1_2) ∧ w'.cell? (ad479.add (a1_1).toNat) = some (.int .i64 (rd l0_0 a1_1))) (ds := []) #[false, false, false, false, false, false, false, false, false, false, false, false, false, false, false, false, false, false, false, false] (by kernel_rfl) rfl rfl ⟨cz BK472 0, cz BK472 1, cz BK473 0, cz BK473 1, cz BK473 2, ((HB.out.cell (World.block_lt_of_cell? w _ hw479_0)).trans hw479_0)⟩ (fun hHeld => ?_); refine with_tabW spec_l4Done.tab7 spec_l4Done.bits7 (fun HT_ HW_ => ?_)
       generalize w50.drew = w52 at HO476 BK472 BK473 HB hx479_0 hHeld ⊢
       refine pu 0 31 ?_
       refine pu 1 32 ?_
       refine pu 3 34 ?_
       refine ta 2 33 ?_
       refine ta 4 35 ?_
       refine pu 5 36 ?_
       refine ta 6 37 ?_
       refine pu 7 38 ?_
       refine pu 8 39 ?_
       refine pu 9 40 ?_
       refine pu 10 41 ?_
       refine pu 11 42 ?_
       refine pn 12 43 ?_
       refine pn 13 44 ?_
       refine pn 14 45 ?_
       refine pn 15 46 ?_
       refine pu 16 47 ?_
       refine pu 17 48 ?_
       refine pu 18 4 ?_
       refine pu 19 5 ?_
       refine done_ (done_of HT_.out (by kernel_rfl)) ?_
       try go_wp2
       go_ret2
       exact ⟨_, er, kr HO476.out, tb HB⟩
      ·rw [if_neg c42] at H
       have c42b0 := decide_eq_false c42
       clear c42
       simp only [Option.some.injEq, Prod.mk.injEq] at H
       obtain ⟨rfl, rfl⟩ := H
       go_enter Try.func117, Try.ntmps117
       try go_wp2_with (first | ((with_reducible refine gate_dst (N := 2) rfl ?_); refine bx (N := 2) (cs := #[.slice A0_0 l0_0.length c0_0, .int .i64 a0_1]) (t := 65) ?_; intro gb472 hg w53 hbox hb; have BK472 := Aside0.mk (hbox); have GW472 := Aside0.mk (ge_ hg HB); have GE472 := Aside0.mk (ge_ hg HB); replace HB := bs HB hb; clear hb hbox hg) | ((with_reducible refine gate_dst (N := 3) rfl ?_); refine bx (N := 3) (cs := #[.int .i64 a1_0, .int .i64 a1_1, .int .i64 a1_2]) (t := 68) ?_; intro gb473 hg w54 hbox hb; have BK473 := Aside0.mk (hbox); have GW473 := Aside0.mk (ge_ hg HB); have GE473 := Aside0.mk (ge_ hg HB); replace HB := bs HB hb; have NB472_473 := Aside0.mk (nl_ hg BK472); have NB473_472 := Aside0.mk (ng_ hg BK472); replace BK472 := bb BK472 hb; clear hb hbox hg) | ((with_reducible refine gate_dst (N := 8) rfl ?_); refine Kd.R_lit (Kd.int .i64) _ 3 ?hg (N := 8) ?hd (xs := ([] : List Int)) (inner := []) (ok := fun _ => True) (okp := fun _ => True) ?hr ?hp (fun _ hk => hk) trivial (Below.refl _ _) (Nat.le_refl _) (by simp) ?_; (case hd => rfl); (case hg => rfl); (case hr => first | (go_simp; done) | (go_simp; rfl)); (case hp => exact (Reps.none _ _)); intro v475 w55 ho56 hb hg_ hnew_; clear hg_ hnew_; (first | rw [← Ny474.out] at ho56 | (simp only [Int.reduceToNat] at ho56; rw [← Ny474.out] at ho56)); have HO476 := Aside0.mk (Kd.R_lower ho56 (below_size (tb HB))); replace BK472 := bb BK472 hb; replace BK473 := bb BK473 hb; replace HB := bs HB hb; clear hb ho56; have hnb57 := NB472_473.out; have hnc57 := NB473_472.out; obtain ⟨hcz58_0, hcz58_1, hfz58_0, hfz58_1⟩ := c2 BK472; obtain ⟨hcz59_0, hcz59_1, hcz59_2, hfz59_0, hfz59_1, hfz59_2⟩ := c3 BK473) | ((with_reducible refine gate_callee (f := 165) rfl ?_); refine gL 12 Try.func165 #[.agg #[.slice A0_0 l0_0.length c0_0, .int .i64 a0_1], .int .i64 a1_2] ?_; (with_reducible refine (spec_KeyOf.calls k _ _ l0_0 a0_1 a1_2 t477 _ ?side1 ?side2 A3.out).mono ?_); (case side1 => exact kc HR0_0 HB); (case side2 => exact HC0_0.out); rintro e w60 ⟨rfl, hb⟩; refine ⟨_, rfl, ?_⟩; replace HO476 := rb HO476 hb; replace BK472 := bb BK472 hb; replace BK473 := bb BK473 hb; replace HB := bs HB hb; (try clear hb); (try clear hb2); (try clear hk); (try clear hi); obtain ⟨hcz61_0, hcz61_1, hcz61_2, hfz61_0, hfz61_1, hfz61_2⟩ := c3 BK473))
       replace HO476 := rd_ HO476
       replace BK472 := bd BK472
       replace BK473 := bd BK473
       replace HB := Aside0.mk (below_drew1 HB.out)
       have p479 : 0 ≤ (a1_1 : Int) := od
       have q479 : a1_1 < (l0_0.length : Int) := od
       obtain ⟨ad479, e479, hx479_0⟩ := Kd.at_int HR0_0.out a1_1 p479 q479
       have hw479_0 := hx479_0
       cases e479
       replace hx479_0 := (HB.out.cell (World.block_lt_of_cell? w _ hx479_0)).trans hx479_0
       replace p479 := eq_true p479
       replace q479 := eq_true q479
       refine start_ (n := 20) (S := fun w' => w'.cell? ⟨gb472, 0, none⟩ = some (.slice (some ad479) l0_0.length c0_0) ∧ w'.cell? ⟨gb472, 1, none⟩ = some (.int .i64 a0_1) ∧ w'.cell? ⟨gb473, 0, none⟩ = some (.int .i64 a1_0) ∧ w'.cell? ⟨gb473, 1, none⟩ = some (.int .i64 a1_1) ∧ w'.cell? ⟨gb473, 2, none⟩ = some (.int .i64 a1_2) ∧ w'.cell? (ad479.add (a1_1).toNat) = some (.int .i64 (rd l0_0 a1_1))) (ds := []) #[false, false, false, false, false, false, false, false, false, false, false, false, false, false, false, false, false, false, false, false] (by kernel_rfl) rfl rfl ⟨cz BK472 0, cz BK472 1, cz BK473 0, cz BK473 1, cz BK473 2, ((HB.out.cell (World.block_lt_of_cell? w _ hw479_0)).trans hw479_0)⟩ (fun hHeld => ?_); refine with_tabW spec_l4Done.tab7 spec_l4Done.bits7 (fun HT_ HW_ => ?_)
       generalize w60.drew = w62 at HO476 BK472 BK473 HB hx479_0 hHeld ⊢
       refine pu 0 31 ?_
       refine pu 1 32 ?_
       refine pu 3 34 ?_
       refine ta 2 33 ?_
       refine ta 4 35 ?_
       refine pu 5 36 ?_
       refine ta 6 37 ?_
       refine pu 7 38 ?_
       refine pu 8 39 ?_
       refine pu 9 40 ?_
       refine pu 10 41 ?_
       refine pu 11 42 ?_
       refine pu 12 43 ?_
       refine pu 13 44 ?_
       refine pu 18 4 ?_
       refine ta 14 45 ?_
       refine pu 15 46 ?_
       refine pu 16 47 ?_
       refine pu 17 48 ?_
       refine pu 19 5 ?_
       refine done_ (done_of HT_.out (by kernel_rfl)) ?_
       try go_wp2
       go_ret2
       exact ⟨_, er, kr HO476.out, tb HB⟩
    ·rw [if_neg c30] at H
     exact absurd H (by simp)
   ·rw [if_neg c29] at H
    exact absurd H (by simp)
  ·rw [if_neg c28] at H
   have c28b0 : (a1_0 == 2) = false := beq_eq_false_iff_ne.mpr c28
   have c28b1 : (a1_0 != 2) = true := bne_iff_ne.mpr c28
   by_cases c63 : a1_0 = 3
   ·rw [if_pos c63] at H
    have c63b0 : (a1_0 == 3) = true := beq_iff_eq.mpr c63
    have c63b1 : (a1_0 != 3) = false := bne_eq_false_iff_eq.mpr c63
    clear c63
    by_cases c64 : 0 ≤ a1_1
    ·rw [if_pos c64] at H
     have c64b0 := decide_eq_true c64
     clear c64
     by_cases c65 : a1_1 < (l0_0.length : Int)
     ·rw [if_pos c65] at H
      have c65b0 := decide_eq_true c65
      clear c65
      simp only [Option.some.injEq, Prod.mk.injEq] at H
      obtain ⟨rfl, rfl⟩ := H
      go_enter Try.func117, Try.ntmps117
      try go_wp2_with (first | ((with_reducible refine gate_dst (N := 2) rfl ?_); refine bx (N := 2) (cs := #[.slice A0_0 l0_0.length c0_0, .int .i64 a0_1]) (t := 65) ?_; intro gb472 hg w66 hbox hb; have BK472 := Aside0.mk (hbox); have GW472 := Aside0.mk (ge_ hg HB); have GE472 := Aside0.mk (ge_ hg HB); replace HB := bs HB hb; clear hb hbox hg) | ((with_reducible refine gate_dst (N := 3) rfl ?_); refine bx (N := 3) (cs := #[.int .i64 a1_0, .int .i64 a1_1, .int .i64 a1_2]) (t := 68) ?_; intro gb473 hg w67 hbox hb; have BK473 := Aside0.mk (hbox); have GW473 := Aside0.mk (ge_ hg HB); have GE473 := Aside0.mk (ge_ hg HB); replace HB := bs HB hb; have NB472_473 := Aside0.mk (nl_ hg BK472); have NB473_472 := Aside0.mk (ng_ hg BK472); replace BK472 := bb BK472 hb; clear hb hbox hg) | ((with_reducible refine gate_dst (N := 8) rfl ?_); refine Kd.R_lit (Kd.int .i64) _ 3 ?hg (N := 8) ?hd (xs := ([] : List Int)) (inner := []) (ok := fun _ => True) (okp := fun _ => True) ?hr ?hp (fun _ hk => hk) trivial (Below.refl _ _) (Nat.le_refl _) (by simp) ?_; (case hd => rfl); (case hg => rfl); (case hr => first | (go_simp; done) | (go_simp; rfl)); (case hp => exact (Reps.none _ _)); intro v475 w68 ho69 hb hg_ hnew_; clear hg_ hnew_; (first | rw [← Ny474.out] at ho69 | (simp only [Int.reduceToNat] at ho69; rw [← Ny474.out] at ho69)); have HO476 := Aside0.mk (Kd.R_lower ho69 (below_size (tb HB))); replace BK472 := bb BK472 hb; replace BK473 := bb BK473 hb; replace HB := bs HB hb; clear hb ho69; have hnb70 := NB472_473.out; have hnc70 := NB473_472.out; obtain ⟨hcz71_0, hcz71_1, hfz71_0, hfz71_1⟩ := c2 BK472; obtain ⟨hcz72_0, hcz72_1, hcz72_2, hfz72_0, hfz72_1, hfz72_2⟩ := c3 BK473) | ((with_reducible refine gate_callee (f := 165) rfl ?_); refine gL 12 Try.func165 #[.agg #[.slice A0_0 l0_0.length c0_0, .int .i64 a0_1], .int .i64 a1_2] ?_; (with_reducible refine (spec_KeyOf.calls k _ _ l0_0 a0_1 a1_2 t477 _ ?side1 ?side2 A3.out).mono ?_); (case side1 => exact kc HR0_0 HB); (case side2 => exact HC0_0.out); rintro e w73 ⟨rfl, hb⟩; refine ⟨_, rfl, ?_⟩; replace HO476 := rb HO476 hb; replace BK472 := bb BK472 hb; replace BK473 := bb BK473 hb; replace HB := bs HB hb; (try clear hb); (try clear hb2); (try clear hk); (try clear hi); obtain ⟨hcz74_0, hcz74_1, hcz74_2, hfz74_0, hfz74_1, hfz74_2⟩ := c3 BK473))
      replace HO476 := rd_ HO476
      replace BK472 := bd BK472
      replace BK473 := bd BK473
      replace HB := Aside0.mk (below_drew1 HB.out)
      have p480 : 0 ≤ (a1_1 : Int) := od
      have q480 : a1_1 < (l0_0.length : Int) := od
      obtain ⟨ad480, e480, hx480_0⟩ := Kd.at_int HR0_0.out a1_1 p480 q480
      have hw480_0 := hx480_0
      cases e480
      replace hx480_0 := (HB.out.cell (World.block_lt_of_cell? w _ hx480_0)).trans hx480_0
      replace p480 := eq_true p480
      replace q480 := eq_true q480
      refine start_ (n := 10) (S := fun w' => w'.cell? ⟨gb472, 0, none⟩ = some (.slice (some ad480) l0_0.length c0_0) ∧ w'.cell? ⟨gb472, 1, none⟩ = some (.int .i64 a0_1) ∧ w'.cell? ⟨gb473, 0, none⟩ = some (.int .i64 a1_0) ∧ w'.cell? ⟨gb473, 1, none⟩ = some (.int .i64 a1_1) ∧ w'.cell? ⟨gb473, 2, none⟩ = some (.int .i64 a1_2) ∧ w'.cell? (ad480.add (a1_1).toNat) = some (.int .i64 (rd l0_0 a1_1))) (ds := []) #[false, false, false, false, false, false, false, false, false, false] (by kernel_rfl) rfl rfl ⟨cz BK472 0, cz BK472 1, cz BK473 0, cz BK473 1, cz BK473 2, ((HB.out.cell (World.block_lt_of_cell? w _ hw480_0)).trans hw480_0)⟩ (fun hHeld => ?_); refine with_tabW spec_l4Done.tab9 spec_l4Done.bits9 (fun HT_ HW_ => ?_)
      generalize w73.drew = w75 at HO476 BK472 BK473 HB hx480_0 hHeld ⊢
      refine pu 0 51 ?_
      refine pu 1 52 ?_
      refine pu 3 54 ?_
      refine pu 8 4 ?_
      refine ta 2 53 ?_
      refine ta 4 55 ?_
      refine pu 5 56 ?_
      refine ta 6 57 ?_
      refine pu 7 58 ?_
      refine pu 9 5 ?_
      refine done_ (done_of HT_.out (by kernel_rfl)) ?_
      try go_wp2
      go_ret2
      exact ⟨_, er, kr HO476.out, tb HB⟩
     ·rw [if_neg c65] at H
      exact absurd H (by simp)
    ·rw [if_neg c64] at H
     exact absurd H (by simp)
   ·rw [if_neg c63] at H
    have c63b0 : (a1_0 == 3) = false := beq_eq_false_iff_ne.mpr c63
    have c63b1 : (a1_0 != 3) = true := bne_iff_ne.mpr c63
    by_cases c76 : a1_0 = 4
    ·rw [if_pos c76] at H
     have c76b0 : (a1_0 == 4) = true := beq_iff_eq.mpr c76
     have c76b1 : (a1_0 != 4) = false := bne_eq_false_iff_eq.mpr c76
     clear c76
     by_cases c77 : 0 ≤ a1_1
     ·rw [if_pos c77] at H
      have c77b0 := decide_eq_true c77
      clear c77
      by_cases c78 : a1_1 < (l0_0.length : Int)
      ·rw [if_pos c78] at H
       have c78b0 := decide_eq_true c78
       clear c78
       obtain ⟨y482, hy482⟩ : ∃ y_ : List Int, y_ = (([rd l0_0 a1_1] : List Int)) := ⟨_, rfl⟩
       replace H : (some (y482, ((rd l0_0 a1_1) != 0))) = some (r1, r2) := by first | (rw [hy482]; with_reducible exact H) | (have H2_ := (Option.bind_some _ _).symm.trans H; rw [hy482]; with_reducible exact H2_) | (have H2_ := (Option.bind_some _ _).symm.trans H; with_reducible exact H2_) | with_reducible exact H | (rw [hy482]; exact H) | exact H
       have Ny482 := Aside0.mk hy482
       clear hy482
       simp only [Option.some.injEq, Prod.mk.injEq] at H
       obtain ⟨rfl, rfl⟩ := H
       go_enter Try.func117, Try.ntmps117
       try go_wp2_with (first | ((with_reducible refine gate_dst (N := 2) rfl ?_); refine bx (N := 2) (cs := #[.slice A0_0 l0_0.length c0_0, .int .i64 a0_1]) (t := 65) ?_; intro gb472 hg w79 hbox hb; have BK472 := Aside0.mk (hbox); have GW472 := Aside0.mk (ge_ hg HB); have GE472 := Aside0.mk (ge_ hg HB); replace HB := bs HB hb; clear hb hbox hg) | ((with_reducible refine gate_dst (N := 3) rfl ?_); refine bx (N := 3) (cs := #[.int .i64 a1_0, .int .i64 a1_1, .int .i64 a1_2]) (t := 68) ?_; intro gb473 hg w80 hbox hb; have BK473 := Aside0.mk (hbox); have GW473 := Aside0.mk (ge_ hg HB); have GE473 := Aside0.mk (ge_ hg HB); replace HB := bs HB hb; have NB472_473 := Aside0.mk (nl_ hg BK472); have NB473_472 := Aside0.mk (ng_ hg BK472); replace BK472 := bb BK472 hb; clear hb hbox hg) | ((with_reducible refine gate_dst (N := 8) rfl ?_); refine Kd.R_lit (Kd.int .i64) _ 3 ?hg (N := 8) ?hd (xs := ([] : List Int)) (inner := []) (ok := fun _ => True) (okp := fun _ => True) ?hr ?hp (fun _ hk => hk) trivial (Below.refl _ _) (Nat.le_refl _) (by simp) ?_; (case hd => rfl); (case hg => rfl); (case hr => first | (go_simp; done) | (go_simp; rfl)); (case hp => exact (Reps.none _ _)); intro v475 w81 ho82 hb hg_ hnew_; clear hg_ hnew_; (first | rw [← Ny474.out] at ho82 | (simp only [Int.reduceToNat] at ho82; rw [← Ny474.out] at ho82)); have HO476 := Aside0.mk (Kd.R_lower ho82 (below_size (tb HB))); replace BK472 := bb BK472 hb; replace BK473 := bb BK473 hb; replace HB := bs HB hb; clear hb ho82; have hnb83 := NB472_473.out; have hnc83 := NB473_472.out; obtain ⟨hcz84_0, hcz84_1, hfz84_0, hfz84_1⟩ := c2 BK472; obtain ⟨hcz85_0, hcz85_1, hcz85_2, hfz85_0, hfz85_1, hfz85_2⟩ := c3 BK473) | ((with_reducible refine gate_callee (f := 165) rfl ?_); refine gL 12 Try.func165 #[.agg #[.slice A0_0 l0_0.length c0_0, .int .i64 a0_1], .int .i64 a1_2] ?_; (with_reducible refine (spec_KeyOf.calls k _ _ l0_0 a0_1 a1_2 t477 _ ?side1 ?side2 A3.out).mono ?_); (case side1 => exact kc HR0_0 HB); (case side2 => exact HC0_0.out); rintro e w86 ⟨rfl, hb⟩; refine ⟨_, rfl, ?_⟩; replace HO476 := rb HO476 hb; replace BK472 := bb BK472 hb; replace BK473 := bb BK473 hb; replace HB := bs HB hb; (try clear hb); (try clear hb2); (try clear hk); (try clear hi); obtain ⟨hcz87_0, hcz87_1, hcz87_2, hfz87_0, hfz87_1, hfz87_2⟩ := c3 BK473))
       replace HO476 := rd_ HO476
       replace BK472 := bd BK472
       replace BK473 := bd BK473
       replace HB := Aside0.mk (below_drew1 HB.out)
       have p481 : 0 ≤ (a1_1 : Int) := od
       have q481 : a1_1 < (l0_0.length : Int) := od
       obtain ⟨ad481, e481, hx481_0⟩ := Kd.at_int HR0_0.out a1_1 p481 q481
       have hw481_0 := hx481_0
       cases e481
       replace hx481_0 := (HB.out.cell (World.block_lt_of_cell? w _ hx481_0)).trans hx481_0
       replace p481 := eq_true p481
       replace q481 := eq_true q481
       have p485 : 0 ≤ (a1_1 : Int) := od
       have q485 : a1_1 < (l0_0.length : Int) := od
       obtain ⟨ad485, e485, hx485_0⟩ := Kd.at_int HR0_0.out a1_1 p485 q485
       have hw485_0 := hx485_0
       obtain rfl : ad481 = ad485 := (by injection e485)
       replace hx485_0 := (HB.out.cell (World.block_lt_of_cell? w _ hx485_0)).trans hx485_0
       replace p485 := eq_true p485
       replace q485 := eq_true q485
       refine start_ (n := 16) (S := fun w' => w'.cell? ⟨gb472, 0, none⟩ = some (.slice (some ad481) l0_0.length c0_0) ∧ w'.cell? ⟨gb472, 1, none⟩ = some (.int .i64 a0_1) ∧ w'.cell? ⟨gb473, 0, none⟩ = some (.int .i64 a1_0) ∧ w'.cell? ⟨gb473, 1, none⟩ = some (.int .i64 a1_1) ∧ w'.cell? ⟨gb473, 2, none⟩ = some (.int .i64 a1_2) ∧ w'.cell? (ad481.add (a1_1).toNat) = some (.int .i64 (rd l0_0 a1_1)) ∧ w'.cell? (ad481.add (a1_1).toNat) = some (.int .i64 (rd l0_0 a1_1))) (ds := []) #[false, false, false, false, false, false, false, false, false, false, false, false, false, false, false, false] (by kernel_rfl) rfl rfl ⟨cz BK472 0, cz BK472 1, cz BK473 0, cz BK473 1, cz BK473 2, ((HB.out.cell (World.block_lt_of_cell? w _ hw481_0)).trans hw481_0), ((HB.out.cell (World.block_lt_of_cell? w _ hw485_0)).trans hw485_0)⟩ (fun hHeld => ?_); refine with_tabW spec_l4Done.tab11 spec_l4Done.bits11 (fun HT_ HW_ => ?_)
       generalize w86.drew = w88 at HO476 BK472 BK473 HB hx481_0 hx485_0 hHeld ⊢
       refine pu 0 61 ?_
       refine pu 2 63 ?_
       refine pu 7 68 ?_
       refine pu 9 70 ?_
       refine ta 1 62 ?_
       refine ta 3 64 ?_
       refine pu 4 65 ?_
       refine ta 5 66 ?_
       refine ta 8 69 ?_
       refine ta 10 71 ?_
       refine pu 11 72 ?_
       refine ta 12 73 ?_
       refine pu 13 74 ?_
       refine one_ (i := 6) (N := some 67) #[true, true, true, true, true, true, true, true, true, true, true, true, true, true, false, false] rfl rfl (one_of HT_.out (by kernel_rfl)) (by decide) (fun K hK => ?_)
       refine Kd.R_lit_step (Kd.int .i64) _ 3 ?hg (N := 67) ?hd (xs := ([rd l0_0 a1_1] : List Int)) (inner := [.int .i64 (rd l0_0 a1_1)]) (ok := fun _ => True) (okp := fun _ => True) ?hr ?hp (fun _ hk => hk) trivial (Below.refl _ _) (Nat.le_refl _) (by simp) ?_; (case hd => rfl); (case hg => rfl); (case hr => first | (go_simp; done) | (go_simp; rfl)); (case hp => exact (Reps.one (show Kd.M (Kd.int .i64) _ _ _ (rd l0_0 a1_1) [.int .i64 (rd l0_0 a1_1)] from rfl) (Reps.none _ _)))
       intro v483 w89 ho90 hb hg_ hnew_
       clear hg_ hnew_
       (first | rw [← Ny482.out] at ho90 | (simp only [Int.reduceToNat] at ho90; rw [← Ny482.out] at ho90))
       have HO484 := Aside0.mk (Kd.R_lower (Kd.R_new' ho90 (Kd.R_lt (kr HO476.out))) (below_size (tb HB)))
       replace HO476 := Aside0.mk (Kd.R_elder' (kr HO476.out) (Kd.R_base ho90) hb)
       replace BK472 := bb BK472 hb
       replace BK473 := bb BK473 hb
       replace HB := bs HB hb
       clear hb ho90
       refine hK.out _ _ ⟨cz BK472 0, cz BK472 1, cz BK473 0, cz BK473 1, cz BK473 2, ((HB.out.cell (World.block_lt_of_cell? w _ hw481_0)).trans hw481_0), ((HB.out.cell (World.block_lt_of_cell? w _ hw485_0)).trans hw485_0)⟩ (fun hHeld => ?_)
       clear hK K
       refine nm 67 ?_
       refine pu 14 4 ?_
       refine pu 15 5 ?_
       refine done_ (done_of HT_.out (by kernel_rfl)) ?_
       try go_wp2
       go_ret2
       exact ⟨_, er, by (with_reducible repeat (first | apply Kd.R_alloc | apply Kd.R_drewN | apply Kd.R_drew)); exact Kd.R_mono HO484.out (fun _ hk => trivial), tb HB⟩
      ·rw [if_neg c78] at H
       exact absurd H (by simp)
     ·rw [if_neg c77] at H
      exact absurd H (by simp)
    ·rw [if_neg c76] at H
     have c76b0 : (a1_0 == 4) = false := beq_eq_false_iff_ne.mpr c76
     have c76b1 : (a1_0 != 4) = true := bne_iff_ne.mpr c76
     by_cases c91 : a1_0 = 5
     ·rw [if_pos c91] at H
      have c91b0 : (a1_0 == 5) = true := beq_iff_eq.mpr c91
      have c91b1 : (a1_0 != 5) = false := bne_eq_false_iff_eq.mpr c91
      clear c91
      obtain ⟨y486, hy486⟩ : ∃ y_ : List Int, y_ = (([t477] : List Int)) := ⟨_, rfl⟩
      replace H : (some (y486, decide (t477 ≥ 0))) = some (r1, r2) := by first | (rw [hy486]; with_reducible exact H) | (have H2_ := (Option.bind_some _ _).symm.trans H; rw [hy486]; with_reducible exact H2_) | (have H2_ := (Option.bind_some _ _).symm.trans H; with_reducible exact H2_) | with_reducible exact H | (rw [hy486]; exact H) | exact H
      have Ny486 := Aside0.mk hy486
      clear hy486
      simp only [Option.some.injEq, Prod.mk.injEq] at H
      obtain ⟨rfl, rfl⟩ := H
      go_enter Try.func117, Try.ntmps117
      go_wp2_with (first | ((with_reducible refine gate_dst (N := 2) rfl ?_); refine bx (N := 2) (cs := #[.slice A0_0 l0_0.length c0_0, .int .i64 a0_1]) (t := 65) ?_; intro gb472 hg w92 hbox hb; have BK472 := Aside0.mk (hbox); have GW472 := Aside0.mk (ge_ hg HB); have GE472 := Aside0.mk (ge_ hg HB); replace HB := bs HB hb; clear hb hbox hg) | ((with_reducible refine gate_dst (N := 3) rfl ?_); refine bx (N := 3) (cs := #[.int .i64 a1_0, .int .i64 a1_1, .int .i64 a1_2]) (t := 68) ?_; intro gb473 hg w93 hbox hb; have BK473 := Aside0.mk (hbox); have GW473 := Aside0.mk (ge_ hg HB); have GE473 := Aside0.mk (ge_ hg HB); replace HB := bs HB hb; have NB472_473 := Aside0.mk (nl_ hg BK472); have NB473_472 := Aside0.mk (ng_ hg BK472); replace BK472 := bb BK472 hb; clear hb hbox hg) | ((with_reducible refine gate_dst (N := 8) rfl ?_); refine Kd.R_lit (Kd.int .i64) _ 3 ?hg (N := 8) ?hd (xs := ([] : List Int)) (inner := []) (ok := fun _ => True) (okp := fun _ => True) ?hr ?hp (fun _ hk => hk) trivial (Below.refl _ _) (Nat.le_refl _) (by simp) ?_; (case hd => rfl); (case hg => rfl); (case hr => first | (go_simp; done) | (go_simp; rfl)); (case hp => exact (Reps.none _ _)); intro v475 w94 ho95 hb hg_ hnew_; clear hg_ hnew_; (first | rw [← Ny474.out] at ho95 | (simp only [Int.reduceToNat] at ho95; rw [← Ny474.out] at ho95)); have HO476 := Aside0.mk (Kd.R_lower ho95 (below_size (tb HB))); replace BK472 := bb BK472 hb; replace BK473 := bb BK473 hb; replace HB := bs HB hb; clear hb ho95; have hnb96 := NB472_473.out; have hnc96 := NB473_472.out; obtain ⟨hcz97_0, hcz97_1, hfz97_0, hfz97_1⟩ := c2 BK472; obtain ⟨hcz98_0, hcz98_1, hcz98_2, hfz98_0, hfz98_1, hfz98_2⟩ := c3 BK473) | ((with_reducible refine gate_callee (f := 165) rfl ?_); refine gL 12 Try.func165 #[.agg #[.slice A0_0 l0_0.length c0_0, .int .i64 a0_1], .int .i64 a1_2] ?_; (with_reducible refine (spec_KeyOf.calls k _ _ l0_0 a0_1 a1_2 t477 _ ?side1 ?side2 A3.out).mono ?_); (case side1 => exact kc HR0_0 HB); (case side2 => exact HC0_0.out); rintro e w99 ⟨rfl, hb⟩; refine ⟨_, rfl, ?_⟩; replace HO476 := rb HO476 hb; replace BK472 := bb BK472 hb; replace BK473 := bb BK473 hb; replace HB := bs HB hb; (try clear hb); (try clear hb2); (try clear hk); (try clear hi); obtain ⟨hcz100_0, hcz100_1, hcz100_2, hfz100_0, hfz100_1, hfz100_2⟩ := c3 BK473) | ((with_reducible refine gate_dst (N := 78) rfl ?_); refine Kd.R_lit (Kd.int .i64) _ 3 ?hg (N := 78) ?hd (xs := ([t477] : List Int)) (inner := [.int .i64 t477]) (ok := fun _ => True) (okp := fun _ => True) ?hr ?hp (fun _ hk => hk) trivial (Below.refl _ _) (Nat.le_refl _) (by simp) ?_; (case hd => rfl); (case hg => rfl); (case hr => first | (go_simp; done) | (go_simp; rfl)); (case hp => exact (Reps.one (show Kd.M (Kd.int .i64) _ _ _ t477 [.int .i64 t477] from rfl) (Reps.none _ _))); intro v487 w101 ho102 hb hg_ hnew_; clear hg_ hnew_; (first | rw [← Ny486.out] at ho102 | (simp only [Int.reduceToNat] at ho102; rw [← Ny486.out] at ho102)); have HO488 := Aside0.mk (Kd.R_lower (Kd.R_new' ho102 (Kd.R_lt (kr HO476.out))) (below_size (tb HB))); replace HO476 := Aside0.mk (Kd.R_elder' (kr HO476.out) (Kd.R_base ho102) hb); replace BK472 := bb BK472 hb; replace BK473 := bb BK473 hb; replace HB := bs HB hb; clear hb ho102))
      go_ret2
      exact ⟨_, er, by (with_reducible repeat (first | apply Kd.R_alloc | apply Kd.R_drewN | apply Kd.R_drew)); exact Kd.R_mono HO488.out (fun _ hk => trivial), tb HB⟩
     ·rw [if_neg c91] at H
      have c91b0 : (a1_0 == 5) = false := beq_eq_false_iff_ne.mpr c91
      have c91b1 : (a1_0 != 5) = true := bne_iff_ne.mpr c91
      by_cases c103 : a1_0 = 6
      ·rw [if_pos c103] at H
       have c103b0 : (a1_0 == 6) = true := beq_iff_eq.mpr c103
       have c103b1 : (a1_0 != 6) = false := bne_eq_false_iff_eq.mpr c103
       clear c103
       replace H := Option.bind_eq_some_iff.mp H
       obtain ⟨t489, A1040, H⟩ := H
       replace H : (some ((([t489] : List Int)), true)) = some (r1, r2) := H
       have A104 := Aside0.mk A1040
       clear A1040
       obtain ⟨y490, hy490⟩ : ∃ y_ : List Int, y_ = (([t489] : List Int)) := ⟨_, rfl⟩
       replace H : (some (y490, true)) = some (r1, r2) := by first | (rw [hy490]; with_reducible exact H) | (have H2_ := (Option.bind_some _ _).symm.trans H; rw [hy490]; with_reducible exact H2_) | (have H2_ := (Option.bind_some _ _).symm.trans H; with_reducible exact H2_) | with_reducible exact H | (rw [hy490]; exact H) | exact H
       have Ny490 := Aside0.mk hy490
       clear hy490
       simp only [Option.some.injEq, Prod.mk.injEq] at H
       obtain ⟨rfl, rfl⟩ := H
       go_enter Try.func117, Try.ntmps117
       go_wp2_with (first | ((with_reducible refine gate_dst (N := 2) rfl ?_); refine bx (N := 2) (cs := #[.slice A0_0 l0_0.length c0_0, .int .i64 a0_1]) (t := 65) ?_; intro gb472 hg w105 hbox hb; have BK472 := Aside0.mk (hbox); have GW472 := Aside0.mk (ge_ hg HB); have GE472 := Aside0.mk (ge_ hg HB); replace HB := bs HB hb; clear hb hbox hg) | ((with_reducible refine gate_dst (N := 3) rfl ?_); refine bx (N := 3) (cs := #[.int .i64 a1_0, .int .i64 a1_1, .int .i64 a1_2]) (t := 68) ?_; intro gb473 hg w106 hbox hb; have BK473 := Aside0.mk (hbox); have GW473 := Aside0.mk (ge_ hg HB); have GE473 := Aside0.mk (ge_ hg HB); replace HB := bs HB hb; have NB472_473 := Aside0.mk (nl_ hg BK472); have NB473_472 := Aside0.mk (ng_ hg BK472); replace BK472 := bb BK472 hb; clear hb hbox hg) | ((with_reducible refine gate_dst (N := 8) rfl ?_); refine Kd.R_lit (Kd.int .i64) _ 3 ?hg (N := 8) ?hd (xs := ([] : List Int)) (inner := []) (ok := fun _ => True) (okp := fun _ => True) ?hr ?hp (fun _ hk => hk) trivial (Below.refl _ _) (Nat.le_refl _) (by simp) ?_; (case hd => rfl); (case hg => rfl); (case hr => first | (go_simp; done) | (go_simp; rfl)); (case hp => exact (Reps.none _ _)); intro v475 w107 ho108 hb hg_ hnew_; clear hg_ hnew_; (first | rw [← Ny474.out] at ho108 | (simp only [Int.reduceToNat] at ho108; rw [← Ny474.out] at ho108)); have HO476 := Aside0.mk (Kd.R_lower ho108 (below_size (tb HB))); replace BK472 := bb BK472 hb; replace BK473 := bb BK473 hb; replace HB := bs HB hb; clear hb ho108; have hnb109 := NB472_473.out; have hnc109 := NB473_472.out; obtain ⟨hcz110_0, hcz110_1, hfz110_0, hfz110_1⟩ := c2 BK472; obtain ⟨hcz111_0, hcz111_1, hcz111_2, hfz111_0, hfz111_1, hfz111_2⟩ := c3 BK473) | ((with_reducible refine gate_callee (f := 165) rfl ?_); refine gL 12 Try.func165 #[.agg #[.slice A0_0 l0_0.length c0_0, .int .i64 a0_1], .int .i64 a1_2] ?_; (with_reducible refine (spec_KeyOf.calls k _ _ l0_0 a0_1 a1_2 t477 _ ?side1 ?side2 A3.out).mono ?_); (case side1 => exact kc HR0_0 HB); (case side2 => exact HC0_0.out); rintro e w112 ⟨rfl, hb⟩; refine ⟨_, rfl, ?_⟩; replace HO476 := rb HO476 hb; replace BK472 := bb BK472 hb; replace BK473 := bb BK473 hb; replace HB := bs HB hb; (try clear hb); (try clear hb2); (try clear hk); (try clear hi); obtain ⟨hcz113_0, hcz113_1, hcz113_2, hfz113_0, hfz113_1, hfz113_2⟩ := c3 BK473; obtain ⟨hcz114_0, hcz114_1, hfz114_0, hfz114_1⟩ := c2 BK472) | ((with_reducible refine gate_callee (f := 166) rfl ?_); refine gL 86 Try.func166 #[.agg #[.slice A0_0 l0_0.length c0_0, .int .i64 a0_1], .int .i64 a1_1] ?_; (with_reducible refine (spec_HowMany.calls k _ _ l0_0 a0_1 a1_1 t489 _ ?side1 ?side2 A104.out).mono ?_); (case side1 => exact kc HR0_0 HB); (case side2 => exact HC0_0.out); rintro e w115 ⟨rfl, hb⟩; refine ⟨_, rfl, ?_⟩; replace HO476 := rb HO476 hb; replace BK472 := bb BK472 hb; replace BK473 := bb BK473 hb; replace HB := bs HB hb; (try clear hb); (try clear hb2); (try clear hk); (try clear hi)) | ((with_reducible refine gate_dst (N := 87) rfl ?_); refine Kd.R_lit (Kd.int .i64) _ 3 ?hg (N := 87) ?hd (xs := ([t489] : List Int)) (inner := [.int .i64 t489]) (ok := fun _ => True) (okp := fun _ => True) ?hr ?hp (fun _ hk => hk) trivial (Below.refl _ _) (Nat.le_refl _) (by simp) ?_; (case hd => rfl); (case hg => rfl); (case hr => first | (go_simp; done) | (go_simp; rfl)); (case hp => exact (Reps.one (show Kd.M (Kd.int .i64) _ _ _ t489 [.int .i64 t489] from rfl) (Reps.none _ _))); intro v491 w116 ho117 hb hg_ hnew_; clear hg_ hnew_; (first | rw [← Ny490.out] at ho117 | (simp only [Int.reduceToNat] at ho117; rw [← Ny490.out] at ho117)); have HO492 := Aside0.mk (Kd.R_lower (Kd.R_new' ho117 (Kd.R_lt (kr HO476.out))) (below_size (tb HB))); replace HO476 := Aside0.mk (Kd.R_elder' (kr HO476.out) (Kd.R_base ho117) hb); replace BK472 := bb BK472 hb; replace BK473 := bb BK473 hb; replace HB := bs HB hb; clear hb ho117))
       go_ret2
       exact ⟨_, er, by (with_reducible repeat (first | apply Kd.R_alloc | apply Kd.R_drewN | apply Kd.R_drew)); exact Kd.R_mono HO492.out (fun _ hk => trivial), tb HB⟩
      ·rw [if_neg c103] at H
       have c103b0 : (a1_0 == 6) = false := beq_eq_false_iff_ne.mpr c103
       have c103b1 : (a1_0 != 6) = true := bne_iff_ne.mpr c103
       by_cases c118 : a1_0 = 7
       ·rw [if_pos c118] at H
        have c118b0 : (a1_0 == 7) = true := beq_iff_eq.mpr c118
        have c118b1 : (a1_0 != 7) = false := bne_eq_false_iff_eq.mpr c118
        clear c118
        obtain ⟨y493, hy493⟩ : ∃ y_ : List Int, y_ = (([] : List Int)) := ⟨_, rfl⟩
        replace H : (if y493.length + l0_0.length < 17592186044416 then (some ((y493 ++ l0_0), true)) else (none)) = some (r1, r2) := by first | (rw [hy493]; with_reducible exact H) | (have H2_ := (Option.bind_some _ _).symm.trans H; rw [hy493]; with_reducible exact H2_) | (have H2_ := (Option.bind_some _ _).symm.trans H; with_reducible exact H2_) | with_reducible exact H | (rw [hy493]; exact H) | exact H
        have Ny493 := Aside0.mk hy493
        clear hy493
        by_cases c119 : y493.length + l0_0.length < 17592186044416
        ·rw [if_pos c119] at H
         have LMc119 := Aside0.mk c119
         clear c119
         obtain ⟨y496, hy496⟩ : ∃ y_ : List Int, y_ = (y493 ++ l0_0) := ⟨_, rfl⟩
         replace H : (some (y496, true)) = some (r1, r2) := by first | (rw [hy496]; with_reducible exact H) | (have H2_ := (Option.bind_some _ _).symm.trans H; rw [hy496]; with_reducible exact H2_) | (have H2_ := (Option.bind_some _ _).symm.trans H; with_reducible exact H2_) | with_reducible exact H | (rw [hy496]; exact H) | exact H
         have Ny496 := Aside0.mk hy496
         clear hy496
         simp only [Option.some.injEq, Prod.mk.injEq] at H
         obtain ⟨rfl, rfl⟩ := H
         go_enter Try.func117, Try.ntmps117
         go_wp2_with (first | ((with_reducible refine gate_dst (N := 2) rfl ?_); refine bx (N := 2) (cs := #[.slice A0_0 l0_0.length c0_0, .int .i64 a0_1]) (t := 65) ?_; intro gb472 hg w120 hbox hb; have BK472 := Aside0.mk (hbox); have GW472 := Aside0.mk (ge_ hg HB); have GE472 := Aside0.mk (ge_ hg HB); replace HB := bs HB hb; clear hb hbox hg) | ((with_reducible refine gate_dst (N := 3) rfl ?_); refine bx (N := 3) (cs := #[.int .i64 a1_0, .int .i64 a1_1, .int .i64 a1_2]) (t := 68) ?_; intro gb473 hg w121 hbox hb; have BK473 := Aside0.mk (hbox); have GW473 := Aside0.mk (ge_ hg HB); have GE473 := Aside0.mk (ge_ hg HB); replace HB := bs HB hb; have NB472_473 := Aside0.mk (nl_ hg BK472); have NB473_472 := Aside0.mk (ng_ hg BK472); replace BK472 := bb BK472 hb; clear hb hbox hg) | ((with_reducible refine gate_dst (N := 8) rfl ?_); refine Kd.R_lit (Kd.int .i64) _ 3 ?hg (N := 8) ?hd (xs := ([] : List Int)) (inner := []) (ok := fun _ => True) (okp := fun _ => True) ?hr ?hp (fun _ hk => hk) trivial (Below.refl _ _) (Nat.le_refl _) (by simp) ?_; (case hd => rfl); (case hg => rfl); (case hr => first | (go_simp; done) | (go_simp; rfl)); (case hp => exact (Reps.none _ _)); intro v475 w122 ho123 hb hg_ hnew_; clear hg_ hnew_; (first | rw [← Ny474.out] at ho123 | (simp only [Int.reduceToNat] at ho123; rw [← Ny474.out] at ho123)); have HO476 := Aside0.mk (Kd.R_lower ho123 (below_size (tb HB))); replace BK472 := bb BK472 hb; replace BK473 := bb BK473 hb; replace HB := bs HB hb; clear hb ho123; have hnb124 := NB472_473.out; have hnc124 := NB473_472.out; obtain ⟨hcz125_0, hcz125_1, hfz125_0, hfz125_1⟩ := c2 BK472; obtain ⟨hcz126_0, hcz126_1, hcz126_2, hfz126_0, hfz126_1, hfz126_2⟩ := c3 BK473) | ((with_reducible refine gate_callee (f := 165) rfl ?_); refine gL 12 Try.func165 #[.agg #[.slice A0_0 l0_0.length c0_0, .int .i64 a0_1], .int .i64 a1_2] ?_; (with_reducible refine (spec_KeyOf.calls k _ _ l0_0 a0_1 a1_2 t477 _ ?side1 ?side2 A3.out).mono ?_); (case side1 => exact kc HR0_0 HB); (case side2 => exact HC0_0.out); rintro e w127 ⟨rfl, hb⟩; refine ⟨_, rfl, ?_⟩; replace HO476 := rb HO476 hb; replace BK472 := bb BK472 hb; replace BK473 := bb BK473 hb; replace HB := bs HB hb; (try clear hb); (try clear hb2); (try clear hk); (try clear hi); obtain ⟨hcz128_0, hcz128_1, hcz128_2, hfz128_0, hfz128_1, hfz128_2⟩ := c3 BK473) | ((with_reducible refine gate_dst (N := 90) rfl ?_); refine Kd.R_lit (Kd.int .i64) _ 3 ?hg (N := 90) ?hd (xs := ([] : List Int)) (inner := []) (ok := fun _ => True) (okp := fun _ => True) ?hr ?hp (fun _ hk => hk) trivial (Below.refl _ _) (Nat.le_refl _) (by simp) ?_; (case hd => rfl); (case hg => rfl); (case hr => first | (go_simp; done) | (go_simp; rfl)); (case hp => exact (Reps.none _ _)); intro v494 w129 ho130 hb hg_ hnew_; clear hg_ hnew_; (first | rw [← Ny493.out] at ho130 | (simp only [Int.reduceToNat] at ho130; rw [← Ny493.out] at ho130)); have HO495 := Aside0.mk (Kd.R_lower (Kd.R_new' ho130 (Kd.R_lt (kr HO476.out))) (below_size (tb HB))); replace HO476 := Aside0.mk (Kd.R_elder' (kr HO476.out) (Kd.R_base ho130) hb); replace BK472 := bb BK472 hb; replace BK473 := bb BK473 hb; replace HB := bs HB hb; clear hb ho130; obtain ⟨hcz131_0, hcz131_1, hfz131_0, hfz131_1⟩ := c2 BK472) | ((with_reducible refine gate_builtin (b := .append) (xs := #[.tmp 90, .tmp 92]) rfl ?_); at_builtin; refine Kd.R_append_rows (Kd.int .i64) (w0 := w) w.heap.size rfl (.tmp 90) (.tmp 92) 22 3 (.int .i64 0) 8 rfl Try.underlying22 info3 rfl (by decide) (by omega) v494 y493 l0_0 _ _ _ (fun k_ => some k_ ≠ (v475 : Value).ownBlock) (fun _ => False) rfl rfl ?aO ?aR (fun _ _ h => h) (fun _ h => h.elim) ?aF ?aB ?aS ?aL ?_; (case aR => repeat (first | exact (Kd.C_below HR0_0.out HB.out) | (with_reducible refine Kd.C_alloc ?_ _) | (with_reducible refine Kd.C_drewN ?_ _) | (with_reducible refine Kd.C_drew ?_))); (case aB => exact (tb HB)); (case aF => exact (fun k_ hk => Kd.fresh' (Kd.R_lt (kr HO476.out)) k_ hk)); (case aO => exact (kr (Kd.R_mono HO495.out (fun _ hk => hk.2)))); (case aS => exact (below_size (tb HB))); (case aL => have := LMc119.out; omega); intro v497 w132 ho hb hg hat; rw [← Ny496.out] at ho; replace BK472 := Aside0.mk (blk_grown (g := gb472) (o := .cells #[.slice A0_0 l0_0.length c0_0, .int .i64 a0_1] 65 (0, 0)) (bk BK472) hg (Kd.R_ne HO495.out BK472.out (by decide))); replace BK473 := Aside0.mk (blk_grown (g := gb473) (o := .cells #[.int .i64 a1_0, .int .i64 a1_1, .int .i64 a1_2] 68 (0, 0)) (bk BK473) hg (Kd.R_ne HO495.out BK473.out (by decide))); replace HO476 := Aside0.mk (Kd.R_after (ok := (fun _ => True)) (kr HO476.out) hg hat); replace HB := Aside0.mk (hb); have HO498 := Aside0.mk (ho); clear HO495; clear ho hb hg hat))
         go_ret2
         exact ⟨_, er, by (with_reducible repeat (first | apply Kd.R_alloc | apply Kd.R_drewN | apply Kd.R_drew)); exact Kd.R_mono HO498.out (fun _ hk => trivial), tb HB⟩
        ·rw [if_neg c119] at H
         exact absurd H (by simp)
       ·rw [if_neg c118] at H
        have c118b0 : (a1_0 == 7) = false := beq_eq_false_iff_ne.mpr c118
        have c118b1 : (a1_0 != 7) = true := bne_iff_ne.mpr c118
        by_cases c133 : a1_0 = 8
        ·rw [if_pos c133] at H
         have c133b0 : (a1_0 == 8) = true := beq_iff_eq.mpr c133
         have c133b1 : (a1_0 != 8) = false := bne_eq_false_iff_eq.mpr c133
         clear c133
         simp only [Option.some.injEq, Prod.mk.injEq] at H
         obtain ⟨rfl, rfl⟩ := H
         go_enter Try.func117, Try.ntmps117
         try go_wp2_with (first | ((with_reducible refine gate_dst (N := 2) rfl ?_); refine bx (N := 2) (cs := #[.slice A0_0 l0_0.length c0_0, .int .i64 a0_1]) (t := 65) ?_; intro gb472 hg w134 hbox hb; have BK472 := Aside0.mk (hbox); have GW472 := Aside0.mk (ge_ hg HB); have GE472 := Aside0.mk (ge_ hg HB); replace HB := bs HB hb; clear hb hbox hg) | ((with_reducible refine gate_dst (N := 3) rfl ?_); refine bx (N := 3) (cs := #[.int .i64 a1_0, .int .i64 a1_1, .int .i64 a1_2]) (t := 68) ?_; intro gb473 hg w135 hbox hb; have BK473 := Aside0.mk (hbox); have GW473 := Aside0.mk (ge_ hg HB); have GE473 := Aside0.mk (ge_ hg HB); replace HB := bs HB hb; have NB472_473 := Aside0.mk (nl_ hg BK472); have NB473_472 := Aside0.mk (ng_ hg BK472); replace BK472 := bb BK472 hb; clear hb hbox hg) | ((with_reducible refine gate_dst (N := 8) rfl ?_); refine Kd.R_lit (Kd.int .i64) _ 3 ?hg (N := 8) ?hd (xs := ([] : List Int)) (inner := []) (ok := fun _ => True) (okp := fun _ => True) ?hr ?hp (fun _ hk => hk) trivial (Below.refl _ _) (Nat.le_refl _) (by simp) ?_; (case hd => rfl); (case hg => rfl); (case hr => first | (go_simp; done) | (go_simp; rfl)); (case hp => exact (Reps.none _ _)); intro v475 w136 ho137 hb hg_ hnew_; clear hg_ hnew_; (first | rw [← Ny474.out] at ho137 | (simp only [Int.reduceToNat] at ho137; rw [← Ny474.out] at ho137)); have HO476 := Aside0.mk (Kd.R_lower ho137 (below_size (tb HB))); replace BK472 := bb BK472 hb; replace BK473 := bb BK473 hb; replace HB := bs HB hb; clear hb ho137; have hnb138 := NB472_473.out; have hnc138 := NB473_472.out; obtain ⟨hcz139_0, hcz139_1, hfz139_0, hfz139_1⟩ := c2 BK472; obtain ⟨hcz140_0, hcz140_1, hcz140_2, hfz140_0, hfz140_1, hfz140_2⟩ := c3 BK473) | ((with_reducible refine gate_callee (f := 165) rfl ?_); refine gL 12 Try.func165 #[.agg #[.slice A0_0 l0_0.length c0_0, .int .i64 a0_1], .int .i64 a1_2] ?_; (with_reducible refine (spec_KeyOf.calls k _ _ l0_0 a0_1 a1_2 t477 _ ?side1 ?side2 A3.out).mono ?_); (case side1 => exact kc HR0_0 HB); (case side2 => exact HC0_0.out); rintro e w141 ⟨rfl, hb⟩; refine ⟨_, rfl, ?_⟩; replace HO476 := rb HO476 hb; replace BK472 := bb BK472 hb; replace BK473 := bb BK473 hb; replace HB := bs HB hb; (try clear hb); (try clear hb2); (try clear hk); (try clear hi); obtain ⟨hcz142_0, hcz142_1, hcz142_2, hfz142_0, hfz142_1, hfz142_2⟩ := c3 BK473))
         replace HO476 := rd_ HO476
         replace BK472 := bd BK472
         replace BK473 := bd BK473
         replace HB := Aside0.mk (below_drew1 HB.out)
         refine start_ (n := 6) (S := fun w' => w'.cell? ⟨gb472, 0, none⟩ = some (.slice A0_0 l0_0.length c0_0) ∧ w'.cell? ⟨gb472, 1, none⟩ = some (.int .i64 a0_1)) (ds := []) #[false, false, false, false, false, false] (by kernel_rfl) rfl rfl ⟨cz BK472 0, cz BK472 1⟩ (fun hHeld => ?_)
         generalize w141.drew = w143 at HO476 BK472 BK473 HB hHeld ⊢
         refine pu 0 96 ?_
         refine pu 1 97 ?_
         refine pu 4 4 ?_
         refine ta 2 98 ?_
         refine pu 3 99 ?_
         refine pu 5 5 ?_
         refine done_ (by kernel_rfl) ?_
         try go_wp2
         go_ret2
         exact ⟨_, er, kr HO476.out, tb HB⟩
        ·rw [if_neg c133] at H
         have c133b0 : (a1_0 == 8) = false := beq_eq_false_iff_ne.mpr c133
         have c133b1 : (a1_0 != 8) = true := bne_iff_ne.mpr c133
         by_cases c144 : a1_0 = 9
         ·rw [if_pos c144] at H
          have c144b0 : (a1_0 == 9) = true := beq_iff_eq.mpr c144
          have c144b1 : (a1_0 != 9) = false := bne_eq_false_iff_eq.mpr c144
          clear c144
          replace H := Option.bind_eq_some_iff.mp H
          obtain ⟨t499, A1450, H⟩ := H
          replace H : (some (y474, t499)) = some (r1, r2) := H
          have A145 := Aside0.mk A1450
          clear A1450
          simp only [Option.some.injEq, Prod.mk.injEq] at H
          obtain ⟨rfl, rfl⟩ := H
          go_enter Try.func117, Try.ntmps117
          go_wp2_with (first | ((with_reducible refine gate_dst (N := 2) rfl ?_); refine bx (N := 2) (cs := #[.slice A0_0 l0_0.length c0_0, .int .i64 a0_1]) (t := 65) ?_; intro gb472 hg w146 hbox hb; have BK472 := Aside0.mk (hbox); have GW472 := Aside0.mk (ge_ hg HB); have GE472 := Aside0.mk (ge_ hg HB); replace HB := bs HB hb; clear hb hbox hg) | ((with_reducible refine gate_dst (N := 3) rfl ?_); refine bx (N := 3) (cs := #[.int .i64 a1_0, .int .i64 a1_1, .int .i64 a1_2]) (t := 68) ?_; intro gb473 hg w147 hbox hb; have BK473 := Aside0.mk (hbox); have GW473 := Aside0.mk (ge_ hg HB); have GE473 := Aside0.mk (ge_ hg HB); replace HB := bs HB hb; have NB472_473 := Aside0.mk (nl_ hg BK472); have NB473_472 := Aside0.mk (ng_ hg BK472); replace BK472 := bb BK472 hb; clear hb hbox hg) | ((with_reducible refine gate_dst (N := 8) rfl ?_); refine Kd.R_lit (Kd.int .i64) _ 3 ?hg (N := 8) ?hd (xs := ([] : List Int)) (inner := []) (ok := fun _ => True) (okp := fun _ => True) ?hr ?hp (fun _ hk => hk) trivial (Below.refl _ _) (Nat.le_refl _) (by simp) ?_; (case hd => rfl); (case hg => rfl); (case hr => first | (go_simp; done) | (go_simp; rfl)); (case hp => exact (Reps.none _ _)); intro v475 w148 ho149 hb hg_ hnew_; clear hg_ hnew_; (first | rw [← Ny474.out] at ho149 | (simp only [Int.reduceToNat] at ho149; rw [← Ny474.out] at ho149)); have HO476 := Aside0.mk (Kd.R_lower ho149 (below_size (tb HB))); replace BK472 := bb BK472 hb; replace BK473 := bb BK473 hb; replace HB := bs HB hb; clear hb ho149; have hnb150 := NB472_473.out; have hnc150 := NB473_472.out; obtain ⟨hcz151_0, hcz151_1, hfz151_0, hfz151_1⟩ := c2 BK472; obtain ⟨hcz152_0, hcz152_1, hcz152_2, hfz152_0, hfz152_1, hfz152_2⟩ := c3 BK473) | ((with_reducible refine gate_callee (f := 165) rfl ?_); refine gL 12 Try.func165 #[.agg #[.slice A0_0 l0_0.length c0_0, .int .i64 a0_1], .int .i64 a1_2] ?_; (with_reducible refine (spec_KeyOf.calls k _ _ l0_0 a0_1 a1_2 t477 _ ?side1 ?side2 A3.out).mono ?_); (case side1 => exact kc HR0_0 HB); (case side2 => exact HC0_0.out); rintro e w153 ⟨rfl, hb⟩; refine ⟨_, rfl, ?_⟩; replace HO476 := rb HO476 hb; replace BK472 := bb BK472 hb; replace BK473 := bb BK473 hb; replace HB := bs HB hb; (try clear hb); (try clear hb2); (try clear hk); (try clear hi); obtain ⟨hcz154_0, hcz154_1, hcz154_2, hfz154_0, hfz154_1, hfz154_2⟩ := c3 BK473; obtain ⟨hcz155_0, hcz155_1, hfz155_0, hfz155_1⟩ := c2 BK472) | ((with_reducible refine gate_callee (f := 79) rfl ?_); refine gL 105 Try.func79 #[.int .i64 a0_1, .int .i64 1, .int .i64 4] ?_; (with_reducible refine (spec_l1In.calls a0_1 1 4 t499 _ A145.out).mono ?_); rintro e w' ⟨rfl, ⟨nd, rfl⟩⟩; refine ⟨_, rfl, ?_⟩))
          go_ret2
          exact ⟨_, er, kr HO476.out, tb HB⟩
         ·rw [if_neg c144] at H
          have c144b0 : (a1_0 == 9) = false := beq_eq_false_iff_ne.mpr c144
          have c144b1 : (a1_0 != 9) = true := bne_iff_ne.mpr c144
          obtain ⟨y500, hy500⟩ : ∃ y_ : List Int, y_ = (([t477] : List Int)) := ⟨_, rfl⟩
          replace H : (if a0_1 = 5 then (some (y500, decide (t477 ≥ 0))) else (some (y500, false))) = some (r1, r2) := by first | (rw [hy500]; with_reducible exact H) | (have H2_ := (Option.bind_some _ _).symm.trans H; rw [hy500]; with_reducible exact H2_) | (have H2_ := (Option.bind_some _ _).symm.trans H; with_reducible exact H2_) | with_reducible exact H | (rw [hy500]; exact H) | exact H
          have Ny500 := Aside0.mk hy500
          clear hy500
          by_cases c156 : a0_1 = 5
          ·rw [if_pos c156] at H
           have c156b0 : (a0_1 == 5) = true := beq_iff_eq.mpr c156
           have c156b1 : (a0_1 != 5) = false := bne_eq_false_iff_eq.mpr c156
           clear c156
           simp only [Option.some.injEq, Prod.mk.injEq] at H
           obtain ⟨rfl, rfl⟩ := H
           go_enter Try.func117, Try.ntmps117
           go_wp2_with (first | ((with_reducible refine gate_dst (N := 2) rfl ?_); refine bx (N := 2) (cs := #[.slice A0_0 l0_0.length c0_0, .int .i64 a0_1]) (t := 65) ?_; intro gb472 hg w157 hbox hb; have BK472 := Aside0.mk (hbox); have GW472 := Aside0.mk (ge_ hg HB); have GE472 := Aside0.mk (ge_ hg HB); replace HB := bs HB hb; clear hb hbox hg) | ((with_reducible refine gate_dst (N := 3) rfl ?_); refine bx (N := 3) (cs := #[.int .i64 a1_0, .int .i64 a1_1, .int .i64 a1_2]) (t := 68) ?_; intro gb473 hg w158 hbox hb; have BK473 := Aside0.mk (hbox); have GW473 := Aside0.mk (ge_ hg HB); have GE473 := Aside0.mk (ge_ hg HB); replace HB := bs HB hb; have NB472_473 := Aside0.mk (nl_ hg BK472); have NB473_472 := Aside0.mk (ng_ hg BK472); replace BK472 := bb BK472 hb; clear hb hbox hg) | ((with_reducible refine gate_dst (N := 8) rfl ?_); refine Kd.R_lit (Kd.int .i64) _ 3 ?hg (N := 8) ?hd (xs := ([] : List Int)) (inner := []) (ok := fun _ => True) (okp := fun _ => True) ?hr ?hp (fun _ hk => hk) trivial (Below.refl _ _) (Nat.le_refl _) (by simp) ?_; (case hd => rfl); (case hg => rfl); (case hr => first | (go_simp; done) | (go_simp; rfl)); (case hp => exact (Reps.none _ _)); intro v475 w159 ho160 hb hg_ hnew_; clear hg_ hnew_; (first | rw [← Ny474.out] at ho160 | (simp only [Int.reduceToNat] at ho160; rw [← Ny474.out] at ho160)); have HO476 := Aside0.mk (Kd.R_lower ho160 (below_size (tb HB))); replace BK472 := bb BK472 hb; replace BK473 := bb BK473 hb; replace HB := bs HB hb; clear hb ho160; have hnb161 := NB472_473.out; have hnc161 := NB473_472.out; obtain ⟨hcz162_0, hcz162_1, hfz162_0, hfz162_1⟩ := c2 BK472; obtain ⟨hcz163_0, hcz163_1, hcz163_2, hfz163_0, hfz163_1, hfz163_2⟩ := c3 BK473) | ((with_reducible refine gate_callee (f := 165) rfl ?_); refine gL 12 Try.func165 #[.agg #[.slice A0_0 l0_0.length c0_0, .int .i64 a0_1], .int .i64 a1_2] ?_; (with_reducible refine (spec_KeyOf.calls k _ _ l0_0 a0_1 a1_2 t477 _ ?side1 ?side2 A3.out).mono ?_); (case side1 => exact kc HR0_0 HB); (case side2 => exact HC0_0.out); rintro e w164 ⟨rfl, hb⟩; refine ⟨_, rfl, ?_⟩; replace HO476 := rb HO476 hb; replace BK472 := bb BK472 hb; replace BK473 := bb BK473 hb; replace HB := bs HB hb; (try clear hb); (try clear hb2); (try clear hk); (try clear hi); obtain ⟨hcz165_0, hcz165_1, hcz165_2, hfz165_0, hfz165_1, hfz165_2⟩ := c3 BK473) | ((with_reducible refine gate_dst (N := 107) rfl ?_); refine Kd.R_lit (Kd.int .i64) _ 3 ?hg (N := 107) ?hd (xs := ([t477] : List Int)) (inner := [.int .i64 t477]) (ok := fun _ => True) (okp := fun _ => True) ?hr ?hp (fun _ hk => hk) trivial (Below.refl _ _) (Nat.le_refl _) (by simp) ?_; (case hd => rfl); (case hg => rfl); (case hr => first | (go_simp; done) | (go_simp; rfl)); (case hp => exact (Reps.one (show Kd.M (Kd.int .i64) _ _ _ t477 [.int .i64 t477] from rfl) (Reps.none _ _))); intro v501 w166 ho167 hb hg_ hnew_; clear hg_ hnew_; (first | rw [← Ny500.out] at ho167 | (simp only [Int.reduceToNat] at ho167; rw [← Ny500.out] at ho167)); have HO502 := Aside0.mk (Kd.R_lower (Kd.R_new' ho167 (Kd.R_lt (kr HO476.out))) (below_size (tb HB))); replace HO476 := Aside0.mk (Kd.R_elder' (kr HO476.out) (Kd.R_base ho167) hb); replace BK472 := bb BK472 hb; replace BK473 := bb BK473 hb; replace HB := bs HB hb; clear hb ho167; obtain ⟨hcz168_0, hcz168_1, hfz168_0, hfz168_1⟩ := c2 BK472))
           go_ret2
           exact ⟨_, er, by (with_reducible repeat (first | apply Kd.R_alloc | apply Kd.R_drewN | apply Kd.R_drew)); exact Kd.R_mono HO502.out (fun _ hk => trivial), tb HB⟩
          ·rw [if_neg c156] at H
           have c156b0 : (a0_1 == 5) = false := beq_eq_false_iff_ne.mpr c156
           have c156b1 : (a0_1 != 5) = true := bne_iff_ne.mpr c156
           simp only [Option.some.injEq, Prod.mk.injEq] at H
           obtain ⟨rfl, rfl⟩ := H
           go_enter Try.func117, Try.ntmps117
           go_wp2_with (first | ((with_reducible refine gate_dst (N := 2) rfl ?_); refine bx (N := 2) (cs := #[.slice A0_0 l0_0.length c0_0, .int .i64 a0_1]) (t := 65) ?_; intro gb472 hg w169 hbox hb; have BK472 := Aside0.mk (hbox); have GW472 := Aside0.mk (ge_ hg HB); have GE472 := Aside0.mk (ge_ hg HB); replace HB := bs HB hb; clear hb hbox hg) | ((with_reducible refine gate_dst (N := 3) rfl ?_); refine bx (N := 3) (cs := #[.int .i64 a1_0, .int .i64 a1_1, .int .i64 a1_2]) (t := 68) ?_; intro gb473 hg w170 hbox hb; have BK473 := Aside0.mk (hbox); have GW473 := Aside0.mk (ge_ hg HB); have GE473 := Aside0.mk (ge_ hg HB); replace HB := bs HB hb; have NB472_473 := Aside0.mk (nl_ hg BK472); have NB473_472 := Aside0.mk (ng_ hg BK472); replace BK472 := bb BK472 hb; clear hb hbox hg) | ((with_reducible refine gate_dst (N := 8) rfl ?_); refine Kd.R_lit (Kd.int .i64) _ 3 ?hg (N := 8) ?hd (xs := ([] : List Int)) (inner := []) (ok := fun _ => True) (okp := fun _ => True) ?hr ?hp (fun _ hk => hk) trivial (Below.refl _ _) (Nat.le_refl _) (by simp) ?_; (case hd => rfl); (case hg => rfl); (case hr => first | (go_simp; done) | (go_simp; rfl)); (case hp => exact (Reps.none _ _)); intro v475 w171 ho172 hb hg_ hnew_; clear hg_ hnew_; (first | rw [← Ny474.out] at ho172 | (simp only [Int.reduceToNat] at ho172; rw [← Ny474.out] at ho172)); have HO476 := Aside0.mk (Kd.R_lower ho172 (below_size (tb HB))); replace BK472 := bb BK472 hb; replace BK473 := bb BK473 hb; replace HB := bs HB hb; clear hb ho172; have hnb173 := NB472_473.out; have hnc173 := NB473_472.out; obtain ⟨hcz174_0, hcz174_1, hfz174_0, hfz174_1⟩ := c2 BK472; obtain ⟨hcz175_0, hcz175_1, hcz175_2, hfz175_0, hfz175_1, hfz175_2⟩ := c3 BK473) | ((with_reducible refine gate_callee (f := 165) rfl ?_); refine gL 12 Try.func165 #[.agg #[.slice A0_0 l0_0.length c0_0, .int .i64 a0_1], .int .i64 a1_2] ?_; (with_reducible refine (spec_KeyOf.calls k _ _ l0_0 a0_1 a1_2 t477 _ ?side1 ?side2 A3.out).mono ?_); (case side1 => exact kc HR0_0 HB); (case side2 => exact HC0_0.out); rintro e w176 ⟨rfl, hb⟩; refine ⟨_, rfl, ?_⟩; replace HO476 := rb HO476 hb; replace BK472 := bb BK472 hb; replace BK473 := bb BK473 hb; replace HB := bs HB hb; (try clear hb); (try clear hb2); (try clear hk); (try clear hi); obtain ⟨hcz177_0, hcz177_1, hcz177_2, hfz177_0, hfz177_1, hfz177_2⟩ := c3 BK473) | ((with_reducible refine gate_dst (N := 107) rfl ?_); refine Kd.R_lit (Kd.int .i64) _ 3 ?hg (N := 107) ?hd (xs := ([t477] : List Int)) (inner := [.int .i64 t477]) (ok := fun _ => True) (okp := fun _ => True) ?hr ?hp (fun _ hk => hk) trivial (Below.refl _ _) (Nat.le_refl _) (by simp) ?_; (case hd => rfl); (case hg => rfl); (case hr => first | (go_simp; done) | (go_simp; rfl)); (case hp => exact (Reps.one (show Kd.M (Kd.int .i64) _ _ _ t477 [.int .i64 t477] from rfl) (Reps.none _ _))); intro v501 w178 ho179 hb hg_ hnew_; clear hg_ hnew_; (first | rw [← Ny500.out] at ho179 | (simp only [Int.reduceToNat] at ho179; rw [← Ny500.out] at ho179)); have HO502 := Aside0.mk (Kd.R_lower (Kd.R_new' ho179 (Kd.R_lt (kr HO476.out))) (below_size (tb HB))); replace HO476 := Aside0.mk (Kd.R_elder' (kr HO476.out) (Kd.R_base ho179) hb); replace BK472 := bb BK472 hb; replace BK473 := bb BK473 hb; replace HB := bs HB hb; clear hb ho179; obtain ⟨hcz180_0, hcz180_1, hfz180_0, hfz180_1⟩ := c2 BK472))
           go_ret2
           exact ⟨_, er, by (with_reducible repeat (first | apply Kd.R_alloc | apply Kd.R_drewN | apply Kd.R_drew)); exact Kd.R_mono HO502.out (fun _ hk => trivial), tb HB⟩
mutual
def spec_l4Ints.l0 : Nat → List Int → List Int → Int → Option (Bool)
 | 0, _, _, _ => none
 | k + 1, x0, x1, x5 => if x5 < (x0.length : Int) then (spec_l4Ints.j1 k x0 x1 x5 (decide (x5 < (x1.length : Int)))) else (spec_l4Ints.j1 k x0 x1 x5 false)
def spec_l4Ints.j1 : Nat → List Int → List Int → Int → Bool → Option (Bool)
 | 0, _, _, _, _ => none
 | k + 1, x0, x1, x5, x15 => if x15 = true then (if 0 ≤ x5 then (if x5 < (x0.length : Int) then (if x5 < (x1.length : Int) then (if (rd x0 x5) = (rd x1 x5) then (spec_l4Ints.l0 k x0 x1 (wrap64 (x5 + 1))) else (some false)) else (none)) else (none)) else (none)) else (some ((x0.length : Int) == (x1.length : Int)))
end
def spec_l4Ints.f (k : Nat) (l0 : List Int) (l1 : List Int) : Option (Bool) := spec_l4Ints.l0 k l0 l1 0
theorem spec_l4Ints.mono_l : ∀ k, (∀ y0 y1 y2, LeO (spec_l4Ints.l0 k y0 y1 y2) (spec_l4Ints.l0 (k + 1) y0 y1 y2)) ∧ (∀ y0 y1 y2 y3, LeO (spec_l4Ints.j1 k y0 y1 y2 y3) (spec_l4Ints.j1 (k + 1) y0 y1 y2 y3))
 | 0 => ⟨fun _ _ _ r h => by simp [spec_l4Ints.l0] at h, fun _ _ _ _ r h => by simp [spec_l4Ints.j1] at h⟩
 | k + 1 => by
  obtain ⟨ih0, ih1⟩ := spec_l4Ints.mono_l k
  refine ⟨?_, ?_⟩
  ·intro y0 y1 y2
   unfold spec_l4Ints.l0
   repeat' first
   | (with_reducible exact ih0 _ _ _)
   | (with_reducible exact ih1 _ _ _ _)
   | (with_reducible exact LeO.refl _)
   | (with_reducible exact LeO.none _)
   | (with_reducible refine LeO.ite ?_ ?_)
   | (with_reducible refine LeO.bind ?_ (fun _ => ?_))
   | exact ih0 _ _ _
   | exact ih1 _ _ _ _
   | exact LeO.none _
   | refine LeO.ite ?_ ?_
   | refine LeO.bind ?_ (fun _ => ?_)
  ·intro y0 y1 y2 y3
   unfold spec_l4Ints.j1
   repeat' first
   | (with_reducible exact ih0 _ _ _)
   | (with_reducible exact ih1 _ _ _ _)
   | (with_reducible exact LeO.refl _)
   | (with_reducible exact LeO.none _)
   | (with_reducible refine LeO.ite ?_ ?_)
   | (with_reducible refine LeO.bind ?_ (fun _ => ?_))
   | exact ih0 _ _ _
   | exact ih1 _ _ _ _
   | exact LeO.none _
   | refine LeO.ite ?_ ?_
   | refine LeO.bind ?_ (fun _ => ?_)
theorem spec_l4Ints.mono : ∀ a0 a1 k, LeO (spec_l4Ints.f k a0 a1) (spec_l4Ints.f (k + 1) a0 a1) := by
 intro a0 a1 k
 obtain ⟨ih0, ih1⟩ := spec_l4Ints.mono_l k
 unfold spec_l4Ints.f
 repeat' first
   | (with_reducible exact ih0 _ _ _)
   | (with_reducible exact ih1 _ _ _ _)
   | (with_reducible exact LeO.refl _)
   | (with_reducible exact LeO.none _)
   | (with_reducible refine LeO.ite ?_ ?_)
   | (with_reducible refine LeO.bind ?_ (fun _ => ?_))
   | exact ih0 _ _ _
   | exact ih1 _ _ _ _
   | exact LeO.none _
   | refine LeO.ite ?_ ?_
   | refine LeO.bind ?_ (fun _ => ?_)
set_option maxHeartbeats 8000000 in
set_option maxRecDepth 100000 in
theorem spec_l4Ints.calls (k : Nat) (A0 : Option Addr) (c0 : Nat) (l0 : List Int) (A1 : Option Addr) (c1 : Nat) (l1 : List Int) (r : Bool) (w : World) (hr0 : Kd.C (Kd.int .i64) w A0 l0.length l0) (hc0 : l0.length ≤ c0) (hr1 : Kd.C (Kd.int .i64) w A1 l1.length l1) (hc1 : l1.length ≤ c1) (h : spec_l4Ints.f k l0 l1 = some r) :
  Calls Try.prog 118 #[.slice A0 l0.length c0, .slice A1 l1.length c1] w fun e w' => e = .returned (.bool r) ∧ Drawn0 w w' := by
 have HR0 := Aside0.mk hr0
 have HC0 := Aside0.mk hc0
 clear hr0 hc0
 have HR1 := Aside0.mk hr1
 have HC1 := Aside0.mk hc1
 clear hr1 hc1
 have H : (spec_l4Ints.l0 k l0 l1 0) = some r := h
 clear h
 have H' := Aside0.mk H
 clear H
 go_enter Try.func118, Try.ntmps118
 go_wp2
 repeat (go_quiet (fail); try go_wp2)
 go_loopg [5] k (fun kq v5 w' => ∃ (x5_1 : Int), v5 = .int .i64 x5_1 ∧ Aside0 (spec_l4Ints.l0 kq l0 l1 x5_1 = some r) ∧ Aside0 (kq ≤ k) ∧ Drawn0 w w')
 case atStart => exact ⟨(0), (by first | rfl | (simp; done) | (simp [*]; done)), H', ⟨Nat.le_refl _⟩, by repeat (first | exact Drawn0.refl _ | apply Drawn0.step)⟩
 case round =>
  clear H'
  try clear c1
  try clear p2
  obtain ⟨x5_1, rfl, HA, HK1, ⟨m1, rfl⟩⟩ := hrel
  cases gk with
  | zero => exact absurd HA.out (by simp [spec_l4Ints.l0])
  | succ k1 =>
   have H := HA.out
   clear HA
   simp only [spec_l4Ints.l0] at H
   have HC3 := Aside0.mk H
   clear H
   go_upto_region 2 with (fail)
   repeat (go_quiet (fail); go_upto_region 2 with (fail))
   go_cut [15] (fun v15 wc => ∃ (kq : Nat) (x15_2 : Bool), v15 = .bool x15_2 ∧ Aside0 (spec_l4Ints.j1 kq l0 l1 x5_1 x15_2 = some r) ∧ Aside0 (kq ≤ k1) ∧ Drawn0 w wc)
   case first =>
    have H := HC3.out
    clear HC3
    by_cases c4 : x5_1 < (l0.length : Int)
    ·rw [if_pos c4] at H
     have c4b0 := decide_eq_true c4
     clear c4
     (first | rw [c4b0] | (simp only [i64_w, i32_w]; rw [c4b0]) | skip)
     have H' := Aside0.mk H
     clear H
     go_wp2
     repeat (go_quiet (fail); try go_wp2)
     go_meet
     case rel => exact ⟨_, (decide (x5_1 < (l1.length : Int))), (by first | rfl | (simp; done) | (simp [*]; done)), H', ⟨by have := HK1.out; first | omega | exact Nat.le_refl _⟩, by repeat (first | exact Drawn0.refl _ | apply Drawn0.step)⟩
    ·rw [if_neg c4] at H
     have c4b0 := decide_eq_false c4
     clear c4
     (first | rw [c4b0] | (simp only [i64_w, i32_w]; rw [c4b0]) | skip)
     have H' := Aside0.mk H
     clear H
     go_wp2
     repeat (go_quiet (fail); try go_wp2)
     go_meet
     case rel => exact ⟨_, (false), (by first | rfl | (simp; done) | (simp [*]; done)), H', ⟨by have := HK1.out; first | omega | exact Nat.le_refl _⟩, by repeat (first | exact Drawn0.refl _ | apply Drawn0.step)⟩
   case rest =>
    clear HC3
    try clear c1
    try clear p2
    try clear c4
    try clear c4b0
    try clear p2
    obtain ⟨kq, x15_2, rfl, HA, HJ2, ⟨mc2, rfl⟩⟩ := hcut
    cases kq with
    | zero => exact absurd HA.out (by simp [spec_l4Ints.j1])
    | succ kj2 =>
     have H := HA.out
     clear HA
     simp only [spec_l4Ints.j1] at H
     by_cases c5 : x15_2 = true
     ·subst c5
      have H1 : (if 0 ≤ x5_1 then (if x5_1 < (l0.length : Int) then (if x5_1 < (l1.length : Int) then (if (rd l0 x5_1) = (rd l1 x5_1) then (spec_l4Ints.l0 kj2 l0 l1 (wrap64 (x5_1 + 1))) else (some false)) else (none)) else (none)) else (none)) = some r := by rw [if_pos rfl] at H; exact H
      clear H
      have H := H1
      clear H1
      by_cases c6 : 0 ≤ x5_1
      ·rw [if_pos c6] at H
       have c6b0 := decide_eq_true c6
       clear c6
       by_cases c7 : x5_1 < (l0.length : Int)
       ·rw [if_pos c7] at H
        have c7b0 := decide_eq_true c7
        clear c7
        by_cases c8 : x5_1 < (l1.length : Int)
        ·rw [if_pos c8] at H
         have c8b0 := decide_eq_true c8
         clear c8
         by_cases c9 : (rd l0 x5_1) = (rd l1 x5_1)
         ·rw [if_pos c9] at H
          have c9b0 : ((rd l0 x5_1) == (rd l1 x5_1)) = true := beq_iff_eq.mpr c9
          have c9b1 : ((rd l0 x5_1) != (rd l1 x5_1)) = false := bne_eq_false_iff_eq.mpr c9
          clear c9
          have H' := Aside0.mk H
          clear H
          have p503 : 0 ≤ (x5_1 : Int) := od
          have q503 : x5_1 < (l0.length : Int) := od
          obtain ⟨ad503, e503, hx503_0⟩ := Kd.at_int HR0.out x5_1 p503 q503
          cases e503
          replace p503 := eq_true p503
          replace q503 := eq_true q503
          have p504 : 0 ≤ (x5_1 : Int) := od
          have q504 : x5_1 < (l1.length : Int) := od
          obtain ⟨ad504, e504, hx504_0⟩ := Kd.at_int HR1.out x5_1 p504 q504
          cases e504
          replace p504 := eq_true p504
          replace q504 := eq_true q504
          go_wp2
          repeat (go_quiet (fail); try go_wp2)
          go_roundg kj2
          case measure => have := HK1.out; have := HJ2.out; omega
          case rel => exact ⟨(wrap64 (x5_1 + 1)), (by first | rfl | (simp; done) | (simp [*]; done)), H', ⟨by have := HK1.out; have := HJ2.out; omega⟩, by repeat (first | exact Drawn0.refl _ | apply Drawn0.step)⟩
         ·rw [if_neg c9] at H
          have c9b0 : ((rd l0 x5_1) == (rd l1 x5_1)) = false := beq_eq_false_iff_ne.mpr c9
          have c9b1 : ((rd l0 x5_1) != (rd l1 x5_1)) = true := bne_iff_ne.mpr c9
          obtain rfl := Option.some.inj H
          have p503 : 0 ≤ (x5_1 : Int) := od
          have q503 : x5_1 < (l0.length : Int) := od
          obtain ⟨ad503, e503, hx503_0⟩ := Kd.at_int HR0.out x5_1 p503 q503
          cases e503
          replace p503 := eq_true p503
          replace q503 := eq_true q503
          have p504 : 0 ≤ (x5_1 : Int) := od
          have q504 : x5_1 < (l1.length : Int) := od
          obtain ⟨ad504, e504, hx504_0⟩ := Kd.at_int HR1.out x5_1 p504 q504
          cases e504
          replace p504 := eq_true p504
          replace q504 := eq_true q504
          go_wp2
          repeat (go_quiet (fail); try go_wp2)
          go_ret
          exact ⟨by first | rfl | (simp; done) | (simp [*]; done), by repeat (first | exact Drawn0.refl _ | apply Drawn0.step)⟩
        ·rw [if_neg c8] at H
         exact absurd H (by simp)
       ·rw [if_neg c7] at H
        exact absurd H (by simp)
      ·rw [if_neg c6] at H
       exact absurd H (by simp)
     ·replace c5 := Bool.eq_false_iff.mpr c5
      subst c5
      have H1 : (some ((l0.length : Int) == (l1.length : Int))) = some r := by rw [if_neg (show ¬ (false = true) by decide)] at H; exact H
      clear H
      have H := H1
      clear H1
      obtain rfl := Option.some.inj H
      go_wp2
      repeat (go_quiet (fail); try go_wp2)
      go_ret
      exact ⟨by first | rfl | (simp; done) | (simp [*]; done), by repeat (first | exact Drawn0.refl _ | apply Drawn0.step)⟩
def spec_Allowed.j0 : Nat → Bool → List Int → Int → Int → Int → Int → Int → List Int → Option (Bool)
 | 0, _, _, _, _, _, _, _, _ => none
 | k + 1, x16, x506000, x506001, x507000, x507001, x507002, x508000, x508001 => if x16 = true then (some false) else (if x508000 = 0 then ((spec_l4Done.f k x506000 x506001 x507000 x507001 x507002).bind fun bt510 => (if bt510.2 = true then ((spec_l4Ints.f k bt510.1 x508001).bind fun t514 => (some t514)) else (some false))) else (if (x508001.length : Int) = 0 then ((spec_l4Fails.f k x506000 x506001 x507000 x507001 x507002 x508000).bind fun t515 => (some t515)) else (some false)))
def spec_Allowed.f (k : Nat) (l0_0 : List Int) (a0_1 : Int) (a1_0 : Int) (a1_1 : Int) (a1_2 : Int) (a2_0 : Int) (l2_1 : List Int) : Option (Bool) := (spec_RowsOk.f k l0_0 a0_1).bind fun t508 => (if t508 = true then ((spec_OpOk.f k a1_0 a1_1 a1_2).bind fun t509 => (spec_Allowed.j0 k (!t509) l0_0 a0_1 a1_0 a1_1 a1_2 a2_0 l2_1)) else (spec_Allowed.j0 k true l0_0 a0_1 a1_0 a1_1 a1_2 a2_0 l2_1))
theorem spec_Allowed.mono_l : ∀ k, (∀ y0 y1 y2 y3 y4 y5 y6 y7, LeO (spec_Allowed.j0 k y0 y1 y2 y3 y4 y5 y6 y7) (spec_Allowed.j0 (k + 1) y0 y1 y2 y3 y4 y5 y6 y7))
 | 0 => fun _ _ _ _ _ _ _ _ r h => by simp [spec_Allowed.j0] at h
 | k + 1 => by
  have ih0 := spec_Allowed.mono_l k
  ·intro y0 y1 y2 y3 y4 y5 y6 y7
   unfold spec_Allowed.j0
   repeat' first
   | (with_reducible exact ih0 _ _ _ _ _ _ _ _)
   | (with_reducible exact spec_OpOk.mono _ _ _ _)
   | (with_reducible exact spec_RowsOk.mono _ _ _)
   | (with_reducible exact spec_l4Done.mono _ _ _ _ _ _)
   | (with_reducible exact spec_l4Fails.mono _ _ _ _ _ _ _)
   | (with_reducible exact spec_l4Ints.mono _ _ _)
   | (with_reducible exact LeO.refl _)
   | (with_reducible exact LeO.none _)
   | (with_reducible refine LeO.ite ?_ ?_)
   | (with_reducible refine LeO.bind ?_ (fun _ => ?_))
   | exact ih0 _ _ _ _ _ _ _ _
   | exact spec_OpOk.mono _ _ _ _
   | exact spec_RowsOk.mono _ _ _
   | exact spec_l4Done.mono _ _ _ _ _ _
   | exact spec_l4Fails.mono _ _ _ _ _ _ _
   | exact spec_l4Ints.mono _ _ _
   | exact LeO.none _
   | refine LeO.ite ?_ ?_
   | refine LeO.bind ?_ (fun _ => ?_)
theorem spec_Allowed.mono : ∀ a0 a1 a2 a3 a4 a5 a6 k, LeO (spec_Allowed.f k a0 a1 a2 a3 a4 a5 a6) (spec_Allowed.f (k + 1) a0 a1 a2 a3 a4 a5 a6) := by
 intro a0 a1 a2 a3 a4 a5 a6 k
 have ih0 := spec_Allowed.mono_l k
 unfold spec_Allowed.f
 repeat' first
   | (with_reducible exact ih0 _ _ _ _ _ _ _ _)
   | (with_reducible exact spec_OpOk.mono _ _ _ _)
   | (with_reducible exact spec_RowsOk.mono _ _ _)
   | (with_reducible exact spec_l4Done.mono _ _ _ _ _ _)
   | (with_reducible exact spec_l4Fails.mono _ _ _ _ _ _ _)
   | (with_reducible exact spec_l4Ints.mono _ _ _)
   | (with_reducible exact LeO.refl _)
   | (with_reducible exact LeO.none _)
   | (with_reducible refine LeO.ite ?_ ?_)
   | (with_reducible refine LeO.bind ?_ (fun _ => ?_))
   | exact ih0 _ _ _ _ _ _ _ _
   | exact spec_OpOk.mono _ _ _ _
   | exact spec_RowsOk.mono _ _ _
   | exact spec_l4Done.mono _ _ _ _ _ _
   | exact spec_l4Fails.mono _ _ _ _ _ _ _
   | exact spec_l4Ints.mono _ _ _
   | exact LeO.none _
   | refine LeO.ite ?_ ?_
   | refine LeO.bind ?_ (fun _ => ?_)
set_option maxHeartbeats 8000000 in
set_option maxRecDepth 100000 in
theorem spec_Allowed.calls (k : Nat) (A0_0 : Option Addr) (c0_0 : Nat) (l0_0 : List Int) (a0_1 : Int) (a1_0 : Int) (a1_1 : Int) (a1_2 : Int) (a2_0 : Int) (A2_1 : Option Addr) (c2_1 : Nat) (l2_1 : List Int) (r : Bool) (w : World) (hr0_0 : Kd.C (Kd.int .i64) w A0_0 l0_0.length l0_0) (hc0_0 : l0_0.length ≤ c0_0) (hr2_1 : Kd.C (Kd.int .i64) w A2_1 l2_1.length l2_1) (hc2_1 : l2_1.length ≤ c2_1) (h : spec_Allowed.f k l0_0 a0_1 a1_0 a1_1 a1_2 a2_0 l2_1 = some r) :
  Calls Try.prog 49 #[.agg #[.slice A0_0 l0_0.length c0_0, .int .i64 a0_1], .agg #[.int .i64 a1_0, .int .i64 a1_1, .int .i64 a1_2], .agg #[.int .i64 a2_0, .slice A2_1 l2_1.length c2_1]] w fun e w' => e = .returned (.bool r) ∧ Below w.heap.size w w' := by
 have hu65 := Try.underlying65
 have hu68 := Try.underlying68
 have hu70 := Try.underlying70
 have HR0_0 := Aside0.mk hr0_0
 have HC0_0 := Aside0.mk hc0_0
 clear hr0_0 hc0_0
 have HR2_1 := Aside0.mk hr2_1
 have HC2_1 := Aside0.mk hc2_1
 clear hr2_1 hc2_1
 have HB := Aside0.mk (Below.refl w.heap.size w)
 have H : ((spec_RowsOk.f k l0_0 a0_1).bind fun t508 => (if t508 = true then ((spec_OpOk.f k a1_0 a1_1 a1_2).bind fun t509 => (spec_Allowed.j0 k (!t509) l0_0 a0_1 a1_0 a1_1 a1_2 a2_0 l2_1)) else (spec_Allowed.j0 k true l0_0 a0_1 a1_0 a1_1 a1_2 a2_0 l2_1))) = some r := h
 clear h
 have HC4 := Aside0.mk H
 clear H
 go_enter Try.func49, Try.ntmps49
 go_upto_region 1 with (first | ((with_reducible refine gate_dst (N := 3) rfl ?_); refine bx (N := 3) (cs := #[.slice A0_0 l0_0.length c0_0, .int .i64 a0_1]) (t := 65) ?_; intro gb505 hg w5 hbox hb; have BK505 := Aside0.mk (hbox); have GW505 := Aside0.mk (ge_ hg HB); have GE505 := Aside0.mk (ge_ hg HB); replace HB := bs HB hb; clear hb hbox hg) | ((with_reducible refine gate_dst (N := 4) rfl ?_); refine bx (N := 4) (cs := #[.int .i64 a1_0, .int .i64 a1_1, .int .i64 a1_2]) (t := 68) ?_; intro gb506 hg w6 hbox hb; have BK506 := Aside0.mk (hbox); have GW506 := Aside0.mk (ge_ hg HB); have GE506 := Aside0.mk (ge_ hg HB); replace HB := bs HB hb; have NB505_506 := Aside0.mk (nl_ hg BK505); have NB506_505 := Aside0.mk (ng_ hg BK505); replace BK505 := bb BK505 hb; clear hb hbox hg) | ((with_reducible refine gate_dst (N := 5) rfl ?_); refine bx (N := 5) (cs := #[.int .i64 a2_0, .slice A2_1 l2_1.length c2_1]) (t := 70) ?_; intro gb507 hg w7 hbox hb; have BK507 := Aside0.mk (hbox); have GW507 := Aside0.mk (ge_ hg HB); have GE507 := Aside0.mk (ge_ hg HB); replace HB := bs HB hb; have NB505_507 := Aside0.mk (nl_ hg BK505); have NB507_505 := Aside0.mk (ng_ hg BK505); replace BK505 := bb BK505 hb; have NB506_507 := Aside0.mk (nl_ hg BK506); have NB507_506 := Aside0.mk (ng_ hg BK506); replace BK506 := bb BK506 hb; clear hb hbox hg))
 (try simp only [Act.put, sA, sB, sC])
 go_cut [16] (fun v16 wc => ∃ (kq : Nat) (x16_3 : Bool), v16 = .bool x16_3 ∧ Aside0 (spec_Allowed.j0 kq x16_3 l0_0 a0_1 a1_0 a1_1 a1_2 a2_0 l2_1 = some r) ∧ Aside0 (kq ≤ k) ∧ Aside0 (wc.heap[gb505]? = some (.cells #[(.slice A0_0 l0_0.length c0_0), .int .i64 a0_1] 65 (0, 0))) ∧ Aside0 (wc.heap[gb506]? = some (.cells #[.int .i64 a1_0, .int .i64 a1_1, .int .i64 a1_2] 68 (0, 0))) ∧ Aside0 (wc.heap[gb507]? = some (.cells #[.int .i64 a2_0, (.slice A2_1 l2_1.length c2_1)] 70 (0, 0))) ∧ Aside0 (Below w.heap.size w wc))
 case first =>
  have H := HC4.out
  clear HC4
  replace H := Option.bind_eq_some_iff.mp H
  obtain ⟨t508, A80, H⟩ := H
  replace H : (if t508 = true then ((spec_OpOk.f k a1_0 a1_1 a1_2).bind fun t509 => (spec_Allowed.j0 k (!t509) l0_0 a0_1 a1_0 a1_1 a1_2 a2_0 l2_1)) else (spec_Allowed.j0 k true l0_0 a0_1 a1_0 a1_1 a1_2 a2_0 l2_1)) = some r := H
  have A8 := Aside0.mk A80
  clear A80
  by_cases c9 : t508 = true
  ·subst c9
   have H1 : ((spec_OpOk.f k a1_0 a1_1 a1_2).bind fun t509 => (spec_Allowed.j0 k (!t509) l0_0 a0_1 a1_0 a1_1 a1_2 a2_0 l2_1)) = some r := by rw [if_pos rfl] at H; exact H
   clear H
   have H := H1
   clear H1
   replace H := Option.bind_eq_some_iff.mp H
   obtain ⟨t509, A100, H⟩ := H
   replace H : (spec_Allowed.j0 k (!t509) l0_0 a0_1 a1_0 a1_1 a1_2 a2_0 l2_1) = some r := H
   have A10 := Aside0.mk A100
   clear A100
   have H' := Aside0.mk H
   clear H
   have hnb11 := NB505_506.out
   have hnc11 := NB506_505.out
   have hnb12 := NB505_507.out
   have hnc12 := NB507_505.out
   obtain ⟨hcz13_0, hcz13_1, hfz13_0, hfz13_1⟩ := c2 BK505
   go_wp2_with (first | ((with_reducible refine gate_callee (f := 115) rfl ?_); refine gL 10 Try.func115 #[.agg #[.slice A0_0 l0_0.length c0_0, .int .i64 a0_1]] ?_; (with_reducible refine (spec_RowsOk.calls k _ _ l0_0 a0_1 true _ ?side1 ?side2 A8.out).mono ?_); (case side1 => exact kc HR0_0 HB); (case side2 => exact HC0_0.out); rintro e w14 ⟨rfl, hb⟩; refine ⟨_, rfl, ?_⟩; replace BK505 := bb BK505 hb; replace BK506 := bb BK506 hb; replace BK507 := bb BK507 hb; replace HB := bs HB hb; (try clear hb); (try clear hb2); (try clear hk); (try clear hi); have hnb15 := NB506_507.out; have hnc15 := NB507_506.out; obtain ⟨hcz16_0, hcz16_1, hcz16_2, hfz16_0, hfz16_1, hfz16_2⟩ := c3 BK506) | (go_at_call 54; (with_reducible refine (spec_OpOk.calls k a1_0 a1_1 a1_2 t509 _ A10.out).mono ?_); rintro e w17 ⟨rfl, hb⟩; replace BK505 := bb BK505 hb; replace BK506 := bb BK506 hb; replace BK507 := bb BK507 hb; replace HB := bs HB hb; (try clear hb); (try clear hb2); (try clear hk); (try clear hi)))
   go_meet
   case rel => exact ⟨_, (!t509), (by first | rfl | (simp; done) | (simp [*]; done)), H', ⟨by first | omega | exact Nat.le_refl _⟩, ⟨by (with_reducible repeat (first | refine blk_drewN ?_ _ | refine blk_drew ?_ | refine blk_alloc ?_ _)); exact BK505.out⟩, ⟨by (with_reducible repeat (first | refine blk_drewN ?_ _ | refine blk_drew ?_ | refine blk_alloc ?_ _)); exact BK506.out⟩, ⟨by (with_reducible repeat (first | refine blk_drewN ?_ _ | refine blk_drew ?_ | refine blk_alloc ?_ _)); exact BK507.out⟩, ⟨tb HB⟩⟩
  ·replace c9 := Bool.eq_false_iff.mpr c9
   subst c9
   have H1 : (spec_Allowed.j0 k true l0_0 a0_1 a1_0 a1_1 a1_2 a2_0 l2_1) = some r := by rw [if_neg (show ¬ (false = true) by decide)] at H; exact H
   clear H
   have H := H1
   clear H1
   have H' := Aside0.mk H
   clear H
   have hnb18 := NB505_506.out
   have hnc18 := NB506_505.out
   have hnb19 := NB505_507.out
   have hnc19 := NB507_505.out
   obtain ⟨hcz20_0, hcz20_1, hfz20_0, hfz20_1⟩ := c2 BK505
   go_wp2_with (first | ((with_reducible refine gate_callee (f := 115) rfl ?_); refine gL 10 Try.func115 #[.agg #[.slice A0_0 l0_0.length c0_0, .int .i64 a0_1]] ?_; (with_reducible refine (spec_RowsOk.calls k _ _ l0_0 a0_1 false _ ?side1 ?side2 A8.out).mono ?_); (case side1 => exact kc HR0_0 HB); (case side2 => exact HC0_0.out); rintro e w21 ⟨rfl, hb⟩; refine ⟨_, rfl, ?_⟩; replace BK505 := bb BK505 hb; replace BK506 := bb BK506 hb; replace BK507 := bb BK507 hb; replace HB := bs HB hb; (try clear hb); (try clear hb2); (try clear hk); (try clear hi)))
   go_meet
   case rel => exact ⟨_, (true), (by first | rfl | (simp; done) | (simp [*]; done)), H', ⟨by first | omega | exact Nat.le_refl _⟩, ⟨by (with_reducible repeat (first | refine blk_drewN ?_ _ | refine blk_drew ?_ | refine blk_alloc ?_ _)); exact BK505.out⟩, ⟨by (with_reducible repeat (first | refine blk_drewN ?_ _ | refine blk_drew ?_ | refine blk_alloc ?_ _)); exact BK506.out⟩, ⟨by (with_reducible repeat (first | refine blk_drewN ?_ _ | refine blk_drew ?_ | refine blk_alloc ?_ _)); exact BK507.out⟩, ⟨tb HB⟩⟩
 case rest =>
  clear HC4
  try clear c1
  try clear c2
  try clear p2
  try clear c4
  try clear c9
  try clear c11
  try clear c12
  try clear c15
  try clear c18
  try clear c19
  try clear hcz13_0
  try clear hcz13_1
  try clear hcz16_0
  try clear hcz16_1
  try clear hcz16_2
  try clear hcz20_0
  try clear hcz20_1
  try clear hfz13_0
  try clear hfz13_1
  try clear hfz16_0
  try clear hfz16_1
  try clear hfz16_2
  try clear hfz20_0
  try clear hfz20_1
  obtain ⟨kq, x16_3, rfl, HA, HJ3, BK505, BK506, BK507, HB⟩ := hcut
  cases kq with
  | zero => exact absurd HA.out (by simp [spec_Allowed.j0])
  | succ kj3 =>
   have H := HA.out
   clear HA
   simp only [spec_Allowed.j0] at H
   by_cases c22 : x16_3 = true
   ·subst c22
    have H1 : (some false) = some r := by rw [if_pos rfl] at H; exact H
    clear H
    have H := H1
    clear H1
    obtain rfl := Option.some.inj H
    go_wp2
    go_ret
    exact ⟨er, tb HB⟩
   ·replace c22 := Bool.eq_false_iff.mpr c22
    subst c22
    have H1 : (if a2_0 = 0 then ((spec_l4Done.f kj3 l0_0 a0_1 a1_0 a1_1 a1_2).bind fun bt510 => (if bt510.2 = true then ((spec_l4Ints.f kj3 bt510.1 l2_1).bind fun t514 => (some t514)) else (some false))) else (if (l2_1.length : Int) = 0 then ((spec_l4Fails.f kj3 l0_0 a0_1 a1_0 a1_1 a1_2 a2_0).bind fun t515 => (some t515)) else (some false))) = some r := by rw [if_neg (show ¬ (false = true) by decide)] at H; exact H
    clear H
    have H := H1
    clear H1
    by_cases c23 : a2_0 = 0
    ·rw [if_pos c23] at H
     have c23b0 : (a2_0 == 0) = true := beq_iff_eq.mpr c23
     have c23b1 : (a2_0 != 0) = false := bne_eq_false_iff_eq.mpr c23
     clear c23
     replace H := Option.bind_eq_some_iff.mp H
     obtain ⟨⟨t510, t513⟩, A240, H⟩ := H
     replace H : (if t513 = true then ((spec_l4Ints.f kj3 t510 l2_1).bind fun t514 => (some t514)) else (some false)) = some r := H
     have A24 := Aside0.mk A240
     clear A240
     by_cases c25 : t513 = true
     ·subst c25
      have H1 : ((spec_l4Ints.f kj3 t510 l2_1).bind fun t514 => (some t514)) = some r := by rw [if_pos rfl] at H; exact H
      clear H
      have H := H1
      clear H1
      replace H := Option.bind_eq_some_iff.mp H
      obtain ⟨t514, A260, H⟩ := H
      replace H : (some t514) = some r := H
      have A26 := Aside0.mk A260
      clear A260
      obtain rfl := Option.some.inj H
      have hnb27 := NB507_505.out
      have hnc27 := NB505_507.out
      have hnb28 := NB507_506.out
      have hnc28 := NB506_507.out
      obtain ⟨hcz29_0, hcz29_1, hfz29_0, hfz29_1⟩ := c2 BK507
      have hnb30 := NB505_506.out
      have hnc30 := NB506_505.out
      obtain ⟨hcz31_0, hcz31_1, hfz31_0, hfz31_1⟩ := c2 BK505
      obtain ⟨hcz32_0, hcz32_1, hcz32_2, hfz32_0, hfz32_1, hfz32_2⟩ := c3 BK506
      go_wp2_with (first | ((with_reducible refine gate_callee (f := 117) rfl ?_); refine gL 34 Try.func117 #[.agg #[.slice A0_0 l0_0.length c0_0, .int .i64 a0_1], .agg #[.int .i64 a1_0, .int .i64 a1_1, .int .i64 a1_2]] ?_; (with_reducible refine (spec_l4Done.calls kj3 _ _ l0_0 a0_1 a1_0 a1_1 a1_2 t510 true _ ?side1 ?side2 A24.out).mono ?_); (case side1 => exact kc HR0_0 HB); (case side2 => exact HC0_0.out); rintro e w33 ⟨v511, rfl, ho0, hb⟩; refine ⟨_, rfl, ?_⟩; have HO512 := Aside0.mk (Kd.R_lower ho0 (below_size (tb HB))); replace BK505 := bb BK505 hb; replace BK506 := bb BK506 hb; replace BK507 := bb BK507 hb; replace HB := bs HB hb; (try clear hb); (try clear hb2); (try clear hk); (try clear hi); (try clear ho0); obtain ⟨hcz34_0, hcz34_1, hfz34_0, hfz34_1⟩ := c2 BK507; obtain ⟨Ao35, co35, eo35⟩ := Kd.R_slice HO512.out; subst eo35) | (go_at_call 118; (with_reducible refine (spec_l4Ints.calls kj3 _ _ t510 _ _ l2_1 t514 _ ?side1 ?side2 ?side3 ?side4 A26.out).mono ?_); (case side1 => repeat (first | exact (Kd.R_reads' HO512.out).2.2 | (with_reducible refine Kd.C_alloc ?_ _) | (with_reducible refine Kd.C_drewN ?_ _) | (with_reducible refine Kd.C_drew ?_))); (case side2 => exact (Kd.R_reads' HO512.out).2.1); (case side3 => exact kc HR2_1 HB); (case side4 => exact HC2_1.out); rintro e w' ⟨rfl, ⟨nd, rfl⟩⟩))
      go_ret
      exact ⟨er, tb HB⟩
     ·replace c25 := Bool.eq_false_iff.mpr c25
      subst c25
      have H1 : (some false) = some r := by rw [if_neg (show ¬ (false = true) by decide)] at H; exact H
      clear H
      have H := H1
      clear H1
      obtain rfl := Option.some.inj H
      have hnb36 := NB507_505.out
      have hnc36 := NB505_507.out
      have hnb37 := NB507_506.out
      have hnc37 := NB506_507.out
      obtain ⟨hcz38_0, hcz38_1, hfz38_0, hfz38_1⟩ := c2 BK507
      have hnb39 := NB505_506.out
      have hnc39 := NB506_505.out
      obtain ⟨hcz40_0, hcz40_1, hfz40_0, hfz40_1⟩ := c2 BK505
      obtain ⟨hcz41_0, hcz41_1, hcz41_2, hfz41_0, hfz41_1, hfz41_2⟩ := c3 BK506
      go_wp2_with (first | ((with_reducible refine gate_callee (f := 117) rfl ?_); refine gL 34 Try.func117 #[.agg #[.slice A0_0 l0_0.length c0_0, .int .i64 a0_1], .agg #[.int .i64 a1_0, .int .i64 a1_1, .int .i64 a1_2]] ?_; (with_reducible refine (spec_l4Done.calls kj3 _ _ l0_0 a0_1 a1_0 a1_1 a1_2 t510 false _ ?side1 ?side2 A24.out).mono ?_); (case side1 => exact kc HR0_0 HB); (case side2 => exact HC0_0.out); rintro e w42 ⟨v511, rfl, ho0, hb⟩; refine ⟨_, rfl, ?_⟩; have HO512 := Aside0.mk (Kd.R_lower ho0 (below_size (tb HB))); replace BK505 := bb BK505 hb; replace BK506 := bb BK506 hb; replace BK507 := bb BK507 hb; replace HB := bs HB hb; (try clear hb); (try clear hb2); (try clear hk); (try clear hi); (try clear ho0)))
      go_ret
      exact ⟨er, tb HB⟩
    ·rw [if_neg c23] at H
     have c23b0 : (a2_0 == 0) = false := beq_eq_false_iff_ne.mpr c23
     have c23b1 : (a2_0 != 0) = true := bne_iff_ne.mpr c23
     by_cases c43 : (l2_1.length : Int) = 0
     ·rw [if_pos c43] at H
      have c43b0 : ((l2_1.length : Int) == 0) = true := beq_iff_eq.mpr c43
      have c43b1 : ((l2_1.length : Int) != 0) = false := bne_eq_false_iff_eq.mpr c43
      clear c43
      replace H := Option.bind_eq_some_iff.mp H
      obtain ⟨t515, A440, H⟩ := H
      replace H : (some t515) = some r := H
      have A44 := Aside0.mk A440
      clear A440
      obtain rfl := Option.some.inj H
      have hnb45 := NB507_505.out
      have hnc45 := NB505_507.out
      have hnb46 := NB507_506.out
      have hnc46 := NB506_507.out
      obtain ⟨hcz47_0, hcz47_1, hfz47_0, hfz47_1⟩ := c2 BK507
      have hnb48 := NB505_506.out
      have hnc48 := NB506_505.out
      obtain ⟨hcz49_0, hcz49_1, hfz49_0, hfz49_1⟩ := c2 BK505
      obtain ⟨hcz50_0, hcz50_1, hcz50_2, hfz50_0, hfz50_1, hfz50_2⟩ := c3 BK506
      go_wp2_with (first | (go_at_call 116; (with_reducible refine (spec_l4Fails.calls kj3 _ _ l0_0 a0_1 a1_0 a1_1 a1_2 a2_0 t515 _ ?side1 ?side2 A44.out).mono ?_); (case side1 => exact kc HR0_0 HB); (case side2 => exact HC0_0.out); rintro e w51 ⟨rfl, hb⟩; replace BK505 := bb BK505 hb; replace BK506 := bb BK506 hb; replace BK507 := bb BK507 hb; replace HB := bs HB hb; (try clear hb); (try clear hb2); (try clear hk); (try clear hi)))
      go_ret
      exact ⟨er, tb HB⟩
     ·rw [if_neg c43] at H
      have c43b0 : ((l2_1.length : Int) == 0) = false := beq_eq_false_iff_ne.mpr c43
      have c43b1 : ((l2_1.length : Int) != 0) = true := bne_iff_ne.mpr c43
      have c43b2 : ¬ (l2_1 = []) := fun h_ => c43 (by rw [h_]; rfl)
      obtain rfl := Option.some.inj H
      have hnb52 := NB507_505.out
      have hnc52 := NB505_507.out
      have hnb53 := NB507_506.out
      have hnc53 := NB506_507.out
      obtain ⟨hcz54_0, hcz54_1, hfz54_0, hfz54_1⟩ := c2 BK507
      go_wp2
      go_ret
      exact ⟨er, tb HB⟩
def spec_l3Copy.f (l0_0 : List Int) (a0_1 : Int) : Option (List Int × Int) := (some (([] : List Int) : List Int)).bind fun y518 => (if y518.length + l0_0.length < 17592186044416 then (some ((y518 ++ l0_0), a0_1)) else (none))
def spec_l3Copy.T1 : Bool × List (List Nat × List Nat) := (true, [([], []), ([], []), ([1], [1]), ([0, 2], [0, 2]), ([], []), ([4], [4]), ([3, 5], [3, 5]), ([6, 3, 0, 1, 2, 3, 4, 5, 6], [6])])
def spec_l3Copy.B1 : List Nat := [0, 0, 2, 7, 0, 16, 63, 127]
theorem spec_l3Copy.tab1 : rtab .any (opsOf Try.f103 1) = spec_l3Copy.T1 := by kernel_rfl
theorem spec_l3Copy.bits1 : waitsOk spec_l3Copy.T1.2 spec_l3Copy.B1 = true := by kernel_rfl
set_option maxHeartbeats 8000000 in
set_option maxRecDepth 100000 in
theorem spec_l3Copy.calls (A0_0 : Option Addr) (c0_0 : Nat) (l0_0 : List Int) (a0_1 : Int) (r1 : List Int) (r2 : Int) (w : World) (hr0_0 : Kd.C (Kd.int .i64) w A0_0 l0_0.length l0_0) (hc0_0 : l0_0.length ≤ c0_0) (h : spec_l3Copy.f l0_0 a0_1 = some (r1, r2)) :
  Calls Try.prog 103 #[.agg #[.slice A0_0 l0_0.length c0_0, .int .i64 a0_1]] w fun e w' => ∃ v0_ : Value, e = .returned (.agg #[v0_, .int .i64 r2]) ∧ Kd.R (Kd.int .i64) 3 w' w.heap.size (fun _ => True) v0_ r1 ∧ Below w.heap.size w w' := by
 have hu65 := Try.underlying65
 have HR0_0 := Aside0.mk hr0_0
 have HC0_0 := Aside0.mk hc0_0
 clear hr0_0 hc0_0
 have HB := Aside0.mk (Below.refl w.heap.size w)
 have H : ((some (([] : List Int) : List Int)).bind fun y518 => (if y518.length + l0_0.length < 17592186044416 then (some ((y518 ++ l0_0), a0_1)) else (none))) = some (r1, r2) := h
 clear h
 obtain ⟨y518, hy518⟩ : ∃ y_ : List Int, y_ = (([] : List Int)) := ⟨_, rfl⟩
 replace H : (if y518.length + l0_0.length < 17592186044416 then (some ((y518 ++ l0_0), a0_1)) else (none)) = some (r1, r2) := by first | (rw [hy518]; with_reducible exact H) | (have H2_ := (Option.bind_some _ _).symm.trans H; rw [hy518]; with_reducible exact H2_) | (have H2_ := (Option.bind_some _ _).symm.trans H; with_reducible exact H2_) | with_reducible exact H | (rw [hy518]; exact H) | exact H
 have Ny518 := Aside0.mk hy518
 clear hy518
 by_cases c2 : y518.length + l0_0.length < 17592186044416
 ·rw [if_pos c2] at H
  have LMc2 := Aside0.mk c2
  clear c2
  obtain ⟨y521, hy521⟩ : ∃ y_ : List Int, y_ = (y518 ++ l0_0) := ⟨_, rfl⟩
  replace H : (some (y521, a0_1)) = some (r1, r2) := by first | (rw [hy521]; with_reducible exact H) | (have H2_ := (Option.bind_some _ _).symm.trans H; rw [hy521]; with_reducible exact H2_) | (have H2_ := (Option.bind_some _ _).symm.trans H; with_reducible exact H2_) | with_reducible exact H | (rw [hy521]; exact H) | exact H
  have Ny521 := Aside0.mk hy521
  clear hy521
  simp only [Option.some.injEq, Prod.mk.injEq] at H
  obtain ⟨rfl, rfl⟩ := H
  go_enter Try.func103, Try.ntmps103
  try go_wp2_with (first | ((with_reducible refine gate_dst (N := 1) rfl ?_); refine bx (N := 1) (cs := #[.slice A0_0 l0_0.length c0_0, .int .i64 a0_1]) (t := 65) ?_; intro gb516 hg w3 hbox hb; have BK516 := Aside0.mk (hbox); have GW516 := Aside0.mk (ge_ hg HB); have GE516 := Aside0.mk (ge_ hg HB); replace HB := bs HB hb; clear hb hbox hg) | ((with_reducible refine gate_dst (N := 2) rfl ?_); refine bx (N := 2) (cs := #[.slice none 0 0, .int .i64 0]) (t := 65) ?_; intro gb517 hg w4 hbox hb; have BK517 := Aside0.mk (hbox); have GW517 := Aside0.mk (ge_ hg HB); have GE517 := Aside0.mk (ge_ hg HB); replace HB := bs HB hb; have NB516_517 := Aside0.mk (nl_ hg BK516); have NB517_516 := Aside0.mk (ng_ hg BK516); replace BK516 := bb BK516 hb; clear hb hbox hg))
  replace BK516 := bd BK516
  replace BK517 := bd BK517
  replace HB := Aside0.mk (below_drew1 HB.out)
  refine start_ (n := 8) (S := fun w' => w'.cell? ⟨gb516, 0, none⟩ = some (.slice A0_0 l0_0.length c0_0) ∧ w'.cell? ⟨gb516, 1, none⟩ = some (.int .i64 a0_1)) (ds := []) #[false, false, false, false, false, false, false, false] (by kernel_rfl) rfl rfl ⟨cz BK516 0, cz BK516 1⟩ (fun hHeld => ?_); refine with_tabW spec_l3Copy.tab1 spec_l3Copy.bits1 (fun HT_ HW_ => ?_)
  generalize w4.drew = w5 at BK516 BK517 HB hHeld ⊢
  refine pu 1 4 ?_
  refine pu 4 7 ?_
  refine ta 2 5 ?_
  refine ta 5 8 ?_
  refine one_ (i := 0) (N := some 3) #[true, true, true, false, true, true, false, false] rfl rfl (one_of HT_.out (by kernel_rfl)) (by decide) (fun K hK => ?_)
  refine Kd.R_lit_step (Kd.int .i64) _ 3 ?hg (N := 3) ?hd (xs := ([] : List Int)) (inner := []) (ok := fun _ => True) (okp := fun _ => True) ?hr ?hp (fun _ hk => hk) trivial (Below.refl _ _) (Nat.le_refl _) (by simp) ?_; (case hd => rfl); (case hg => rfl); (case hr => first | (go_simp; done) | (go_simp; rfl)); (case hp => exact (Reps.none _ _))
  intro v519 w6 ho7 hb hg_ hnew_
  clear hg_ hnew_
  (first | rw [← Ny518.out] at ho7 | (simp only [Int.reduceToNat] at ho7; rw [← Ny518.out] at ho7))
  have HO520 := Aside0.mk (Kd.R_lower ho7 (below_size (tb HB)))
  replace BK516 := bb BK516 hb
  replace BK517 := bb BK517 hb
  replace HB := bs HB hb
  clear hb ho7
  refine hK.out _ _ ⟨cz BK516 0, cz BK516 1⟩ (fun hHeld => ?_)
  clear hK K
  refine nm 3 ?_
  refine one_ (i := 3) (N := some 6) #[true, true, true, true, true, true, false, false] rfl rfl (one_of HT_.out (by kernel_rfl)) (by decide) (fun K hK => ?_)
  refine Kd.R_append_rows_step (Kd.int .i64) (w0 := w) w.heap.size (by rfl) (.tmp 3) (.tmp 5) 22 3 (.int .i64 0) 8 rfl Try.underlying22 info3 rfl (by decide) (by omega) v519 y518 l0_0 _ _ _ (fun _ => True) (fun _ => False) rfl rfl ?aO ?aR (fun _ _ h => h) (fun _ h => h.elim) ?aF ?aB ?aS ?aL ?_
  (case aR => repeat (first | exact (Kd.C_below HR0_0.out HB.out) | (with_reducible refine Kd.C_alloc ?_ _) | (with_reducible refine Kd.C_drewN ?_ _) | (with_reducible refine Kd.C_drew ?_)))
  (case aB => exact (tb HB))
  (case aF => exact (fun _ _ => trivial))
  (case aO => exact (kr HO520.out))
  (case aS => exact (below_size (tb HB)))
  (case aL => have := LMc2.out; omega)
  intro v522 w8 ho hb hg hat
  rw [← Ny521.out] at ho
  replace BK516 := Aside0.mk (blk_grown (g := gb516) (o := .cells #[.slice A0_0 l0_0.length c0_0, .int .i64 a0_1] 65 (0, 0)) (bk BK516) hg (Kd.R_ne HO520.out BK516.out (by decide)))
  replace BK517 := Aside0.mk (blk_grown (g := gb517) (o := .cells #[.slice none 0 0, .int .i64 0] 65 (0, 0)) (bk BK517) hg (Kd.R_ne HO520.out BK517.out (by decide)))
  replace HB := Aside0.mk (hb)
  have HO523 := Aside0.mk (ho)
  clear HO520
  clear ho hb hg hat
  obtain ⟨Ao9, co9, eo9⟩ := Kd.R_slice HO523.out
  (first | subst eo9 | (injection eo9 with f1_ f2_ f3_; have f4_ := f1_.symm; have f5_ := f3_.symm; clear f1_ f2_ f3_; subst f4_; subst f5_))
  refine hK.out _ _ ⟨cz BK516 0, cz BK516 1⟩ (fun hHeld => ?_)
  clear hK K
  refine nm 6 ?_
  refine pu 6 9 ?_
  refine one_ (i := 7) (N := none) #[true, true, true, true, true, true, true, true] rfl rfl (one_of HT_.out (by kernel_rfl)) (by decide) (fun K hK => ?_)
  have hs10 : w8.cell? ⟨gb517, 0, none⟩ = some (.slice none 0 0) := cz BK517 0
  have hfs10 := blk_frozen BK517.out 0
  have hns10_0 := NB516_517.out
  have hms10_0 := NB517_516.out
  have hs11 : w8.cell? ⟨gb517, 1, none⟩ = some (.int .i64 0) := cz BK517 1
  have hfs11 := blk_frozen BK517.out 1
  have hns11_0 := NB516_517.out
  have hms11_0 := NB517_516.out
  refine skip_ (w1 := ?_) (by rfl) rfl ?_ ?_
  rotate_left
  ·go_simp
   rfl
  refine hK.out _ _ ⟨((cell_far (p := ⟨gb517, _, none⟩) NB516_517.out _).trans (((cell_far (p := ⟨gb517, _, none⟩) NB516_517.out _).trans (hHeld.1)))), ((cell_far (p := ⟨gb517, _, none⟩) NB516_517.out _).trans (((cell_far (p := ⟨gb517, _, none⟩) NB516_517.out _).trans (hHeld.2))))⟩ (fun hHeld => ?_)
  clear hK K
  refine done_ (done_of HT_.out (by kernel_rfl)) ?_
  try go_wp2
  refine bodyPost_ret (results_cell_row rfl _ _ gb517 65 #[.slice Ao9 y521.length co9, .int .i64 a0_1] (0, 0) _ rfl (by (with_reducible repeat (first | refine blk_drewN ?_ _ | refine blk_drew ?_ | refine blk_alloc ?_ _)); refine blk_put (cs := #[.slice Ao9 y521.length co9, .int .i64 0]) ?_ 1 _ rfl; (with_reducible repeat (first | refine blk_drewN ?_ _ | refine blk_drew ?_ | refine blk_alloc ?_ _)); refine blk_put (cs := #[.slice none 0 0, .int .i64 0]) ?_ 0 _ rfl; (with_reducible repeat (first | refine blk_drewN ?_ _ | refine blk_drew ?_ | refine blk_alloc ?_ _)); exact BK517.out) Try.underlying65 rfl (by kernel_rfl)) rfl ?_
  exact ⟨_, er, by (with_reducible repeat (first | apply Kd.R_alloc | apply Kd.R_drewN | apply Kd.R_drew)); exact Kd.R_mono (Kd.R_far (p := ⟨gb517, 1, none⟩) (Kd.R_far (p := ⟨gb517, 0, none⟩) (Kd.R_types HO523.out BK517.out (by decide)) (fun _ hk => hk.2) (.slice Ao9 y521.length co9)) (fun _ hk => hk.2) (.int .i64 a0_1)) (fun _ hk => trivial), tb HB⟩
 ·rw [if_neg c2] at H
  exact absurd H (by simp)
end Go.Proofs.Ytopikhjcbcpiaaa.Q
