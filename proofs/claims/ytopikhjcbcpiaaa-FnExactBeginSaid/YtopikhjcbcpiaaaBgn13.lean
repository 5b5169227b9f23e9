/- Part 13 of the steps by which the law is shown: what each function of the program, of the reference and of the law computes. No condition. -/
import Derived.Test.YtopikhjcbcpiaaaBgn0
import Derived.Test.YtopikhjcbcpiaaaBgn2
import Derived.Test.YtopikhjcbcpiaaaBgn7
import Derived.Test.YtopikhjcbcpiaaaBgn8
import Derived.Test.YtopikhjcbcpiaaaBgn9
import Derived.Test.YtopikhjcbcpiaaaBgn10
import Derived.Test.YtopikhjcbcpiaaaBgn11
import Derived.Test.YtopikhjcbcpiaaaBgn12
section
/- Copies of a memory, its sizes and its marks: both sides' helpers. -/
namespace Go.Proofs.Ytopikhjcbcpiaaa.Q
set_option linter.unusedSimpArgs false
open Go.RowKit Go.Proofs.YtopikhjcbcpiaaaW.PrintWords Go.Proofs.YtopikhjcbcpiaaaX
theorem l6Res_eq (c : Int) (l : List Int) (h : l.length ≤ 1048576) : spec_l6Res.f c l = some (c, l) := by
  simp only [spec_l6Res.f, Option.bind_some, List.nil_append, List.length_nil]; rw [if_pos (by omega)]
theorem l6Desc_eq (x : S145) (h : fitE x) : spec_l6Desc.f x.f0 x.f1 x.f2 x.f3.f0 x.f3.f1 = some (x.f0, x.f1, x.f2, x.f3.f0, x.f3.f1) := by
  have h1 := h.1
  simp only [spec_l6Desc.f, Option.bind_some, List.nil_append, List.length_nil, l6Res_eq _ _ h.2]; rw [if_pos (by omega)]
theorem copyRes_eq (c : Int) (l : List Int) (h : l.length ≤ 1048576) : impl_copyRes.f c l = some (c, l) := by
  simp only [impl_copyRes.f, slices_Clone_int_int.f]; rw [if_pos (by omega)]; rfl
theorem cloneE_eq (l : List S166) (h : l.length ≤ 1048576) : impl_Entry.f l = some l := by unfold impl_Entry.f; rw [if_pos (by omega)]
theorem ev_l6Descs (l : List S145) (hl : l.length ≤ 1048576) (hf : ∀ x ∈ l, fitE x) : Ev (fun k => spec_l6Descs.f k l) l := by
  have key : ∀ (r p : List S145), p ++ r = l → Ev (fun k => spec_l6Descs.l0 k l p (p.length : Int)) l := by
    intro r
    induction r with
    | nil =>
      intro p hp
      simp only [List.append_nil] at hp
      subst hp
      refine ev_succ (fun k => ?_)
      simp only [spec_l6Descs.l0]; rw [if_neg (by omega)]
    | cons x r ih =>
      intro p hp
      have hlen : p.length < l.length := by rw [← hp]; simp
      have hx : fitE x := hf x (by rw [← hp]; simp)
      have h := ih (p ++ [x]) (by rw [← hp]; simp)
      refine Ev.step (fun k => ?_) h
      have e0 : rd_T145 l (p.length : Int) = x := by rw [← hp]; exact at145 p x r
      simp only [spec_l6Descs.l0, e0, l6Desc_eq x hx, Option.bind_some]
      rw [if_pos (by omega), if_pos (by omega), if_pos (by omega), next_at p x (by omega)]
  simpa [spec_l6Descs.f] using key l [] rfl
theorem ev_l7Copy (ws : List S141) (ds : List S145) (hw : ws.length ≤ 1048576) (hd : ds.length ≤ 1048576) (hf : ∀ x ∈ ds, fitE x) : Ev (fun k => spec_l7Copy.f k ws ds) (ws, ds) := by
  unfold spec_l7Copy.f
  simp only [Option.bind_some, List.nil_append, List.length_nil]
  exact ev_pos (by omega) (Ev.bind (ev_l6Descs ds hd hf) (Ev.now _))
theorem ev_copyMem (ws : List S141) (ds : List S145) (hw : ws.length ≤ 1048576) (hd : ds.length ≤ 1048576) (hf : ∀ x ∈ ds, fitE x) : Ev (fun k => impl_copyMem.f k ws ds) (ws, ds) := by
  have key : ∀ (r p : List S145), p ++ r = ds → Ev (fun k => impl_copyMem.l0 k ds (ds.length : Int) (p.length : Int) ws p) (ws, ds) := by
    intro r
    induction r with
    | nil =>
      intro p hp
      simp only [List.append_nil] at hp
      subst hp
      refine ev_succ (fun k => ?_)
      simp only [impl_copyMem.l0]; rw [if_neg (by omega)]
    | cons x r ih =>
      intro p hp
      have hlen : p.length < ds.length := by rw [← hp]; simp
      have hx : fitE x := hf x (by rw [← hp]; simp)
      have h := ih (p ++ [x]) (by rw [← hp]; simp)
      refine Ev.step (fun k => ?_) h
      have e0 : rd_T145 ds (p.length : Int) = x := by rw [← hp]; exact at145 p x r
      simp only [impl_copyMem.l0, e0, cloneE_eq _ hx.1, copyRes_eq _ _ hx.2, Option.bind_some]
      rw [if_pos (by omega), if_pos (by omega), if_pos (by omega), if_pos (by omega), next_at p x (by omega)]
  unfold impl_copyMem.f
  have hc : impl_Word_186.f ws = some ws := by unfold impl_Word_186.f; rw [if_pos (by omega)]
  simp only [hc, Option.bind_some]
  exact key ds [] rfl
theorem ev_toMem (l0 : List S143) (l1 : List S138) (h0 : l0.length ≤ 1048576) (h1 : l1.length ≤ 1048576) (hf : ∀ x ∈ l1, fitD x) : Ev (fun k => laws_toMem.f k l0 l1) (l0.map cvWord, l1.map cvDesc) := by
  unfold laws_toMem.f
  exact Ev.bind (ev_toWordS l0 h0) (Ev.bind (ev_toDescS l1 h1 hf) (Ev.now _))
theorem nxD_le (l : List S145) (m : Int) (hf : ∀ x ∈ l, fitE x) : nxD m l ≤ m + 4194307 * (l.length : Int) := by
  induction l generalizing m with
  | nil => simp [nxD]
  | cons x r ih =>
    have hx := hf x List.mem_cons_self
    have h1 := hx.1; have h2 := hx.2
    have := ih (nx1 m x) (fun y hy => hf y (List.mem_cons_of_mem _ hy))
    show nxD (nx1 m x) r ≤ _
    simp only [List.length_cons]
    unfold nx1 at this ⊢
    omega
/-- A memory's size: either it is too great, or all its parts are small. -/
theorem szMem_ok (l0 : List S143) (l1 : List S138) (hl0 : l0.length ≤ 9223372036854775807) (hl1 : l1.length ≤ 9223372036854775807) (ho : ∀ x ∈ l1, x.f2.length ≤ 9223372036854775807 ∧ x.f3.f1.length ≤ 9223372036854775807) :
    ∃ r, Ev (fun k => laws_szMem.f k l0 l1 1048576) r ∧ (r < 0 ∨ (0 ≤ r ∧ r ≤ 1048576 ∧ l0.length ≤ 1048576 ∧ l1.length ≤ 1048576 ∧ ∀ x ∈ l1, fitD x)) := by
  unfold laws_szMem.f
  rw [szWordS l0 1048576 (by omega) (by omega) hl0]
  by_cases h1 : (1048576 : Int) < l0.length
  · exact ⟨-1, ev_of fun k => by simp [h1], .inl (by omega)⟩
  · simp only [if_neg h1, Option.bind_some]
    obtain ⟨r, hr, hc⟩ := szDescS_ok l1 (1048576 - (l0.length : Int)) (by omega) (by omega) hl1 ho
    rcases hc with hneg | ⟨r0, r1, hlen, hfit⟩
    · exact ⟨-1, ev_neg (by omega) (Ev.bind hr (ev_pos hneg (Ev.now _))), .inl (by omega)⟩
    · exact ⟨r, ev_neg (by omega) (Ev.bind hr (ev_neg (by omega) (Ev.now _))), .inr ⟨r0, by omega, by omega, hlen, hfit⟩⟩
end Go.Proofs.Ytopikhjcbcpiaaa.Q
end
section
namespace Go.Proofs.Ytopikhjcbcpiaaa.Q
open Go.RowKit Go.Proofs.YtopikhjcbcpiaaaW.PrintWords Go.Proofs.YtopikhjcbcpiaaaW.PrintLast Go.Proofs.YtopikhjcbcpiaaaW.PrintMore
set_option linter.unusedVariables false
def begNew (ds : List S145) (t : Int) (es : List S166) (code : Int) (rs : List Int) : List S145 := ds.set t.toNat ⟨wrap64 ((rd_T145 ds t).f0 + 1), 1, es, ⟨code, rs⟩⟩
def impl_Begin.Does (k : Nat) (ws : List S141) (ds : List S145) (t : Int) (es : List S166) (code : Int) (rs : List Int) (r1 : List S141) (r2 : List S145) (r3 r4 r5 r6 : Int) (r7 : Bool) : Prop :=
  impl_copyMem.f k ws ds = some (ws, ds) ∧ es.length ≤ 1048576 ∧
  ((impl_MemOk.f k ws ds = some false ∧ (ws = r1 ∧ ds = r2 ∧ 0 = r3 ∧ 0 = r4 ∧ 0 = r5 ∧ 0 = r6 ∧ false = r7)) ∨ (impl_MemOk.f k ws ds = some true ∧
   ((impl_from.f t 0 (wrap64 ((ds.length : Int) - 1)) = some false ∧ (ws = r1 ∧ ds = r2 ∧ 0 = r3 ∧ 0 = r4 ∧ 0 = r5 ∧ 0 = r6 ∧ false = r7)) ∨ (impl_from.f t 0 (wrap64 ((ds.length : Int) - 1)) = some true ∧
    ((impl_Begin_1_any.f ws t = some true ∧ (ws = r1 ∧ ds = r2 ∧ 0 = r3 ∧ 0 = r4 ∧ 0 = r5 ∧ 0 = r6 ∧ false = r7)) ∨ (impl_Begin_1_any.f ws t = some false ∧ 0 ≤ t ∧ t < (ds.length : Int) ∧ impl_Entry.f es = some es ∧ impl_copyRes.f code rs = some (code, rs) ∧
     ((impl_MemOk.f k ws (begNew ds t es code rs) = some false ∧ (ws = r1 ∧ ds = r2 ∧ 0 = r3 ∧ 0 = r4 ∧ 0 = r5 ∧ 0 = r6 ∧ false = r7)) ∨ (impl_MemOk.f k ws (begNew ds t es code rs) = some true ∧ (ws = r1 ∧ begNew ds t es code rs = r2 ∧ t = r3 ∧ wrap64 ((rd_T145 ds t).f0 + 1) = r4 ∧ 0 = r5 ∧ 0 = r6 ∧ true = r7)))))))))
theorem impl_Begin.calls (k : Nat) (A0 : Option Addr) (c0 : Nat) (ws : List S141) (A1 : Option Addr) (c1 : Nat) (ds : List S145) (t : Int) (A2 : Option Addr) (c2 : Nat) (es : List S166) (code : Int) (A3 : Option Addr) (c3 : Nat) (rs : List Int) (r1 : List S141) (r2 : List S145) (r3 : Int) (r4 : Int) (r5 : Int) (r6 : Int) (r7 : Bool) (w : World) (hr0 : Kd.C k141 w A0 ws.length ws) (hc0 : ws.length ≤ c0) (hr1 : Kd.C k145 w A1 ds.length ds) (hc1 : ds.length ≤ c1) (hr2 : Kd.C k166 w A2 es.length es) (hc2 : es.length ≤ c2) (hr3 : Kd.C (Kd.int .i64) w A3 rs.length rs) (hc3 : rs.length ≤ c3) (h : impl_Begin.Does k ws ds t es code rs r1 r2 r3 r4 r5 r6 r7) :
    Calls Try.prog 66 #[.agg #[.slice A0 ws.length c0, .slice A1 ds.length c1], .int .i64 t, .slice A2 es.length c2, .agg #[.int .i64 code, .slice A3 rs.length c3]] w fun e w' => ∃ v0_ v1_ : Value, e = .returned (.tuple #[.agg #[v0_, v1_], .agg #[.int .i64 r3, .int .i64 r4, .int .i64 r5, .int .i64 r6], .bool r7]) ∧ Kd.R k141 141 w' w.heap.size (fun _ => True) v0_ r1 ∧ Kd.S k145 145 w' w.heap.size (fun _ => True) v1_ r2 ∧ Below w.heap.size w w' := by
  obtain ⟨h1, hl, ⟨h2, rfl, rfl, rfl, rfl, rfl, rfl, rfl⟩ | ⟨h2, ⟨h3, rfl, rfl, rfl, rfl, rfl, rfl, rfl⟩ | ⟨h3, ⟨h4, rfl, rfl, rfl, rfl, rfl, rfl, rfl⟩ | ⟨h4, b0, b1, h5, h6, ⟨h7, rfl, rfl, rfl, rfl, rfl, rfl, rfl⟩ | ⟨h7, rfl, rfl, rfl, rfl, rfl, rfl, rfl⟩⟩⟩⟩⟩ := h
  · exact impl_Begin.way1 k A0 c0 ws A1 c1 ds t A2 c2 es code A3 c3 rs w hr0 hc0 hr1 hc1 hr2 hc2 hr3 hc3 h1 h2
  · exact impl_Begin.way2 k A0 c0 ws A1 c1 ds t A2 c2 es code A3 c3 rs w hr0 hc0 hr1 hc1 hr2 hc2 hr3 hc3 h1 h2 h3
  · exact impl_Begin.way3 k A0 c0 ws A1 c1 ds t A2 c2 es code A3 c3 rs w hr0 hc0 hr1 hc1 hr2 hc2 hr3 hc3 h1 h2 h3 h4
  · exact impl_Begin.way4 k A0 c0 ws A1 c1 ds t A2 c2 es code A3 c3 rs w hr0 hc0 hr1 hc1 hr2 hc2 hr3 hc3 h1 h2 h3 h4 h5 h6 h7 b0 b1 hl
  · exact impl_Begin.way5 k A0 c0 ws A1 c1 ds t A2 c2 es code A3 c3 rs w hr0 hc0 hr1 hc1 hr2 hc2 hr3 hc3 h1 h2 h3 h4 h5 h6 h7 b0 b1 hl
def spec_Begin.Does (k : Nat) (ws : List S141) (ds : List S145) (t : Int) (es : List S166) (code : Int) (rs : List Int) (r1 : List S141) (r2 : List S145) (r3 r4 r5 r6 : Int) (r7 : Bool) : Prop :=
  spec_l7Copy.f k ws ds = some (ws, ds) ∧ es.length ≤ 1048576 ∧
  ((spec_MemOk.f k ws ds = some false ∧ (ws = r1 ∧ ds = r2 ∧ 0 = r3 ∧ 0 = r4 ∧ 0 = r5 ∧ 0 = r6 ∧ false = r7)) ∨ (spec_MemOk.f k ws ds = some true ∧
   ((spec_l1In.f t 0 (wrap64 ((ds.length : Int) - 1)) = some false ∧ (ws = r1 ∧ ds = r2 ∧ 0 = r3 ∧ 0 = r4 ∧ 0 = r5 ∧ 0 = r6 ∧ false = r7)) ∨ (spec_l1In.f t 0 (wrap64 ((ds.length : Int) - 1)) = some true ∧
    ((spec_l7Marks.f k ws ds t = some true ∧ (ws = r1 ∧ ds = r2 ∧ 0 = r3 ∧ 0 = r4 ∧ 0 = r5 ∧ 0 = r6 ∧ false = r7)) ∨ (spec_l7Marks.f k ws ds t = some false ∧ 0 ≤ t ∧ t < (ds.length : Int) ∧ spec_l6Res.f code rs = some (code, rs) ∧
     ((spec_MemOk.f k ws (begNew ds t es code rs) = some false ∧ (ws = r1 ∧ ds = r2 ∧ 0 = r3 ∧ 0 = r4 ∧ 0 = r5 ∧ 0 = r6 ∧ false = r7)) ∨ (spec_MemOk.f k ws (begNew ds t es code rs) = some true ∧ (ws = r1 ∧ begNew ds t es code rs = r2 ∧ t = r3 ∧ wrap64 ((rd_T145 ds t).f0 + 1) = r4 ∧ 0 = r5 ∧ 0 = r6 ∧ true = r7)))))))))
theorem spec_Begin.calls (k : Nat) (A0 : Option Addr) (c0 : Nat) (ws : List S141) (A1 : Option Addr) (c1 : Nat) (ds : List S145) (t : Int) (A2 : Option Addr) (c2 : Nat) (es : List S166) (code : Int) (A3 : Option Addr) (c3 : Nat) (rs : List Int) (r1 : List S141) (r2 : List S145) (r3 : Int) (r4 : Int) (r5 : Int) (r6 : Int) (r7 : Bool) (w : World) (hr0 : Kd.C k141 w A0 ws.length ws) (hc0 : ws.length ≤ c0) (hr1 : Kd.C k145 w A1 ds.length ds) (hc1 : ds.length ≤ c1) (hr2 : Kd.C k166 w A2 es.length es) (hc2 : es.length ≤ c2) (hr3 : Kd.C (Kd.int .i64) w A3 rs.length rs) (hc3 : rs.length ≤ c3) (h : spec_Begin.Does k ws ds t es code rs r1 r2 r3 r4 r5 r6 r7) :
    Calls Try.prog 63 #[.agg #[.slice A0 ws.length c0, .slice A1 ds.length c1], .int .i64 t, .slice A2 es.length c2, .agg #[.int .i64 code, .slice A3 rs.length c3]] w fun e w' => ∃ v0_ v1_ : Value, e = .returned (.tuple #[.agg #[v0_, v1_], .agg #[.int .i64 r3, .int .i64 r4, .int .i64 r5, .int .i64 r6], .bool r7]) ∧ Kd.R k141 141 w' w.heap.size (fun _ => True) v0_ r1 ∧ Kd.S k145 145 w' w.heap.size (fun _ => True) v1_ r2 ∧ Below w.heap.size w w' := by
  obtain ⟨h1, hl, ⟨h2, rfl, rfl, rfl, rfl, rfl, rfl, rfl⟩ | ⟨h2, ⟨h3, rfl, rfl, rfl, rfl, rfl, rfl, rfl⟩ | ⟨h3, ⟨h4, rfl, rfl, rfl, rfl, rfl, rfl, rfl⟩ | ⟨h4, b0, b1, h6, ⟨h7, rfl, rfl, rfl, rfl, rfl, rfl, rfl⟩ | ⟨h7, rfl, rfl, rfl, rfl, rfl, rfl, rfl⟩⟩⟩⟩⟩ := h
  · exact spec_Begin.way1 k A0 c0 ws A1 c1 ds t A2 c2 es code A3 c3 rs w hr0 hc0 hr1 hc1 hr2 hc2 hr3 hc3 h1 h2
  · exact spec_Begin.way2 k A0 c0 ws A1 c1 ds t A2 c2 es code A3 c3 rs w hr0 hc0 hr1 hc1 hr2 hc2 hr3 hc3 h1 h2 h3
  · exact spec_Begin.way3 k A0 c0 ws A1 c1 ds t A2 c2 es code A3 c3 rs w hr0 hc0 hr1 hc1 hr2 hc2 hr3 hc3 h1 h2 h3 h4
  · exact spec_Begin.way4 k A0 c0 ws A1 c1 ds t A2 c2 es code A3 c3 rs w hr0 hc0 hr1 hc1 hr2 hc2 hr3 hc3 h1 h2 h3 h4 h6 h7 b0 b1 hl
  · exact spec_Begin.way5 k A0 c0 ws A1 c1 ds t A2 c2 es code A3 c3 rs w hr0 hc0 hr1 hc1 hr2 hc2 hr3 hc3 h1 h2 h3 h4 h6 h7 b0 b1 hl
end Go.Proofs.Ytopikhjcbcpiaaa.Q
end
