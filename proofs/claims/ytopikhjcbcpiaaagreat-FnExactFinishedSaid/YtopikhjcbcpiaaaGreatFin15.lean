/- Part 15 of the steps by which the law is shown: what each function of the program, of the reference and of the law computes. No condition. -/
import Derived.Test.YtopikhjcbcpiaaaGreatFin0
import Derived.Test.YtopikhjcbcpiaaaGreatFin1
import Derived.Test.YtopikhjcbcpiaaaGreatFin4
import Derived.Test.YtopikhjcbcpiaaaGreatFin10
import Derived.Test.YtopikhjcbcpiaaaGreatFin14
section
/- The law's helpers for machines: sizes, copies, comparisons. -/
namespace Go.Proofs.YtopikhjcbcpiaaaGreat.Q
open Go.RowKit Go.Proofs.YtopikhjcbcpiaaaGreatW.PrintWords Go.Proofs.YtopikhjcbcpiaaaGreatX

theorem sz_then {g : Nat → Option Int} {f : Nat → Int → Option Int} {P Q : Int → Prop} (h : ∃ r, Ev g r ∧ (r < 0 ∨ P r)) (hf : ∀ r, P r → ¬ r < 0 ∧ ∃ q, Ev (fun k => f k r) q ∧ (q < 0 ∨ Q q)) :
    ∃ q, Ev (fun k => (g k).bind fun t => if t < 0 then some (-1) else f k t) q ∧ (q < 0 ∨ Q q) := by
  obtain ⟨r, hr, hc⟩ := h
  by_cases hn : r < 0
  · exact ⟨-1, Ev.bind hr (ev_pos hn (Ev.now _)), .inl (by omega)⟩
  · obtain ⟨hn', q, hq, hc'⟩ := hf r (hc.resolve_left hn)
    exact ⟨q, Ev.bind hr (ev_neg hn hq), hc'⟩
theorem szWordS_ok (l : List S207) (a : Int) (h0 : 0 ≤ a) (h1 : a ≤ 1048576) (hl : l.length ≤ 9223372036854775807) : ∃ r, Ev (fun _ => laws_szWordS.f l a) r ∧ (r < 0 ∨ (0 ≤ r ∧ r ≤ 1048576 ∧ l.length ≤ 1048576)) := by
  refine ⟨_, ev_of (fun _ => szWordS l a h0 h1 hl), ?_⟩
  by_cases h : a < l.length
  · rw [if_pos h]; exact .inl (by omega)
  · rw [if_neg h]; exact .inr (by omega)
theorem szIntS_ok (l : List Int) (a : Int) (h0 : 0 ≤ a) (h1 : a ≤ 1048576) (hl : l.length ≤ 9223372036854775807) : ∃ r, Ev (fun _ => laws_szIntS.f l a) r ∧ (r < 0 ∨ (0 ≤ r ∧ r ≤ 1048576 ∧ l.length ≤ 1048576)) := by
  refine ⟨_, ev_of (fun _ => szIntS l a h0 h1 hl), ?_⟩
  by_cases h : a < l.length
  · rw [if_pos h]; exact .inl (by omega)
  · rw [if_neg h]; exact .inr (by omega)
structure FitA (x : S68) : Prop where
  w : x.f0.f0.length ≤ 1048576
  d : x.f0.f1.length ≤ 1048576
  di : ∀ y ∈ x.f0.f1, fitADesc y
  t : x.f1.length ≤ 1048576
  ti : ∀ y ∈ x.f1, fitAThread y
  c : x.f3.length ≤ 1048576
  ci : ∀ y ∈ x.f3, fitACall y
  o : x.f4.length ≤ 1048576
  h : x.f5.f0.length ≤ 1048576
theorem szMachine_ok (x : S68) (ok : ok68 x) : ∃ r, Ev (fun k => laws_szMachine.f k x.f0.f0 x.f0.f1 x.f1 x.f2 x.f3 x.f4 x.f5.f0 x.f5.f1 1048576) r ∧ (r < 0 ∨ FitA x) := by
  obtain ⟨⟨⟨ow, _⟩, od, odi⟩, ⟨ot, oti⟩, _, ⟨oc, oci⟩, ⟨oo, _⟩, ⟨oh, _⟩, _⟩ := ok
  have hmem : ∃ r, Ev (fun k => laws_szMem.f k x.f0.f0 x.f0.f1 1048576) r ∧ (r < 0 ∨ (0 ≤ r ∧ r ≤ 1048576 ∧ x.f0.f0.length ≤ 1048576 ∧ x.f0.f1.length ≤ 1048576 ∧ ∀ y ∈ x.f0.f1, fitADesc y)) := by
    unfold laws_szMem.f
    refine sz_then (szWordS_ok _ _ (by omega) (by omega) ow) (fun r hr => ⟨by omega, ?_⟩)
    refine sz_then (P := fun q => 0 ≤ q ∧ q ≤ r ∧ x.f0.f1.length ≤ 1048576 ∧ ∀ y ∈ x.f0.f1, fitADesc y) (szDescS_ok _ _ hr.1 hr.2.1 od (fun y hy => ⟨(odi y hy).2.2.1.1, (odi y hy).2.2.2.2.1⟩)) (fun q hq => ⟨by omega, q, Ev.now _, .inr ⟨hq.1, by omega, hr.2.2, hq.2.2.1, hq.2.2.2⟩⟩)
  unfold laws_szMachine.f
  refine sz_then hmem (fun r hr => ⟨by omega, ?_⟩)
  refine sz_then (szThreadS_ok x.f1 r hr.1 hr.2.1 ot (fun y hy => ⟨(oti y hy).1.1, (oti y hy).2.2.2.1.1, (oti y hy).2.2.2.2.1⟩)) (fun r2 hr2 => ⟨by omega, ?_⟩)
  refine sz_then (szCallS_ok x.f3 r2 hr2.1 (by omega) oc (fun y hy => (oci y hy).2.2.2.2.2.2.1)) (fun r3 hr3 => ⟨by omega, ?_⟩)
  refine sz_then (szIntS_ok x.f4 r3 hr3.1 (by omega) oo) (fun r4 hr4 => ⟨by omega, ?_⟩)
  have hrows : ∃ r, Ev (fun _ => laws_szRows.f x.f5.f0 x.f5.f1 r4) r ∧ (r < 0 ∨ (0 ≤ r ∧ r ≤ 1048576 ∧ x.f5.f0.length ≤ 1048576)) := by
    unfold laws_szRows.f
    exact sz_then (szIntS_ok x.f5.f0 r4 hr4.1 hr4.2.1 oh) (fun q hq => ⟨by omega, q, Ev.now _, .inr hq⟩)
  exact sz_then hrows (fun r5 hr5 => ⟨by omega, r5, Ev.now _, .inr ⟨hr.2.2.1, hr.2.2.2.1, hr.2.2.2.2, hr2.2.2.1, hr2.2.2.2, hr3.2.2.1, hr3.2.2.2, hr4.2.2, hr5.2.2⟩⟩)
theorem ev_toMachine (x : S68) (F : FitA x) : Ev (fun k => laws_toMachine.f k x.f0.f0 x.f0.f1 x.f1 x.f2 x.f3 x.f4 x.f5.f0 x.f5.f1) (x.f0.f0.map cvWord, x.f0.f1.map cvDesc, x.f1.map cvThread, x.f2, x.f3.map cvCall, x.f4, x.f5.f0, x.f5.f1) := by
  have hm : Ev (fun k => laws_toMem.f k x.f0.f0 x.f0.f1) (x.f0.f0.map cvWord, x.f0.f1.map cvDesc) := by
    unfold laws_toMem.f
    exact Ev.bind (ev_toWordS _ F.w) (Ev.bind (ev_toDescS _ F.d F.di) (Ev.now _))
  have hr : Ev (fun k => laws_toRows.f k x.f5.f0 x.f5.f1) (x.f5.f0, x.f5.f1) := by
    unfold laws_toRows.f
    exact Ev.bind (ev_toIntS _ F.h) (Ev.now _)
  unfold laws_toMachine.f
  exact Ev.bind hm (Ev.bind (ev_toThreadS _ F.t F.ti) (Ev.bind (ev_toCallS _ F.c F.ci) (Ev.bind (ev_toIntS _ F.o) (Ev.bind hr (Ev.now _)))))
theorem fit_machine (x : S68) (F : FitA x) : FitM (x.f0.f0.map cvWord) (x.f0.f1.map cvDesc) (x.f1.map cvThread) (x.f3.map cvCall) x.f4 x.f5.f0 where
  w := by simpa using F.w
  d := by simpa using F.d
  di := by
    intro y hy
    obtain ⟨z, hz, rfl⟩ := List.mem_map.1 hy
    exact (fit_cvDesc z (F.di z hz)).1
  t := by simpa using F.t
  ti := by
    intro y hy
    obtain ⟨z, hz, rfl⟩ := List.mem_map.1 hy
    exact fit_cvThread z (F.ti z hz)
  c := by simpa using F.c
  o := F.o
  h := F.h
theorem ev_eqMachine (x : S68) (F : FitA x) (time st : Int) : Ev (fun k => laws_eqMachine.f k (x.f0.f0.map cvWord) (x.f0.f1.map cvDesc) (x.f1.map cvThread) time (x.f3.map cvCall) x.f4 x.f5.f0 st (x.f0.f0.map cvWord) (x.f0.f1.map cvDesc) (x.f1.map cvThread) time (x.f3.map cvCall) x.f4 x.f5.f0 st) true := by
  have hm : Ev (fun k => laws_eqMem.f k (x.f0.f0.map cvWord) (x.f0.f1.map cvDesc) (x.f0.f0.map cvWord) (x.f0.f1.map cvDesc)) true := by
    unfold laws_eqMem.f
    refine Ev.bind (ev_eqWordS _ (by simpa using F.w)) (ev_pos rfl (Ev.bind (ev_eqDescS _ (by simpa using F.d) (fun y hy => ?_)) (ev_pos rfl (Ev.now _))))
    obtain ⟨z, hz, rfl⟩ := List.mem_map.1 hy
    exact fit_cvDesc z (F.di z hz)
  have ht : Ev (fun k => laws_eqThreadS.f k (x.f1.map cvThread) (x.f1.map cvThread)) true := by
    refine ev_eqThreadS _ (by simpa using F.t) (fun y hy => ?_)
    obtain ⟨z, hz, rfl⟩ := List.mem_map.1 hy
    exact fit_cvThread z (F.ti z hz)
  have hc : Ev (fun k => laws_eqCallS.f k (x.f3.map cvCall) (x.f3.map cvCall)) true := by
    refine ev_eqCallS _ (by simpa using F.c) (fun y hy => ?_)
    obtain ⟨z, hz, rfl⟩ := List.mem_map.1 hy
    exact fit_cvCall z (F.ci z hz)
  have hr : Ev (fun k => laws_eqRows.f k x.f5.f0 st x.f5.f0 st) true := by
    unfold laws_eqRows.f
    exact Ev.bind (ev_eqIntS _ F.h) (ev_pos rfl (ev_pos rfl (Ev.now _)))
  unfold laws_eqMachine.f
  exact Ev.bind hm (ev_pos rfl (Ev.bind ht (ev_pos rfl (ev_pos rfl (Ev.bind hc (ev_pos rfl (Ev.bind (ev_eqIntS _ F.o) (ev_pos rfl (Ev.bind hr (ev_pos rfl (Ev.now _)))))))))))
end Go.Proofs.YtopikhjcbcpiaaaGreat.Q
end
