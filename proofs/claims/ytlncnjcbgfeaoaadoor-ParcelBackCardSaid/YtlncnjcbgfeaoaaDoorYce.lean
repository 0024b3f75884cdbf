/- A head that came in (parcels). -/
import Derived.Test.YtlncnjcbgfeaoaaDoorYbn
import Derived.Deep.Fields
set_option maxRecDepth 100000
set_option linter.unusedVariables false
namespace Go.Proofs.YtlncnjcbgfeaoaaDoor
open Go.ChangeShapes Go.WideShapes Go.ChangeAt Go.RowKit Go.Deep
theorem slice_shape {H : Type} {enc : TypeId × Value → H} {W : World} {fuel : Nat} {v : Value} {x : DataW H × List MemPlace}
    (h : DataW.trod enc Tryd.prog W 0 (fun _ => true) true fuel 23 [v] = some x) : ∃ a n c, v = .slice a n c := by
  rcases open_ints Tryd.underlying23 Tryd.underlying5 (by kernel_rfl) h with ⟨hcs, _⟩ | ⟨y, l, cc, zs, hcs, _⟩
  · simp at hcs; exact ⟨_, _, _, hcs⟩
  · simp at hcs; exact ⟨_, _, _, hcs⟩
theorem head_fields : ∃ f0 f1 f2 f3 f4 : Field, Tryd.prog.underlying 43 = some (.struct #[f0, f1, f2, f3, f4]) ∧ oneCellFields Tryd.prog #[f0, f1, f2, f3, f4] = true ∧ f0.type = 4 ∧ f1.type = 3 ∧ f2.type = 4 ∧ f3.type = 23 ∧ f4.type = 23 :=
  ⟨_, _, _, _, _, Tryd.underlying43, by kernel_rfl, rfl, rfl, rfl, rfl, rfl⟩
theorem head_cells {H : Type} {enc : TypeId × Value → H} {W : World} {fuel : Nat} {cs : List Value} {x : DataW H × List MemPlace} (hs : cs.length = 5)
    (h : DataW.trod enc Tryd.prog W 0 (fun _ => true) true fuel 43 cs = some x) :
    ∃ (l : Bool) (lv : Int) (ph : Bool) (a b : Option Addr) (n c m k : Nat) (t f : List UInt8), cs = [.bool l, .int .i64 lv, .bool ph, .slice a n c, .slice b m k] ∧ BS W a n c t ∧ BS W b m k f := by
  obtain ⟨f0, f1, f2, f3, f4, hu, hone, e0, e1, e2, e3, e4⟩ := head_fields
  obtain ⟨ys, n, _, _, _, hlen, hg⟩ := DataW.trod_struct hu h
  obtain ⟨o0, k0⟩ := hone_of hone 0 f0 rfl
  obtain ⟨o1, k1⟩ := hone_of hone 1 f1 rfl
  obtain ⟨o2, k2⟩ := hone_of hone 2 f2 rfl
  obtain ⟨o3, k3⟩ := hone_of hone 3 f3 rfl
  obtain ⟨o4, k4⟩ := hone_of hone 4 f4 rfl
  match cs, hs, ys, hlen with
  | [c0, c1, c2, c3, c4], _, [y0, y1, y2, y3, y4], _ =>
    have g0 : DataW.trod enc Tryd.prog W 0 (fun _ => true) true n 4 [c0] = some y0 := by rw [← e0]; simpa [o0, k0] using hg 0 f0 rfl
    have g1 : DataW.trod enc Tryd.prog W 0 (fun _ => true) true n 3 [c1] = some y1 := by rw [← e1]; simpa [o1, k1] using hg 1 f1 rfl
    have g2 : DataW.trod enc Tryd.prog W 0 (fun _ => true) true n 4 [c2] = some y2 := by rw [← e2]; simpa [o2, k2] using hg 2 f2 rfl
    have g3 : DataW.trod enc Tryd.prog W 0 (fun _ => true) true n 23 [c3] = some y3 := by rw [← e3]; simpa [o3, k3] using hg 3 f3 rfl
    have g4 : DataW.trod enc Tryd.prog W 0 (fun _ => true) true n 23 [c4] = some y4 := by rw [← e4]; simpa [o4, k4] using hg 4 f4 rfl
    obtain ⟨l, hl, _⟩ := DataW.trod_bool Tryd.underlying4 g0
    obtain ⟨lv, hlv, _⟩ := DataW.trod_int Tryd.underlying3 g1
    obtain ⟨ph, hph, _⟩ := DataW.trod_bool Tryd.underlying4 g2
    obtain ⟨a, n3, c3', rfl⟩ := slice_shape g3
    obtain ⟨b, n4, c4', rfl⟩ := slice_shape g4
    obtain ⟨t, ht⟩ := bytes_cell ⟨_, g3⟩
    obtain ⟨f, hf⟩ := bytes_cell ⟨_, g4⟩
    simp only [List.cons.injEq, and_true] at hl hlv hph
    subst hl hlv hph
    exact ⟨l, lv, ph, a, b, n3, c3', n4, c4', t, f, rfl, ht, hf⟩
theorem head_in {H : Type} {enc : TypeId × Value → H} {W : World} {base : Nat} {v : Value} {x : DataW H} {p : List MemPlace}
    (hok : Value.okWide Tryd.prog W .any base 43 v) (h : ∃ fuel, DataW.trod enc Tryd.prog W 0 (fun _ => true) true fuel 43 (Value.cells v).toList = some (x, p)) :
    ∃ (l : Bool) (lv : Int) (ph : Bool) (a b : Option Addr) (n c m k : Nat) (t f : List UInt8), v = .agg #[.bool l, .int .i64 lv, .bool ph, .slice a n c, .slice b m k] ∧ BS W a n c t ∧ BS W b m k f := by
  obtain ⟨cs, rfl, hsz⟩ := okWide_struct Tryd.underlying43 hok
  obtain ⟨fuel, hf⟩ := h
  have hc5 : Tryd.prog.cellsOf 43 = 5 := by kernel_rfl
  obtain ⟨l, lv, ph, a, b, n, c, m, k, t, f, hcs, h1, h2⟩ := head_cells (by simpa [Value.cells] using hsz.trans hc5) hf
  exact ⟨l, lv, ph, a, b, n, c, m, k, t, f, by simp [Value.cells] at hcs; rw [← hcs], h1, h2⟩
end Go.Proofs.YtlncnjcbgfeaoaaDoor
