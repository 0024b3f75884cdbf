/- Greet's sides that came in, and small numbers. -/
import Derived.Test.YtkhcpnmbhbhcgaaDoorYal
import Derived.Deep.Fields
set_option maxRecDepth 100000
set_option linter.unusedVariables false
namespace Go.Proofs.YtkhcpnmbhbhcgaaDoor
open Go.ChangeShapes Go.WideShapes Go.ChangeAt Go.RowKit Go.Deep
theorem slice_shape {H : Type} {enc : TypeId × Value → H} {W : World} {fuel : Nat} {v : Value} {x : DataW H × List MemPlace}
    (h : DataW.trod enc Tryd.prog W 0 (fun _ => true) true fuel 22 [v] = some x) : ∃ a n c, v = .slice a n c := by
  rcases open_ints Tryd.underlying22 Tryd.underlying5 (by kernel_rfl) h with ⟨hcs, _⟩ | ⟨y, l, cc, zs, hcs, _⟩
  · simp at hcs; exact ⟨_, _, _, hcs⟩
  · simp at hcs; exact ⟨_, _, _, hcs⟩
theorem side_fields : ∃ f0 f1 f2 f3 f4 : Field, Tryd.prog.underlying 24 = some (.struct #[f0, f1, f2, f3, f4]) ∧ oneCellFields Tryd.prog #[f0, f1, f2, f3, f4] = true ∧ f0.type = 4 ∧ f1.type = 22 ∧ f2.type = 22 ∧ f3.type = 22 ∧ f4.type = 22 :=
  ⟨_, _, _, _, _, Tryd.underlying24, by kernel_rfl, rfl, rfl, rfl, rfl, rfl⟩
theorem side_cells {H : Type} {enc : TypeId × Value → H} {W : World} {fuel : Nat} {cs : List Value} {x : DataW H × List MemPlace} (hs : cs.length = 5)
    (h : DataW.trod enc Tryd.prog W 0 (fun _ => true) true fuel 24 cs = some x) :
    ∃ (l : Bool) (a1 a2 a3 a4 : Option Addr) (n1 c1 n2 c2 n3 c3 n4 c4 : Nat) (x1 x2 x3 x4 : List UInt8), cs = [.bool l, .slice a1 n1 c1, .slice a2 n2 c2, .slice a3 n3 c3, .slice a4 n4 c4] ∧ BS W a1 n1 c1 x1 ∧ BS W a2 n2 c2 x2 ∧ BS W a3 n3 c3 x3 ∧ BS W a4 n4 c4 x4 := by
  obtain ⟨f0, f1, f2, f3, f4, hu, hone, e0, e1, e2, e3, e4⟩ := side_fields
  obtain ⟨ys, n, _, _, _, hlen, hg⟩ := DataW.trod_struct hu h
  obtain ⟨o0, k0⟩ := hone_of hone 0 f0 rfl
  obtain ⟨o1, k1⟩ := hone_of hone 1 f1 rfl
  obtain ⟨o2, k2⟩ := hone_of hone 2 f2 rfl
  obtain ⟨o3, k3⟩ := hone_of hone 3 f3 rfl
  obtain ⟨o4, k4⟩ := hone_of hone 4 f4 rfl
  match cs, hs, ys, hlen with
  | [c0, c1, c2, c3, c4], _, [y0, y1, y2, y3, y4], _ =>
    have g0 : DataW.trod enc Tryd.prog W 0 (fun _ => true) true n 4 [c0] = some y0 := by rw [← e0]; simpa [o0, k0] using hg 0 f0 rfl
    have g1 : DataW.trod enc Tryd.prog W 0 (fun _ => true) true n 22 [c1] = some y1 := by rw [← e1]; simpa [o1, k1] using hg 1 f1 rfl
    have g2 : DataW.trod enc Tryd.prog W 0 (fun _ => true) true n 22 [c2] = some y2 := by rw [← e2]; simpa [o2, k2] using hg 2 f2 rfl
    have g3 : DataW.trod enc Tryd.prog W 0 (fun _ => true) true n 22 [c3] = some y3 := by rw [← e3]; simpa [o3, k3] using hg 3 f3 rfl
    have g4 : DataW.trod enc Tryd.prog W 0 (fun _ => true) true n 22 [c4] = some y4 := by rw [← e4]; simpa [o4, k4] using hg 4 f4 rfl
    obtain ⟨l, hl, _⟩ := DataW.trod_bool Tryd.underlying4 g0
    obtain ⟨a1, n1, c1', rfl⟩ := slice_shape g1
    obtain ⟨a2, n2, c2', rfl⟩ := slice_shape g2
    obtain ⟨a3, n3, c3', rfl⟩ := slice_shape g3
    obtain ⟨a4, n4, c4', rfl⟩ := slice_shape g4
    obtain ⟨t1, h1⟩ := bytes_cell ⟨_, g1⟩
    obtain ⟨t2, h2⟩ := bytes_cell ⟨_, g2⟩
    obtain ⟨t3, h3⟩ := bytes_cell ⟨_, g3⟩
    obtain ⟨t4, h4⟩ := bytes_cell ⟨_, g4⟩
    simp only [List.cons.injEq, and_true] at hl
    subst hl
    exact ⟨l, a1, a2, a3, a4, n1, c1', n2, c2', n3, c3', n4, c4', t1, t2, t3, t4, rfl, h1, h2, h3, h4⟩
theorem side_in {H : Type} {enc : TypeId × Value → H} {W : World} {base : Nat} {v : Value} {x : DataW H} {p : List MemPlace}
    (hok : Value.okWide Tryd.prog W .any base 24 v) (h : ∃ fuel, DataW.trod enc Tryd.prog W 0 (fun _ => true) true fuel 24 (Value.cells v).toList = some (x, p)) :
    ∃ (l : Bool) (a1 a2 a3 a4 : Option Addr) (n1 c1 n2 c2 n3 c3 n4 c4 : Nat) (x1 x2 x3 x4 : List UInt8), v = .agg #[.bool l, .slice a1 n1 c1, .slice a2 n2 c2, .slice a3 n3 c3, .slice a4 n4 c4] ∧ BS W a1 n1 c1 x1 ∧ BS W a2 n2 c2 x2 ∧ BS W a3 n3 c3 x3 ∧ BS W a4 n4 c4 x4 := by
  obtain ⟨cs, rfl, hsz⟩ := okWide_struct Tryd.underlying24 hok
  obtain ⟨fuel, hf⟩ := h
  have hc5 : Tryd.prog.cellsOf 24 = 5 := by kernel_rfl
  obtain ⟨l, a1, a2, a3, a4, n1, c1, n2, c2, n3, c3, n4, c4, x1, x2, x3, x4, hcs, h1, h2, h3, h4⟩ := side_cells (by simpa [Value.cells] using hsz.trans hc5) hf
  exact ⟨l, a1, a2, a3, a4, n1, c1, n2, c2, n3, c3, n4, c4, x1, x2, x3, x4, by simp [Value.cells] at hcs; rw [← hcs], h1, h2, h3, h4⟩
theorem num8_in {H : Type} {enc : TypeId × Value → H} {W : World} {base : Nat} {v : Value} {x : DataW H} {p : List MemPlace} (hok : Value.okWide Tryd.prog W .any base 5 v) (h : ∃ fuel, DataW.trod enc Tryd.prog W 0 (fun _ => true) true fuel 5 (Value.cells v).toList = some (x, p)) :
    ∃ n : Nat, v = .int .u8 (n : Int) ∧ n < 256 := by
  obtain ⟨n, rfl⟩ := okWide_int Tryd.underlying5 hok
  obtain ⟨fuel, hf⟩ := h
  obtain ⟨m, hm, _, hw⟩ := DataW.trod_int Tryd.underlying5 hf
  simp only [Value.cells, List.cons.injEq, Value.int.injEq, true_and, and_true] at hm
  subst hm
  have hb := bounds_u8 hw
  obtain ⟨k, rfl⟩ := Int.eq_ofNat_of_zero_le hb.1
  exact ⟨k, rfl, by omega⟩
end Go.Proofs.YtkhcpnmbhbhcgaaDoor
