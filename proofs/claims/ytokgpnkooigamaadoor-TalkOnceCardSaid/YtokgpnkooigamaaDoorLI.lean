/- A message that came in. -/
import Derived.Test.YtokgpnkooigamaaDoorLF
import Derived.Test.YtokgpnkooigamaaDoorLD
set_option maxRecDepth 100000
set_option linter.unusedVariables false
namespace Go.Proofs.YtokgpnkooigamaaDoor
open Go.ChangeShapes Go.WideShapes Go.ChangeAt Go.RowKit
section
variable {H : Type} {enc : TypeId × Value → H} {W : World} {fuel : Nat} {c d : Value} {x : DataW H × List MemPlace}
theorem u64_of (h : DataW.trod enc Tryd.prog W 0 (fun _ => true) true fuel 23 [c] = some x) : ∃ n : Nat, c = .int .u64 (n : Int) ∧ n < 18446744073709551616 := by
  obtain ⟨m, hm, _, hw⟩ := DataW.trod_int Tryd.underlying23 h
  have hb := bounds_u64 hw
  obtain ⟨k, rfl⟩ := Int.eq_ofNat_of_zero_le hb.1
  simp only [List.cons.injEq, and_true] at hm
  exact ⟨k, hm, by omega⟩
theorem u8_of (h : DataW.trod enc Tryd.prog W 0 (fun _ => true) true fuel 5 [c] = some x) : ∃ n : Nat, c = .int .u8 (n : Int) ∧ n < 256 := by
  obtain ⟨m, hm, _, hw⟩ := DataW.trod_int Tryd.underlying5 h
  have hb := bounds_u8 hw
  obtain ⟨k, rfl⟩ := Int.eq_ofNat_of_zero_le hb.1
  simp only [List.cons.injEq, and_true] at hm
  exact ⟨k, hm, by omega⟩
theorem place_of (h : DataW.trod enc Tryd.prog W 0 (fun _ => true) true fuel 29 [c, d] = some x) : ∃ m n : Nat, c = .int .u64 (m : Int) ∧ d = .int .u64 (n : Int) ∧ m < 18446744073709551616 ∧ n < 18446744073709551616 := by
  obtain ⟨ys, n, _, _, _, hlen, hg⟩ := DataW.trod_struct Tryd.underlying29 h
  have hl2 : ys.length = 2 := hlen
  match ys, hl2, hg with
  | [y0, y1], _, hg =>
    have f0 : DataW.trod enc Tryd.prog W 0 (fun _ => true) true n 23 ((([c, d] : List Value).drop 0).take (Tryd.prog.cellsOf 23)) = some y0 := hg 0 _ rfl
    have f1 : DataW.trod enc Tryd.prog W 0 (fun _ => true) true n 23 ((([c, d] : List Value).drop 1).take (Tryd.prog.cellsOf 23)) = some y1 := hg 1 _ rfl
    rw [cU] at f0 f1
    obtain ⟨m1, h1, b1⟩ := u64_of f0
    obtain ⟨m2, h2, b2⟩ := u64_of f1
    exact ⟨m1, m2, h1, h2, b1, b2⟩
theorem slice_shape (h : DataW.trod enc Tryd.prog W 0 (fun _ => true) true fuel 27 [c] = some x) : ∃ a n k, c = .slice a n k := by
  rcases open_ints Tryd.underlying27 Tryd.underlying5 (by kernel_rfl) h with ⟨hcs, _⟩ | ⟨y, l, cc, zs, hcs, _⟩
  · simp at hcs; exact ⟨_, _, _, hcs⟩
  · simp at hcs; exact ⟨_, _, _, hcs⟩
theorem uslice_shape (h : DataW.trod enc Tryd.prog W 0 (fun _ => true) true fuel 22 [c] = some x) : ∃ a n k, c = .slice a n k := by
  rcases open_ints Tryd.underlying22 Tryd.underlying23 (by kernel_rfl) h with ⟨hcs, _⟩ | ⟨y, l, cc, zs, hcs, _⟩
  · simp at hcs; exact ⟨_, _, _, hcs⟩
  · simp at hcs; exact ⟨_, _, _, hcs⟩
theorem bytes_cell {H : Type} {enc : TypeId × Value → H} {W : World} {a : Option Addr} {n c : Nat} {x : DataW H × List MemPlace}
    (h : ∃ fuel, DataW.trod enc Tryd.prog W 0 (fun _ => true) true fuel 27 [.slice a n c] = some x) : ∃ xs : List UInt8, BS W a n c xs := by
  obtain ⟨fuel, hf⟩ := h
  rcases open_ints Tryd.underlying27 Tryd.underlying5 (by kernel_rfl) hf with ⟨hcs, _⟩ | ⟨y, l, cc, zs, hcs, _, hl, hm, hz, _, hcell, hwz⟩
  · simp at hcs
    obtain ⟨rfl, rfl, rfl⟩ := hcs
    exact ⟨[], RS_nil _ _⟩
  · simp at hcs
    obtain ⟨rfl, rfl, rfl⟩ := hcs
    simp only [if_true] at hz
    have hsp : 0 < c → y.spot = none := fun h0 => by
      have hc := hcell 0 (by omega)
      rw [show y.add 0 = y from rfl] at hc
      unfold World.cell? at hc
      split at hc
      · split at hc
        · cases hc
        · next h1 => simpa using h1
      · cases hc
    refine ⟨(zs.take n).map (fun z => UInt8.ofNat z.toNat), ?_, hl, hm, one_B _, (fun h => by cases h), fun ad had => ?_⟩
    · simp [List.length_take]; omega
    · cases had
      refine ⟨hsp, fun j v hv => ?_⟩
      rw [List.getElem?_map, List.getElem?_map] at hv
      have hj : j < n := by
        rcases Nat.lt_or_ge j n with h | h
        · exact h
        · rw [List.getElem?_eq_none (by rw [List.length_take]; omega)] at hv; cases hv
      have hjz : j < zs.length := by omega
      have hc := hcell j hjz
      rw [add_plain (hsp (by omega))] at hc
      rw [hc]
      rw [List.getElem?_take, if_pos hj, List.getElem?_eq_getElem hjz] at hv
      simp only [Option.map_some, Option.some.injEq] at hv
      subst hv
      have hb := bounds_u8 (hwz zs[j] (List.getElem_mem hjz))
      simp only [B, List.getD, List.getElem?_eq_getElem hjz, Option.getD_some, UInt8.toNat_ofNat']
      congr 2
      omega
theorem unums_cell {a : Option Addr} {n c : Nat} (h : ∃ fuel, DataW.trod enc Tryd.prog W 0 (fun _ => true) true fuel 22 [.slice a n c] = some x) : ∃ xs : List Nat, RS W 1 a n c (US xs) ∧ ∀ x ∈ xs, x < 18446744073709551616 := by
  obtain ⟨fuel, hf⟩ := h
  rcases open_ints Tryd.underlying22 Tryd.underlying23 (by kernel_rfl) hf with ⟨hcs, _⟩ | ⟨y, l, cc, zs, hcs, _, hl, hm, hz, _, hcell, hwz⟩
  · simp at hcs
    obtain ⟨rfl, rfl, rfl⟩ := hcs
    exact ⟨[], RS_nil _ _, by simp⟩
  · simp at hcs
    obtain ⟨rfl, rfl, rfl⟩ := hcs
    simp only [if_true] at hz
    have hsp : 0 < c → y.spot = none := fun h0 => by
      have hc := hcell 0 (by omega)
      rw [show y.add 0 = y from rfl] at hc
      unfold World.cell? at hc
      split at hc
      · split at hc
        · cases hc
        · next h1 => simpa using h1
      · cases hc
    refine ⟨(zs.take n).map (fun z => z.toNat), ⟨?_, hl, hm, ?_, (fun h => by cases h), fun ad had => ?_⟩, ?_⟩
    · simp [US, List.length_take]; omega
    · intro v hv
      simp only [US, List.mem_map] at hv
      obtain ⟨q, _, rfl⟩ := hv
      rfl
    · cases had
      refine ⟨hsp, fun j v hv => ?_⟩
      unfold US at hv
      rw [List.getElem?_map, List.getElem?_map] at hv
      have hj : j < n := by
        rcases Nat.lt_or_ge j n with h | h
        · exact h
        · rw [List.getElem?_eq_none (by rw [List.length_take]; omega)] at hv; cases hv
      have hjz : j < zs.length := by omega
      have hc := hcell j hjz
      rw [add_plain (hsp (by omega))] at hc
      rw [hc]
      rw [List.getElem?_take, if_pos hj, List.getElem?_eq_getElem hjz] at hv
      simp only [Option.map_some, Option.some.injEq] at hv
      subst hv
      have hb := bounds_u64 (hwz zs[j] (List.getElem_mem hjz))
      simp only [u64, List.getD, List.getElem?_eq_getElem hjz, Option.getD_some]
      congr 2
      omega
    · intro x hx
      obtain ⟨z, hzm, rfl⟩ := List.mem_map.1 hx
      have hb := bounds_u64 (hwz z (List.mem_of_mem_take hzm))
      omega
end
theorem cB : Tryd.prog.cellsOf 4 = 1 := by kernel_rfl
theorem c8 : Tryd.prog.cellsOf 5 = 1 := by kernel_rfl
theorem cP : Tryd.prog.cellsOf 29 = 2 := by kernel_rfl
theorem cS : Tryd.prog.cellsOf 27 = 1 := by kernel_rfl
theorem cV : Tryd.prog.cellsOf 22 = 1 := by kernel_rfl
theorem cM : Tryd.prog.cellsOf 35 = 16 := by kernel_rfl
theorem msg_cells {H : Type} {enc : TypeId × Value → H} {W : World} {fuel : Nat} {cs : List Value} {x : DataW H × List MemPlace} (hs : cs.length = 16)
    (h : DataW.trod enc Tryd.prog W 0 (fun _ => true) true fuel 35 cs = some x) : ∃ (m : MG) (s : ML), cs = mgc m s ∧ MW W m s ∧ ∀ y ∈ m.vers, y < 18446744073709551616 := by
  obtain ⟨ys, n, _, _, _, hlen, hg⟩ := DataW.trod_struct Tryd.underlying35 h
  have hl2 : ys.length = 14 := hlen
  match cs, hs, ys, hl2, hg with
  | [k0, k1, k2, k3, k4, k5, k6, k7, k8, k9, k10, k11, k12, k13, k14, k15], _, [y0, y1, y2, y3, y4, y5, y6, y7, y8, y9, y10, y11, y12, y13], _, hg =>
    have f0 : DataW.trod enc Tryd.prog W 0 (fun _ => true) true n 23 ((([k0, k1, k2, k3, k4, k5, k6, k7, k8, k9, k10, k11, k12, k13, k14, k15] : List Value).drop 0).take (Tryd.prog.cellsOf 23)) = some y0 := hg 0 _ rfl
    rw [cU] at f0
    have f1 : DataW.trod enc Tryd.prog W 0 (fun _ => true) true n 23 ((([k0, k1, k2, k3, k4, k5, k6, k7, k8, k9, k10, k11, k12, k13, k14, k15] : List Value).drop 1).take (Tryd.prog.cellsOf 23)) = some y1 := hg 1 _ rfl
    rw [cU] at f1
    have f2 : DataW.trod enc Tryd.prog W 0 (fun _ => true) true n 23 ((([k0, k1, k2, k3, k4, k5, k6, k7, k8, k9, k10, k11, k12, k13, k14, k15] : List Value).drop 2).take (Tryd.prog.cellsOf 23)) = some y2 := hg 2 _ rfl
    rw [cU] at f2
    have f3 : DataW.trod enc Tryd.prog W 0 (fun _ => true) true n 27 ((([k0, k1, k2, k3, k4, k5, k6, k7, k8, k9, k10, k11, k12, k13, k14, k15] : List Value).drop 3).take (Tryd.prog.cellsOf 27)) = some y3 := hg 3 _ rfl
    rw [cS] at f3
    have f4 : DataW.trod enc Tryd.prog W 0 (fun _ => true) true n 5 ((([k0, k1, k2, k3, k4, k5, k6, k7, k8, k9, k10, k11, k12, k13, k14, k15] : List Value).drop 4).take (Tryd.prog.cellsOf 5)) = some y4 := hg 4 _ rfl
    rw [c8] at f4
    have f5 : DataW.trod enc Tryd.prog W 0 (fun _ => true) true n 5 ((([k0, k1, k2, k3, k4, k5, k6, k7, k8, k9, k10, k11, k12, k13, k14, k15] : List Value).drop 5).take (Tryd.prog.cellsOf 5)) = some y5 := hg 5 _ rfl
    rw [c8] at f5
    have f6 : DataW.trod enc Tryd.prog W 0 (fun _ => true) true n 29 ((([k0, k1, k2, k3, k4, k5, k6, k7, k8, k9, k10, k11, k12, k13, k14, k15] : List Value).drop 6).take (Tryd.prog.cellsOf 29)) = some y6 := hg 6 _ rfl
    rw [cP] at f6
    have f7 : DataW.trod enc Tryd.prog W 0 (fun _ => true) true n 29 ((([k0, k1, k2, k3, k4, k5, k6, k7, k8, k9, k10, k11, k12, k13, k14, k15] : List Value).drop 8).take (Tryd.prog.cellsOf 29)) = some y7 := hg 7 _ rfl
    rw [cP] at f7
    have f8 : DataW.trod enc Tryd.prog W 0 (fun _ => true) true n 4 ((([k0, k1, k2, k3, k4, k5, k6, k7, k8, k9, k10, k11, k12, k13, k14, k15] : List Value).drop 10).take (Tryd.prog.cellsOf 4)) = some y8 := hg 8 _ rfl
    rw [cB] at f8
    have f9 : DataW.trod enc Tryd.prog W 0 (fun _ => true) true n 23 ((([k0, k1, k2, k3, k4, k5, k6, k7, k8, k9, k10, k11, k12, k13, k14, k15] : List Value).drop 11).take (Tryd.prog.cellsOf 23)) = some y9 := hg 9 _ rfl
    rw [cU] at f9
    have f10 : DataW.trod enc Tryd.prog W 0 (fun _ => true) true n 27 ((([k0, k1, k2, k3, k4, k5, k6, k7, k8, k9, k10, k11, k12, k13, k14, k15] : List Value).drop 12).take (Tryd.prog.cellsOf 27)) = some y10 := hg 10 _ rfl
    rw [cS] at f10
    have f11 : DataW.trod enc Tryd.prog W 0 (fun _ => true) true n 23 ((([k0, k1, k2, k3, k4, k5, k6, k7, k8, k9, k10, k11, k12, k13, k14, k15] : List Value).drop 13).take (Tryd.prog.cellsOf 23)) = some y11 := hg 11 _ rfl
    rw [cU] at f11
    have f12 : DataW.trod enc Tryd.prog W 0 (fun _ => true) true n 23 ((([k0, k1, k2, k3, k4, k5, k6, k7, k8, k9, k10, k11, k12, k13, k14, k15] : List Value).drop 14).take (Tryd.prog.cellsOf 23)) = some y12 := hg 12 _ rfl
    rw [cU] at f12
    have f13 : DataW.trod enc Tryd.prog W 0 (fun _ => true) true n 22 ((([k0, k1, k2, k3, k4, k5, k6, k7, k8, k9, k10, k11, k12, k13, k14, k15] : List Value).drop 15).take (Tryd.prog.cellsOf 22)) = some y13 := hg 13 _ rfl
    rw [cV] at f13
    obtain ⟨v0, rfl, b0⟩ := u64_of (c := k0) f0
    obtain ⟨v1, rfl, b1⟩ := u64_of (c := k1) f1
    obtain ⟨v2, rfl, b2⟩ := u64_of (c := k2) f2
    obtain ⟨a3, n3, c3, rfl⟩ := slice_shape (c := k3) f3
    obtain ⟨t3, h3⟩ := bytes_cell ⟨_, f3⟩
    obtain ⟨v4, rfl, b4⟩ := u8_of (c := k4) f4
    obtain ⟨v5, rfl, b5⟩ := u8_of (c := k5) f5
    obtain ⟨v6a, v6b, rfl, rfl, b6a, b6b⟩ := place_of (c := k6) (d := k7) f6
    obtain ⟨v7a, v7b, rfl, rfl, b7a, b7b⟩ := place_of (c := k8) (d := k9) f7
    obtain ⟨v8, hv8, _⟩ := DataW.trod_bool Tryd.underlying4 (show DataW.trod enc Tryd.prog W 0 (fun _ => true) true n 4 [k10] = some y8 from f8)
    simp only [List.cons.injEq, and_true] at hv8
    subst hv8
    obtain ⟨v9, rfl, b9⟩ := u64_of (c := k11) f9
    obtain ⟨a10, n10, c10, rfl⟩ := slice_shape (c := k12) f10
    obtain ⟨t10, h10⟩ := bytes_cell ⟨_, f10⟩
    obtain ⟨v11, rfl, b11⟩ := u64_of (c := k13) f11
    obtain ⟨v12, rfl, b12⟩ := u64_of (c := k14) f12
    obtain ⟨a13, n13, c13, rfl⟩ := uslice_shape (c := k15) f13
    obtain ⟨t13, h13, q13⟩ := unums_cell ⟨_, f13⟩
    exact ⟨⟨v0, v1, v2, t3, v4, v5, v6a, v6b, v7a, v7b, v8, v9, t10, v11, v12, t13⟩, ⟨⟨a3, n3, c3⟩, ⟨a10, n10, c10⟩, ⟨a13, n13, c13⟩⟩, rfl, ⟨⟨b0, b1, b2, b4, b5, b6a, b6b, b7a, b7b, b9, b11, b12⟩, h3, h10, h13⟩, q13⟩
theorem msg_in {H : Type} {enc : TypeId × Value → H} {W : World} {base : Nat} {v : Value} {x : DataW H} {p : List MemPlace}
    (hok : Value.okWide Tryd.prog W .any base 35 v) (h : ∃ fuel, DataW.trod enc Tryd.prog W 0 (fun _ => true) true fuel 35 (Value.cells v).toList = some (x, p)) : ∃ (m : MG) (s : ML), v = .agg (mgc m s).toArray ∧ MW W m s ∧ ∀ y ∈ m.vers, y < 18446744073709551616 := by
  obtain ⟨cs, rfl, hsz⟩ := okWide_struct Tryd.underlying35 hok
  obtain ⟨fuel, hf⟩ := h
  obtain ⟨m, s, hcs, h1, h2⟩ := msg_cells (by simpa [Value.cells] using hsz.trans cM) hf
  exact ⟨m, s, by simp [Value.cells] at hcs; rw [← hcs], h1, h2⟩
end Go.Proofs.YtokgpnkooigamaaDoor
