/- law02.awake: the document's two examples. -/
import Derived.Test.YtdfachjgnhljfaaDoorG7
import Derived.Lib.SmallJoins
set_option maxRecDepth 100000
set_option linter.unusedVariables false
namespace Go.Proofs.YtdfachjgnhljfaaDoor
open Go.RowKit Go.Shelf Go.Joins
theorem PS_nil (w : World) : PS w none 0 0 [] := ⟨[], RS_nil w 1, rfl, fun i p h => by simp at h⟩
theorem BS_lit (w : World) (xs : List UInt8) (cs : Array Value) (fr : Nat × Nat) (h : cs = (xs.map B).toArray) (n : Nat) (hn : xs.length = n) (hm : n ≤ 140737488355328) {g : Nat} (hg : g = w.heap.size) : BS (w.alloc (.cells cs 5 fr)) (some ⟨g, 0, none⟩) n n xs := by
  subst hg h
  refine ⟨by simp [hn], Nat.le_refl _, by unfold maxLen; omega, one_B _, (fun h => by cases h), fun ad had => ?_⟩
  cases had
  refine ⟨fun _ => rfl, fun q v hq => ?_⟩
  rw [cell_alloc_mark_at w _ _ fr _ _ rfl]
  simpa using hq
set_option maxHeartbeats 2000000 in
theorem awake02 (w : World) (hK : KT w) : Calls Tryd.prog 13 #[] w fun e w' => e = .returned (.bool true) ∧ Below w.heap.size w w' := by
  have HK := Lib.hid hK
  clear hK
  go_enter Tryd.func13, Tryd.ntmps13
  go_upto_region 2 with (first
    | (go_at_call 15; refine (sum_any _ [] (PS_nil _) (by simp) HK.out).mono ?_; rintro e w1 ⟨rfl, hB1⟩)
    | (refine L_store32 rfl _ _ rfl rfl rfl (AB_zeros _ (by simp)) (by simp) (shaS_len _) ?_; intro w2 hA2 hg2))
  have hs1 := hB1.size
  have b2 := (hB1.alloc hs1 _).grown hg2 (by simp; omega) (by intro k hk; cases hk; omega)
  have hK2 := HK.out.below b2 (Nat.le_refl _)
  have hb2 := b2.size
  have a1 := awake_sha
  have a2 := awake_mac
  have c0 : w2.cell? ⟨w1.heap.size, 0, none⟩ = some (.int .u8 227) := hA2.cell 0 _ a1.1
  have c3 : w2.cell? ⟨w1.heap.size, 3, none⟩ = some (.int .u8 66) := hA2.cell 3 _ a1.2
  have h12 := hA2.lt
  clear a1
  have v1 := run_convert_bytes_const_at (P := Tryd.prog) w2 22 5 #[.int .u8 74, .int .u8 101, .int .u8 102, .int .u8 101] 4 4 w2.heap.size rfl Tryd.underlying22 Tryd.underlying5
  have v2 := run_convert_bytes_const_at (P := Tryd.prog) (w2.alloc (.cells #[.int .u8 74, .int .u8 101, .int .u8 102, .int .u8 101] 5 (4, 5))) 22 5 #[.int .u8 119, .int .u8 104, .int .u8 97, .int .u8 116, .int .u8 32, .int .u8 100, .int .u8 111, .int .u8 32, .int .u8 121, .int .u8 97, .int .u8 32, .int .u8 119, .int .u8 97, .int .u8 110, .int .u8 116, .int .u8 32] 16 16 (w2.heap.size + 1) (by simp) Tryd.underlying22 Tryd.underlying5
  have v3 := run_convert_bytes_const_at (P := Tryd.prog) ((w2.alloc (.cells #[.int .u8 74, .int .u8 101, .int .u8 102, .int .u8 101] 5 (4, 5))).alloc (.cells #[.int .u8 119, .int .u8 104, .int .u8 97, .int .u8 116, .int .u8 32, .int .u8 100, .int .u8 111, .int .u8 32, .int .u8 121, .int .u8 97, .int .u8 32, .int .u8 119, .int .u8 97, .int .u8 110, .int .u8 116, .int .u8 32] 5 (16, 17))) 22 5 #[.int .u8 102, .int .u8 111, .int .u8 114, .int .u8 32, .int .u8 110, .int .u8 111, .int .u8 116, .int .u8 104, .int .u8 105, .int .u8 110, .int .u8 103, .int .u8 63] 12 12 (w2.heap.size + 1 + 1) (by simp) Tryd.underlying22 Tryd.underlying5
  go_upto_region 3 with (first
    | (go_at_call 16; go_loud (refine (mac_any _ [[119, 104, 97, 116, 32, 100, 111, 32, 121, 97, 32, 119, 97, 110, 116, 32], [102, 111, 114, 32, 110, 111, 116, 104, 105, 110, 103, 63]] (RS.alloc (RS.alloc (RS.alloc (BS_lit w2 [74, 101, 102, 101] _ _ rfl 4 rfl (by omega) rfl) _) _) _) (PS_two (by simp) (RS.alloc (BS_lit _ [119, 104, 97, 116, 32, 100, 111, 32, 121, 97, 32, 119, 97, 110, 116, 32] _ _ rfl 16 rfl (by omega) (by simp)) _) (BS_lit _ [102, 111, 114, 32, 110, 111, 116, 104, 105, 110, 103, 63] _ _ rfl 12 rfl (by omega) (by simp))) (by simp) (by omega) (by omega) ((((hK2.alloc _).alloc _).alloc _).alloc _)).mono ?_); rintro e w3 ⟨rfl, hB3⟩)
    | (refine L_store32 rfl _ _ rfl rfl rfl (AB_zeros _ (by simp)) (by simp) (shaS_len _) ?_; intro w4 hA4 hg4))
  have b3 : Below w2.heap.size w2 w3 := ((((below_alloc w2 _).alloc (by simp) _).alloc (by simp; omega) _).alloc (by simp; omega) _).trans (hB3.mono (by simp; omega))
  have hz3 := b3.size
  have b4 : Below w2.heap.size w2 w4 := (b3.alloc hz3 _).grown hg4 (by simp; omega) (by intro k hk; cases hk; omega)
  have e0 := (b4.cell (p := ⟨w1.heap.size, 0, none⟩) h12).trans c0
  have e3 := (b4.cell (p := ⟨w1.heap.size, 3, none⟩) h12).trans c3
  have d0 : w4.cell? ⟨w3.heap.size, 0, none⟩ = some (.int .u8 91) := hA4.cell 0 _ a2.1
  have d3 : w4.cell? ⟨w3.heap.size, 3, none⟩ = some (.int .u8 70) := hA4.cell 3 _ a2.2
  have bf := Lib.hid (b2.trans (b4.mono hb2))
  clear hA4 hA2 hB3 hB1 a2 v1 v2 v3 c0 c3
  go_wp2
  go_ret
  exact ⟨rfl, bf.out⟩
end Go.Proofs.YtdfachjgnhljfaaDoor
