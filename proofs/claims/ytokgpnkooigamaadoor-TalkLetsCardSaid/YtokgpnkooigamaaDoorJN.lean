/- bytes.Join without a separator. -/
import Derived.Test.YtokgpnkooigamaaDoorM4
import Derived.Test.YtokgpnkooigamaaDoorR2
import Derived.Lib.SlBuf
import Derived.Lib.MakeNoZero
import Derived.Laws.Externs
set_option maxRecDepth 100000
set_option linter.unusedVariables false
namespace Go.Proofs.YtokgpnkooigamaaDoor
open Go.RowKit
theorem tS : STy Tryd.prog 93 27 (.slice none 0 0) 1 24 := ⟨Tryd.underlying93, by kernel_rfl, rfl, by decide⟩
/-- a slice of slices of bytes reads as the parts ps -/
def PS (w : World) (a : Option Addr) (n c : Nat) (ps : List (List UInt8)) : Prop :=
  ∃ vs, RS w 1 a n c vs ∧ ps.length = n ∧ ∀ (i : Nat) p, ps[i]? = some p → ∃ a' m c', vs[i]? = some (.slice a' m c') ∧ BS w a' m c' p
theorem BS.holds {w : World} {a : Option Addr} {n c : Nat} {xs : List UInt8} (h : BS w a n c xs) : Lib.HoldsBytes w (.slice a n c) xs := by
  obtain rfl := BS.len h
  refine ⟨a, c, rfl, fun ha => ?_, fun ad ha i x hx => ?_⟩
  · subst ha; have := (RS.nil_inv h).1; exact List.eq_nil_of_length_eq_zero this
  · exact RS.cells h ha i (B x) (by rw [List.getElem?_map, hx]; rfl)
theorem flat_succ (ps : List (List UInt8)) (i : Nat) (p : List UInt8) (h : ps[i]? = some p) : (ps.take (i + 1)).flatten = (ps.take i).flatten ++ p := by
  rw [List.take_add_one, h]; simp
theorem flat_take_le (ps : List (List UInt8)) (i : Nat) : (ps.take i).flatten.length ≤ ps.flatten.length := by
  have h : ps.flatten = (ps.take i).flatten ++ (ps.drop i).flatten := by rw [← List.flatten_append, List.take_append_drop]
  rw [h, List.length_append]; omega
/-- how many bytes the first i parts have -/
def accL (ps : List (List UInt8)) (i : Nat) : Nat := (ps.take i).flatten.length
theorem accL_succ (ps : List (List UInt8)) (i : Nat) (p : List UInt8) (h : ps[i]? = some p) : accL ps (i + 1) = accL ps i + p.length := by
  unfold accL; rw [flat_succ ps i p h, List.length_append]
theorem accL_le (ps : List (List UInt8)) (i : Nat) : accL ps i ≤ ps.flatten.length := flat_take_le ps i
theorem accL_all (ps : List (List UInt8)) (i : Nat) (h : ps.length ≤ i) : accL ps i = ps.flatten.length := by
  unfold accL; rw [List.take_of_length_le h]
set_option maxHeartbeats 2000000 in
theorem join_many (w : World) {a : Option Addr} {n c : Nat} (ps : List (List UInt8)) (h : PS w a n c ps) (h2 : 2 ≤ n) (hlen : ps.flatten.length ≤ 1099511627776) :
    Calls Tryd.prog 49 #[.slice a n c, .slice none 0 0] w fun e w' => ∃ a' c', e = .returned (.slice a' ps.flatten.length c') ∧ JW w' w.heap.size 5 a' ps.flatten.length c' (ps.flatten.map B) ∧ Below w.heap.size w w' := by
  obtain ⟨vs, hv, hn, hp⟩ := h
  have hle := hv.le
  have hmx := hv.max
  unfold maxLen at hmx
  have hs5 : (Tryd.prog.info? 5).map (·.size) = some 1 := by kernel_rfl
  have z5 : ∀ W, (Go.sizeOf 5).run Tryd.prog W = .ok 1 W := fun W => by have := tB.sizeOf (w := W); rwa [tB.elem] at this
  have HP := Lib.hid hp
  clear hp
  go_enter Tryd.func49, Tryd.ntmps49
  go_wp2
  go_loopw [5, 44] (fun s5 s44 wr => w = wr ∧ ∃ i : Nat, i ≤ n ∧ s44 = .int .i64 (i : Int) ∧ s5 = .int .i64 ((accL ps i : Nat) : Int)) (fun _ s44 _ => n - (intOf s44).toNat)
  case atStart => exact ⟨rfl, 0, by omega, rfl, rfl⟩
  case round =>
    obtain ⟨rfl, i, hi, rfl, rfl⟩ := hrel
    by_cases hlt : i < n
    · obtain ⟨p, hpi⟩ : ∃ p, ps[i]? = some p := ⟨_, List.getElem?_eq_getElem (by omega)⟩
      obtain ⟨a', m, c', hvi, hb⟩ := HP.out i p hpi
      have hs1 : accL ps (i + 1) = accL ps i + m := by rw [accL_succ ps i p hpi, BS.len hb]
      have hs2 := accL_le ps (i + 1)
      generalize hacc : accL ps i = acc at *
      have hbb : ¬ (9223372036854775807 - (acc : Int) < (m : Int)) := by omega
      have Hvi := Lib.hid hvi
      have Hs1 := Lib.hid hs1
      clear hpi hvi hb hs1 hacc
      go_wp2_with (refine L_index tS hv _ _ rfl rfl _ _ rfl rfl (by omega) (by omega) _ (by simpa using Hvi.out) ?_; intro q hq)
      go_roundw
      case rel => exact ⟨_, _, _, ⟨i + 1, by omega, rfl, rfl⟩, by rw [Hs1.out]; go_num, rfl, by go_num⟩
      case measure => simp [intOf]; omega
    · obtain rfl : i = n := by omega
      rw [accL_all ps i (by omega)]
      obtain ⟨F, hF⟩ : ∃ F, ps.flatten = F := ⟨_, rfl⟩
      rw [hF] at hlen ⊢
      obtain ⟨T, hT⟩ : ∃ T, F.length = T := ⟨_, rfl⟩
      rw [hT] at hlen ⊢
      obtain ⟨cs, hrunM, hcle, _⟩ := Lib.run_makeNoZero (P := Tryd.prog) w #[3] 27 5 Tryd.underlying27 T (by omega)
      have hcall : (callFunc 62 #[.int .i64 (T : Int)]).run Tryd.prog w = .ok (.value (.slice (some ⟨w.heap.size, 0, none⟩) T cs.size)) ((w.alloc (.cells cs 5)).drewN 2) := by
        rw [run_callFunc_extern Tryd.func62 (by kernel_rfl) (by kernel_rfl) (by kernel_rfl) (e := Extern.BytealgMakeNoZero.makeNoZero #[3] #[27]) (by kernel_rfl), hrunM]
        rfl
      clear hrunM
      have i0 : (0 : Int) ≤ (T : Int) := by omega
      have i1 : (T : Int) ≤ (cs.size : Int) := by omega
      have B0 := Lib.Buf.start w cs 5 T 2 hcle
      obtain ⟨p0, hp0⟩ : ∃ p, ps[0]? = some p := ⟨_, List.getElem?_eq_getElem (by omega)⟩
      obtain ⟨a0, m0, c0, hv0, hb0⟩ := HP.out 0 p0 hp0
      have hl0 : p0.length = m0 := BS.len hb0
      have hf1 := flat_succ ps 0 p0 hp0
      simp only [List.take_zero, List.flatten_nil, List.nil_append, Nat.zero_add] at hf1
      have hfl := flat_take_le ps 1
      rw [hf1, hF, hT] at hfl
      obtain ⟨w1, hr1, B1⟩ := Lib.copy_part (P := Tryd.prog) w _ w.heap.size T [] p0 (.slice a0 m0 c0) 27 3 5 Tryd.underlying27 hs5 (Nat.le_refl _) B0 hb0.holds (by simpa using hfl)
      rw [List.length_nil, Lib.tailV_zero, hl0] at hr1
      rw [List.nil_append] at B1
      have Hv0 := Lib.hid hv0
      have HB1 := Lib.hid B1
      have Hf1 := Lib.hid hf1
      have hx0 : RS ((w.alloc (.cells cs 5)).drewN 2) 1 a i c vs := RS.below hv B0.below (Nat.le_refl _)
      have hx1 : RS w1 1 a i c vs := RS.below hv B1.below (Nat.le_refl _)
      clear B0 B1 hv0 hb0 hp0 hf1
      go_wp2_with (first | (refine L_index tS hx0 _ _ rfl rfl _ _ rfl rfl (by omega) (by omega) _ (by simpa using Hv0.out) ?_; intro q hq) | (at_builtin; refine Lib.wpList_copy_run _ rfl _ _ 27 27 rfl _ _ rfl rfl hr1 ?_) | (refine L_slice_l tS hx1 1 _ _ rfl rfl _ _ rfl rfl rfl (by omega) ?_; intro sa _ hsa hxs))
      have hsab : ∀ ad, sa = some ad → ad.block < w.heap.size := fun ad had => by obtain ⟨ad0, h0, h1⟩ := hsa ad had; rw [h1]; exact hv.block_lt h0 (by omega) (by omega)
      clear hsa
      clear hcall hr1 hq
      go_loopw [9, 72] (fun s9 s72 wr => ∃ j : Nat, j ≤ i - 1 ∧ s72 = .int .i64 (j : Int) ∧ s9 = .int .i64 ((accL ps (j + 1) : Nat) : Int) ∧ Lib.Buf w wr w.heap.size T (ps.take (j + 1)).flatten) (fun _ s72 _ => i - (intOf s72).toNat)
      case atStart => exact ⟨0, by omega, rfl, by rw [show accL ps (0 + 1) = m0 by unfold accL; rw [Hf1.out]; exact hl0], by rw [Hf1.out]; exact HB1.out⟩
      case round =>
        obtain ⟨j, hj, rfl, rfl, HB⟩ := hrel
        have hlj : (ps.take (j + 1)).flatten.length = accL ps (j + 1) := rfl
        by_cases hjn : j < i - 1
        · obtain ⟨p, hpi⟩ : ∃ p, ps[j + 1]? = some p := ⟨_, List.getElem?_eq_getElem (by omega)⟩
          obtain ⟨a', m, c', hvi, hb⟩ := HP.out (j + 1) p hpi
          have hs1 : accL ps (j + 1 + 1) = accL ps (j + 1) + m := by rw [accL_succ ps (j + 1) p hpi, BS.len hb]
          have hs2 := accL_le ps (j + 1 + 1)
          rw [hF, hT] at hs2
          have hfs := flat_succ ps (j + 1) p hpi
          have hsl1 : ∀ W, (Instr.slice 27 (.slice (some ⟨w.heap.size, 0, none⟩) T T) (some (.int .i64 (accL ps (j + 1) : Int))) none none).run Tryd.prog W = .ok (Lib.tailV w.heap.size T (accL ps (j + 1))) W := fun W => Lib.run_slice_tailV W 27 5 Tryd.underlying27 z5 _ T (accL ps (j + 1)) (by omega)
          obtain ⟨w2, hr2, B2⟩ := Lib.copy_part (P := Tryd.prog) w wr w.heap.size T (ps.take (j + 1)).flatten [] (.slice none 0 0) 27 3 5 Tryd.underlying27 hs5 (Nat.le_refl _) HB (BS.holds (RS_nil w 1)) (by rw [hlj]; simp; omega)
          rw [List.append_nil] at B2
          obtain ⟨w3, hr3, B3⟩ := Lib.copy_part (P := Tryd.prog) w w2 w.heap.size T (ps.take (j + 1)).flatten p (.slice a' m c') 27 3 5 Tryd.underlying27 hs5 (Nat.le_refl _) B2 hb.holds (by rw [hlj, BS.len hb]; omega)
          rw [hlj] at hr2 hr3
          rw [BS.len hb] at hr3
          rw [← hfs] at B3
          have hxr : RS wr 1 sa (i - 1) (c - 1) (vs.drop (1 * 1)) := hxs.keepb fun ad had _ => (HB.below.block _ (hsab ad had)).trans (HB1.out.below.block _ (hsab ad had)).symm
          have HB3 := Lib.hid B3
          have Hs1 := Lib.hid hs1
          have hxv : RS wr 1 a i c vs := RS.below hv HB.below (Nat.le_refl _)
          have hvj : (vs.drop (1 * 1))[j]? = some (.slice a' m c') := by rw [List.getElem?_drop, show 1 * 1 + j = j + 1 by omega]; exact hvi
          have Hvj := Lib.hid hvj
          generalize accL ps (j + 1) = acc at *
          have hw64 : wrap64 (acc : Int) = (acc : Int) := by unfold wrap64; omega
          clear hvi hpi hb B2 B3 hfs hs1 hvj hlj
          go_wp2_with (first | (refine L_index tS hxr _ _ rfl rfl _ _ rfl rfl (by omega) (by omega) _ (by simpa using Hvj.out) ?_; intro q hq) | (at_builtin; first | refine Lib.wpList_copy_run _ rfl _ _ 27 27 rfl _ _ rfl rfl hr2 ?_ | refine Lib.wpList_copy_run _ rfl _ _ 27 27 rfl _ _ rfl rfl hr3 ?_))
          go_roundw
          case rel => exact ⟨j + 1, by omega, by go_num, by have h9 := Hs1.out; rw [h9, IntWalk.wrap64_in _ (by omega)]; go_num, HB3.out⟩
          case measure => simp [intOf]; omega
        · obtain rfl : j = i - 1 := by omega
          have hacc : accL ps (i - 1 + 1) = T := by rw [accL_all ps _ (by omega), hF, hT]
          have hfl2 : (ps.take (i - 1 + 1)).flatten = F := by rw [List.take_of_length_le (by omega), hF]
          rw [hacc]
          rw [hfl2] at HB
          have hRS : BS wr (some ⟨w.heap.size, 0, none⟩) T T F := by
            refine ⟨by simp [hT], Nat.le_refl _, by unfold maxLen; omega, one_B _, (fun h => by cases h), fun ad had => ?_⟩
            cases had
            refine ⟨fun _ => rfl, fun q v hq => ?_⟩
            rw [List.getElem?_map] at hq
            obtain ⟨x, hx, rfl⟩ := Option.map_eq_some_iff.1 hq
            rw [show (0 + q) = q by omega]
            exact HB.holds q x hx
          have hbel := HB.below
          clear HB
          go_wp2
          go_ret
          rw [hF, hT]
          exact ⟨_, _, rfl, .inr ⟨hRS, rfl, fun ad had => by cases had; exact Nat.le_refl _⟩, hbel⟩
theorem join_one (w : World) {a : Option Addr} {c : Nat} (p : List UInt8) (h : PS w a 1 c [p]) (hlen : p.length ≤ 1099511627776) :
    Calls Tryd.prog 49 #[.slice a 1 c, .slice none 0 0] w fun e w' => ∃ a' c', e = .returned (.slice a' p.length c') ∧ JW w' w.heap.size 5 a' p.length c' (p.map B) ∧ Below w.heap.size w w' := by
  obtain ⟨vs, hv, hn, hp⟩ := h
  obtain ⟨a0, m0, c0, hv0, hb0⟩ := hp 0 p rfl
  obtain rfl := BS.len hb0
  have Hv0 := Lib.hid hv0
  have Hp := Lib.hid hp
  clear hv0 hp
  go_enter Tryd.func49, Tryd.ntmps49
  go_wp2_with (first | (refine L_index tS hv _ _ rfl rfl _ _ rfl rfl (by omega) (by omega) _ (by simpa using Hv0.out) ?_; intro q hq) | (at_builtin; refine L_append tB (OW_nil w w.heap.size _ _) hb0 _ _ rfl rfl rfl rfl (by omega) (by unfold maxLen; omega) (by omega) ?_; intro a1 c1 w1 g1 g2))
  go_ret
  exact ⟨a1, c1, rfl, .inl (by simpa using g1), (Below.refl _ _).grown g2 (Nat.le_refl _) (by intro k hk; cases hk)⟩
theorem join_none (w : World) {a : Option Addr} {c : Nat} (h : PS w a 0 c []) :
    Calls Tryd.prog 49 #[.slice a 0 c, .slice none 0 0] w fun e w' => ∃ a' c', e = .returned (.slice a' 0 c') ∧ JW w' w.heap.size 5 a' 0 c' [] ∧ Below w.heap.size w w' := by
  go_enter Tryd.func49, Tryd.ntmps49
  go_wp2
  go_ret
  exact ⟨_, _, rfl, .inl (OW_empty w _ _ _ (Nat.le_refl _)), below_alloc w _⟩
theorem join_any (w : World) {a : Option Addr} {n c : Nat} (ps : List (List UInt8)) (h : PS w a n c ps) (hlen : ps.flatten.length ≤ 1099511627776) :
    Calls Tryd.prog 49 #[.slice a n c, .slice none 0 0] w fun e w' => ∃ a' c', e = .returned (.slice a' ps.flatten.length c') ∧ JW w' w.heap.size 5 a' ps.flatten.length c' (ps.flatten.map B) ∧ Below w.heap.size w w' := by
  have hn := h
  obtain ⟨_, _, hn, _⟩ := hn
  match ps, hn with
  | [], hn => obtain rfl : n = 0 := hn.symm; exact join_none w h
  | [p], hn =>
    obtain rfl : n = 1 := hn.symm
    have e1 : [p].flatten = p := by simp
    rw [e1] at hlen ⊢
    exact join_one w p h hlen
  | p :: q :: r, hn => exact join_many w _ h (by rw [← hn]; simp) hlen
end Go.Proofs.YtokgpnkooigamaaDoor
