/- texts WA WE WF WG WI WK WL WJ WM WN WO WP WU WV WT in one. -/
import Derived.Test.YtkhcpnmbhbhcgaaDoorYau
import Derived.Test.YtkhcpnmbhbhcgaaDoorYat
import Derived.Test.YtkhcpnmbhbhcgaaDoorYav
import Derived.Test.YtkhcpnmbhbhcgaaDoorYax
import Derived.Test.YtkhcpnmbhbhcgaaDoorYay
import Derived.Test.YtkhcpnmbhbhcgaaDoorYaz
import Derived.Test.YtkhcpnmbhbhcgaaDoorYaa
import Derived.Deep.MidRow
import Derived.Deep.DeepCutAuto
import Derived.StillTailTactics
import Derived.Deep.WholeRow
import Derived.Deep.RegionHeld3

/- what greet's functions share: arrays by value; the digests, as letters; greet.label, sum, mac. -/
set_option maxRecDepth 100000
set_option linter.unusedVariables false
namespace Go.Proofs.YtkhcpnmbhbhcgaaDoor
open Go.RowKit Go.Joins
theorem AB_box (w : World) (t : TypeId) (xs : List UInt8) : AB (w.alloc (.cells (xs.map B).toArray t)) w.heap.size t xs := heap_alloc_new w _
theorem AB.al {w : World} {g : Nat} {t : TypeId} {vs : List UInt8} (h : AB w g t vs) (o : Obj) : AB (w.alloc o) g t vs := h.grown (World.grownBy_alloc w o none) (by simp)
theorem L_storeAB {w : World} {ops : Array Oper} {rest : List Oper} {o : Oper} {f : Act} {Q : Exit → Act → World → Prop} (hgd : o.guard = none) (t : TypeId) (x y : Operand) (ho : o.op = .store t x y)
    {g n : Nat} {old d : List UInt8} (hx : f.eval x = .pointer (some ⟨g, 0, none⟩)) (hy : f.eval y = .agg (d.map B).toArray) (hA : AB w g t old) (hi : (Tryd.prog.info? t).map (·.size) = some n) (hl : old.length = n) (hl2 : d.length = n)
    (h : ∀ w', AB w' g t d → w.grownBy w' (some g) → wpList Tryd.prog ops Q rest (f.put o.dst undef) w') : wpList Tryd.prog ops Q (o :: rest) f w := by
  refine wpList_store_row hgd t x y ho g _ hx hy t _ hA (by rw [List.size_toArray, List.length_map, hl2]; exact hi) (by simp [hl, hl2]) (by rw [Array.all_eq_true_iff_forall_mem]; intro v hv; exact one_B _ v (by simpa using hv)) ?_
  exact h _ (setRow_heap _ _ _ _ _ _ hA) (grownBy_setRow w g _)
theorem AB.rng {w : World} {g : Nat} {t : TypeId} {vs : List UInt8} (h : AB w g t vs) : w.rangeAt g 0 (vs.map B) := fun j v hv => by
  rw [List.getElem?_map] at hv
  obtain ⟨x, hx, rfl⟩ := Option.map_eq_some_iff.1 hv
  rw [Nat.zero_add]; exact h.cell j x hx
theorem AB.from {w : World} {g : Nat} {t : TypeId} {vs : List UInt8} (h : AB w g t vs) (m : Nat) (hm : m ≤ vs.length) (hl : vs.length ≤ maxLen) : BS w (some ⟨g, m, none⟩) (vs.length - m) (vs.length - m) (vs.drop m) := by
  refine ⟨by simp, Nat.le_refl _, by omega, one_B _, (fun h => by cases h), fun ad had => ?_⟩
  cases had
  refine ⟨fun _ => rfl, fun q v hq => ?_⟩
  rw [List.getElem?_map, List.getElem?_drop] at hq
  obtain ⟨x, hx, rfl⟩ := Option.map_eq_some_iff.1 hq
  exact h.cell _ x hx
theorem AB.bl {w w' : World} {g n : Nat} {t : TypeId} {vs : List UInt8} (h : AB w g t vs) (hb : Below n w w') (hg : g < n) : AB w' g t vs := by
  unfold AB at h ⊢
  rw [hb.block g hg]; exact h
theorem AB.whole {w : World} {g n : Nat} {t : TypeId} {vs : List UInt8} (h : AB w g t vs) (hl : vs.length = n) (hm : n ≤ 140737488355328) : BS w (some ⟨g, 0, none⟩) n n vs := by
  have := h.from 0 (Nat.zero_le _) (by unfold maxLen; omega)
  rw [List.drop_zero, Nat.sub_zero, hl] at this
  exact this
theorem rng_bel {n : Nat} {w w' : World} {b o : Nat} {cs : List Value} (h : w.rangeAt b o cs) (hb : Below n w w') (hg : b < n) : w'.rangeAt b o cs := fun j v hv =>
  (hb.cell (p := ⟨b, o + j, none⟩) hg).trans (h j v hv)
theorem S_storeAB {w : World} {ops : Array Oper} {o : Oper} {f : Act} {K : Act → World → Prop} {Q : Exit → Act → World → Prop} {E : Prop} (hgd : o.guard = none) (t : TypeId) (x y : Operand) (ho : o.op = .store t x y)
    {g n : Nat} {old d : List UInt8} (hx : f.eval x = .pointer (some ⟨g, 0, none⟩)) (hy : f.eval y = .agg (d.map B).toArray) (hA : AB w g t old) (hi : (Tryd.prog.info? t).map (·.size) = some n) (hl : old.length = n) (hl2 : d.length = n)
    (h : ∀ w', AB w' g t d → w.grownBy w' (some g) → K (f.put o.dst undef) w') : if Region.wanted o (yielded ops f.tmps) = true then Oper.wp Tryd.prog o f w K Q else E := by
  rw [if_pos (by simp [Region.wanted, hgd])]
  refine wp_store_row t x y ho g _ hx hy t _ hA (by rw [List.size_toArray, List.length_map, hl2]; exact hi) (by simp [hl, hl2]) (by rw [Array.all_eq_true_iff_forall_mem]; intro v hv; exact one_B _ v (by simpa using hv)) ?_
  exact h _ (setRow_heap _ _ _ _ _ _ hA) (grownBy_setRow w g _)
theorem BS.range {w : World} {b o n c : Nat} {xs : List UInt8} (h : BS w (some ⟨b, o, none⟩) n c xs) : w.rangeAt b o (xs.map B) := fun j v hv => (h.2.2.2.2.2 ⟨b, o, none⟩ rfl).2 j v hv
theorem run_arrayAt {P : Program} {t e : TypeId} {k : Nat} (hu : P.underlying t = some (.array k e)) (a : Option Addr) (n c : Nat) (h : k ≤ n) (w : World) : (Instr.arrayAt t (.slice a n c)).run P w = .ok (.pointer a) w := by
  unfold Instr.arrayAt
  rw [Sem.run_bind, run_underlying hu]
  simp [Result.andThen, Nat.not_lt.2 h]
theorem i32 : (Tryd.prog.info? 26).map (·.size) = some 32 := by kernel_rfl
theorem len32 {d : List UInt8} (h : d.length = 32) : (Tryd.prog.info? 26).map (·.size) = some (d.map B).length := by rw [List.length_map, h]; exact i32
theorem AB.bs32 {w : World} {g : Nat} {t : TypeId} {vs : List UInt8} (h : AB w g t vs) (hl : vs.length = 32) : BS w (some ⟨g, 0, none⟩) 32 32 vs := by
  have := h.bs (by rw [hl]; unfold maxLen; omega)
  rw [hl] at this; exact this
theorem btr {w w1 w2 : World} (h : Below w.heap.size w w1) (k : Below w1.heap.size w1 w2) : Below w.heap.size w w2 := h.trans (k.mono h.size)
/-! the digests, out of the walk's sight -/
theorem sumF_ex (p : List UInt8) : ∃ d : List UInt8, shaS p = d := ⟨_, rfl⟩
noncomputable def sumF (p : List UInt8) : List UInt8 := Classical.choose (sumF_ex p)
theorem sumF_eq (p : List UInt8) : shaS p = sumF p := Classical.choose_spec (sumF_ex p)
theorem sumF_len (p : List UInt8) : (sumF p).length = 32 := by rw [← sumF_eq]; exact shaS_len p
theorem macF_ex (k p : List UInt8) : ∃ d : List UInt8, macS k p = d := ⟨_, rfl⟩
noncomputable def macF (k p : List UInt8) : List UInt8 := Classical.choose (macF_ex k p)
theorem macF_eq (k p : List UInt8) : macS k p = macF k p := Classical.choose_spec (macF_ex k p)
theorem macF_len (k p : List UInt8) : (macF k p).length = 32 := by rw [← macF_eq]; exact shaS_len _
theorem labF_ex (k nm ctx : List UInt8) : ∃ d : List UInt8, expS k (labS nm ctx 32) 32 = d := ⟨_, rfl⟩
noncomputable def labF (k nm ctx : List UInt8) : List UInt8 := Classical.choose (labF_ex k nm ctx)
theorem labF_eq (k nm ctx : List UInt8) : expS k (labS nm ctx 32) 32 = labF k nm ctx := Classical.choose_spec (labF_ex k nm ctx)
theorem labF_len (k nm ctx : List UInt8) : (labF k nm ctx).length = 32 := by rw [← labF_eq]; exact expS_len _ _ _
def z32 : List UInt8 := List.replicate 32 0
theorem z32_len : z32.length = 32 := by simp [z32]
noncomputable def fmF (key p : List UInt8) : List UInt8 := macF (labF key [102, 105, 110, 105, 115, 104, 101, 100] []) (sumF p)
noncomputable def latF (key : List UInt8) : List UInt8 := macF (labF key [100, 101, 114, 105, 118, 101, 100] (sumF [])) z32
noncomputable def earF (sec : List UInt8) : List UInt8 := macF z32 sec
noncomputable def binF (sec p : List UInt8) : List UInt8 := fmF (labF (earF sec) [101, 120, 116, 32, 98, 105, 110, 100, 101, 114] (sumF [])) p
theorem fmF_len (key p : List UInt8) : (fmF key p).length = 32 := macF_len _ _
theorem latF_len (key : List UInt8) : (latF key).length = 32 := macF_len _ _
theorem earF_len (sec : List UInt8) : (earF sec).length = 32 := macF_len _ _
theorem binF_len (sec p : List UInt8) : (binF sec p).length = 32 := fmF_len _ _
theorem gsum_any (w : World) {a : Option Addr} {n c : Nat} {p : List UInt8} (hx : BS w a n c p) (hn : n ≤ 549755813888) (hK : KT w) :
    Calls Tryd.prog 61 #[.slice a n c] w fun e w' => ∃ g, e = .returned (.slice (some ⟨g, 0, none⟩) 32 32) ∧ AB w' g 26 (sumF p) ∧ w.heap.size ≤ g ∧ Below w.heap.size w w' := by
  have hs := sum_one w rfl hx (by omega) hK
  rw [sumF_eq] at hs
  have Hs := Lib.hid hs
  have hlen := sumF_len p
  obtain ⟨D, hD⟩ : ∃ D, sumF p = D := ⟨_, rfl⟩
  rw [hD] at Hs hlen ⊢
  clear hs hD hK hx
  go_enter Tryd.func61, Tryd.ntmps61
  go_upto_region 2 with (first
    | (go_at_call 70; refine Hs.out.mono ?_; rintro x w2 ⟨rfl, B2⟩)
    | (refine L_store32 rfl _ _ rfl rfl rfl (AB_zeros _ rfl) (by simp) hlen ?_; intro w3 hA3 hg3))
  have hbl := (B2.alloc B2.size _).grown hg3 (by have := B2.size; simp; omega) (fun k hk => by cases hk; exact B2.size)
  go_wp2
  go_ret
  exact ⟨_, rfl, hA3, B2.size, hbl⟩
end Go.Proofs.YtkhcpnmbhbhcgaaDoor

/- greet.label, mac, later. -/
set_option maxRecDepth 100000
set_option linter.unusedVariables false
namespace Go.Proofs.YtkhcpnmbhbhcgaaDoor
open Go.RowKit Go.Joins
set_option maxHeartbeats 2000000 in
theorem glab_any (w : World) {a2 : Option Addr} {n2 c2 : Nat} {key ctx nm : List UInt8} (hkl : key.length = 32) (s : ByteArray) (hs : s.size ≤ 249) (hnm : s.data.toList = nm) (hc : BS w a2 n2 c2 ctx) (h2 : n2 ≤ 255) (hK : KT w) :
    Calls Tryd.prog 59 #[.agg (key.map B).toArray, .string s, .slice a2 n2 c2] w fun e w' => e = .returned (.agg ((labF key nm ctx).map B).toArray) ∧ Below w.heap.size w w' := by
  have hdl := labF_len key nm ctx
  obtain ⟨d, hd⟩ : ∃ d, labF key nm ctx = d := ⟨_, rfl⟩
  have hZ := AB_zeros (w.alloc (.cells (key.map B).toArray 26)) rfl
  have hA := (AB_box w 26 key).al (.cells #[.int .u8 0, .int .u8 0, .int .u8 0, .int .u8 0, .int .u8 0, .int .u8 0, .int .u8 0, .int .u8 0, .int .u8 0, .int .u8 0, .int .u8 0, .int .u8 0, .int .u8 0, .int .u8 0, .int .u8 0, .int .u8 0, .int .u8 0, .int .u8 0, .int .u8 0, .int .u8 0, .int .u8 0, .int .u8 0, .int .u8 0, .int .u8 0, .int .u8 0, .int .u8 0, .int .u8 0, .int .u8 0, .int .u8 0, .int .u8 0, .int .u8 0, .int .u8 0] 26)
  have hb : Below w.heap.size w _ := (below_alloc w (.cells (key.map B).toArray 26)).alloc (by simp) (.cells #[.int .u8 0, .int .u8 0, .int .u8 0, .int .u8 0, .int .u8 0, .int .u8 0, .int .u8 0, .int .u8 0, .int .u8 0, .int .u8 0, .int .u8 0, .int .u8 0, .int .u8 0, .int .u8 0, .int .u8 0, .int .u8 0, .int .u8 0, .int .u8 0, .int .u8 0, .int .u8 0, .int .u8 0, .int .u8 0, .int .u8 0, .int .u8 0, .int .u8 0, .int .u8 0, .int .u8 0, .int .u8 0, .int .u8 0, .int .u8 0, .int .u8 0, .int .u8 0] 26)
  have hz1 : (w.alloc (.cells (key.map B).toArray 26)).heap.size = w.heap.size + 1 := by simp
  rw [hz1] at hZ
  have hc1 := RS.below hc hb (Nat.le_refl _)
  have HK1 := Lib.hid (hK.below hb (Nat.le_refl _))
  rw [hd] at hdl
  have hi32 := len32 hdl
  have hi2 : (Tryd.prog.info? 26).map (·.size) = some (d.map B).toArray.size := by rw [List.size_toArray]; exact hi32
  have HE := Lib.hid ((labF_eq key nm ctx).trans hd)
  rw [hd]
  clear hK hz1 hc hd
  go_enter Tryd.func59, Tryd.ntmps59
  go_upto_region 1 with (fail)
  generalize (World.alloc _ _) = W1 at *
  have hx := hA.bs32 hkl
  have Hi2 := Lib.hid hi2
  have Hi := Lib.hid hi32
  have hlb := label_new W1 s hx hc1 (by omega) hs h2 HK1.out 32 (by omega)
  rw [hnm, HE.out] at hlb
  have Hlb := Lib.hid hlb
  clear hi32 hi2 hlb hc1
  go_upto_region 2 with (go_at_call 68; refine Hlb.out.mono ?_; rintro e w2 ⟨a2, rfl, hb2, B2, -⟩)
  have hz2 := B2.size
  have hbw := hb.trans (B2.mono hb.size)
  have hZ2 := hZ.bl B2 hZ.lt
  obtain ⟨bn, on, rfl, -⟩ := hb2.at_ (by omega)
  have hr2 := hb2.range
  have hp2 : ∀ w', (Instr.arrayAt 26 (.slice (some ⟨bn, on, none⟩) 32 32)).run Tryd.prog w' = .ok (.pointer (some ⟨bn, on, none⟩)) w' := run_arrayAt Tryd.underlying26 _ 32 32 (Nat.le_refl _)
  clear hb2 hA hx hZ
  go_wp2_with (first
    | (refine wpList_load_mid rfl _ _ rfl bn on rfl (d.map B) _ hr2 Tryd.underlying26 rfl Hi.out ?_)
    | (refine L_store32 rfl _ _ rfl rfl rfl hZ2 (by simp) hdl ?_; intro w3 hA3 hg3))
  refine bodyPost_ret_by (results_cell_row rfl _ _ _ _ _ _ _ rfl hA3 Tryd.underlying26 rfl Hi2.out) rfl ⟨rfl, ?_⟩
  exact hbw.grown hg3 hbw.size (fun k hk => by cases hk; omega)
end Go.Proofs.YtkhcpnmbhbhcgaaDoor

/- greet.mac, later, early. -/
set_option maxRecDepth 100000
set_option linter.unusedVariables false
namespace Go.Proofs.YtkhcpnmbhbhcgaaDoor
open Go.RowKit Go.Joins
theorem rmac_one (w : World) {a b : Option Addr} {n c m k : Nat} {key p : List UInt8} (hk : BS w a n c key) (h : PS w b m k [p]) (hn : n ≤ 549755813888) (hm : m ≤ 1000) (hl : p.length ≤ 549755813888) (hK : KT w) :
    Calls Tryd.prog 67 #[.slice a n c, .slice b m k] w fun e w' => e = .returned (.agg ((macF key p).map B).toArray) ∧ Below w.heap.size w w' := by
  have h1 := mac_any w [p] hk h (by simp; omega) (by omega) (by omega) hK
  rw [show ([p] : List (List UInt8)).flatten = p by simp, macF_eq] at h1
  exact h1
theorem rext_any (w : World) {a0 a1 : Option Addr} {n0 c0 n1 c1 : Nat} {salt key : List UInt8} (hs : BS w a0 n0 c0 salt) (hk : BS w a1 n1 c1 key) (h0 : n0 ≤ 549755813888) (h1 : n1 ≤ 549755813888) (hK : KT w) :
    Calls Tryd.prog 69 #[.slice a0 n0 c0, .slice a1 n1 c1] w fun e w' => e = .returned (.agg ((macF salt key).map B).toArray) ∧ Below w.heap.size w w' := by
  have h := extract_any w hs hk h0 h1 hK
  rw [macF_eq] at h
  exact h
set_option maxHeartbeats 2000000 in
theorem gmac_any (w : World) {a : Option Addr} {n c : Nat} {key p : List UInt8} (hkl : key.length = 32) (hx : BS w a n c p) (hn : n ≤ 549755813888) (hK : KT w) :
    Calls Tryd.prog 58 #[.agg (key.map B).toArray, .slice a n c] w fun e w' => ∃ g, e = .returned (.slice (some ⟨g, 0, none⟩) 32 32) ∧ AB w' g 26 (fmF key p) ∧ w.heap.size ≤ g ∧ Below w.heap.size w w' := by
  have hA := AB_box w 26 key
  have hb := below_alloc w (.cells (key.map B).toArray 26)
  have hx1 := RS.alloc hx (.cells (key.map B).toArray 26)
  have hK1 := hK.below hb (Nat.le_refl _)
  have hpl := BS.len hx
  obtain ⟨F, hF⟩ : ∃ F, labF key [102, 105, 110, 105, 115, 104, 101, 100] [] = F := ⟨_, rfl⟩
  have hFl : F.length = 32 := by rw [← hF]; exact labF_len _ _ _
  obtain ⟨SP, hSP⟩ : ∃ SP, sumF p = SP := ⟨_, rfl⟩
  have hSl : SP.length = 32 := by rw [← hSP]; exact sumF_len _
  obtain ⟨M, hM⟩ : ∃ M, macF F SP = M := ⟨_, rfl⟩
  have hMl : M.length = 32 := by rw [← hM]; exact macF_len _ _
  have HM := Lib.hid hM
  have hfm : fmF key p = M := by unfold fmF; rw [hF, hSP, hM]
  have HSP := Lib.hid hSP
  rw [hfm]
  have hik := Lib.hid (len32 hkl)
  have Hlab := Lib.hid (fun (w' : World) (h : KT w') => glab_any w' (ctx := []) hkl { data := #[102, 105, 110, 105, 115, 104, 101, 100] } (by decide) rfl (RS_nil w' 1) (by omega) h)
  rw [hF] at Hlab
  clear hx hK hF hfm hSP hM
  go_enter Tryd.func58, Tryd.ntmps58
  go_upto_region 1 with (fail)
  generalize (World.alloc _ _) = W1 at *
  have rA := hA.rng
  have lA := hA.lt
  have HK1 := Lib.hid hK1
  have HX1 := Lib.hid hx1
  have HB1 := Lib.hid hb
  clear hA hK1 hx1 hb
  go_upto_region 2 with (first
    | (refine wpList_load_mid rfl _ _ rfl _ _ rfl (key.map B) _ rA Tryd.underlying26 rfl hik.out ?_)
    | (go_at_call 59; refine (Hlab.out _ HK1.out).mono ?_; rintro x w2 ⟨rfl, B2⟩)
    | (refine L_store32 rfl _ _ rfl rfl rfl (AB_zeros _ rfl) (by simp) hFl ?_; intro w3 hA3 hg3))
  have z2 := B2.size
  have b13 := (B2.alloc z2 _).grown hg3 (by simp; omega) (fun k hk => by cases hk; exact z2)
  obtain ⟨g5, hg5⟩ : ∃ g, w2.heap.size = g := ⟨_, rfl⟩
  rw [hg5] at hA3 z2 ⊢
  obtain ⟨V, hV⟩ : ∃ V, w3.drew = V := ⟨_, rfl⟩
  have h0 := RS.below HX1.out b13 (Nat.le_refl _)
  have h1 := HK1.out.below b13 (Nat.le_refl _)
  have h2 := HB1.out.trans (b13.mono HB1.out.size)
  have HFV := Lib.hid (show AB V g5 26 F by rw [← hV]; exact hA3)
  have HPV := Lib.hid (show BS V a n c p by rw [← hV]; exact h0)
  have HKV := Lib.hid (show KT V by rw [← hV]; exact h1)
  have HBV := Lib.hid (show Below w.heap.size w V by rw [← hV]; exact h2.drew)
  have Hmac := Lib.hid (fun (v' : World) (gb : Nat) (h1 : BS v' (some ⟨g5, 0, none⟩) 32 32 F) (h2 : PS v' (some ⟨gb, 0, none⟩) 1 1 [SP]) (hk : KT v') => rmac_one v' h1 h2 (by omega) (by omega) (by omega) hk)
  rw [HM.out] at Hmac
  have b0 : Below V.heap.size V V := Below.refl _ _
  have lF := HFV.out.lt
  clear h0 h1 h2 b13 B2 hA3 hg3 HK1 HX1 HB1 rA lA Hlab hg5 z2
  refine wp_region_held_drew (S := fun _ => True) (by kernel_rfl) trivial (fun hHeld => ?_)
  rw [hV]
  refine wpAnyH_take (i := 0) (v := .slice (some ⟨g5, 0, none⟩) 32 32) rfl (by kernel_rfl) (by kernel_rfl) (by kernel_rfl) (fun _ _ _ h => h) (Or.inl ⟨by rfl, fun w h => by go_simp⟩) hHeld ?_
  try simp only [Act.put, List.getElem_toArray, List.getElem_cons_zero, List.setIfInBounds_toArray, List.set_cons_zero, List.set_cons_succ]
  refine wpAnyH_take (i := 1) (v := .slice a n c) rfl (by kernel_rfl) (by kernel_rfl) (by kernel_rfl) (fun _ _ _ h => h) (Or.inl ⟨by rfl, fun w h => by go_simp⟩) hHeld ?_
  try simp only [Act.put, List.getElem_toArray, List.getElem_cons_succ, List.getElem_cons_zero, List.setIfInBounds_toArray, List.set_cons_zero, List.set_cons_succ]
  refine (fun (hka : Hid (∀ (w : World) (gs : Nat) (gb : Nat) (g6 : Nat), (Below V.heap.size V w ∧ AB w g6 26 (List.replicate 32 0) ∧ V.heap.size ≤ g6) → (?Pa : World → Nat → Nat → Nat → Prop) w gs gb g6)) => ?maina) (Lib.hid ?resta)
  case maina =>
    refine wpAnyH_ready (rs := [2, 5]) (by kernel_rfl) (by simp) (AllReadyH.cons rfl (fun K hK => ?qa1a) (AllReadyH.cons rfl (fun K hK => ?qa1b) AllReadyH.nil))
    case qa1a =>
      go_simp
      go_at_call 61
      refine ((gsum_any V (RS.below HPV.out b0 (Nat.le_refl _)) (by omega) (HKV.out.below b0 (Nat.le_refl _)))).mono ?_
      rintro x va1 ⟨gs, rfl, hS, hgs, Ba3⟩
      have ba2 := b0.trans (Ba3.mono b0.size)
      have ha4 : AB va1 gs 26 SP := by rw [← HSP.out]; exact hS
      refine hK.out _ _ (trivial) (fun hHeld => ?_)
      clear hK K
      try simp only [Act.put, List.getElem_toArray, List.getElem_cons_succ, List.getElem_cons_zero, List.setIfInBounds_toArray, List.set_cons_zero, List.set_cons_succ]
      refine wpAnyH_ready (rs := [3, 5]) (by kernel_rfl) (by simp) (AllReadyH.cons rfl (fun K hK => ?qa2a) (AllReadyH.cons rfl (fun K hK => ?qa2b) AllReadyH.nil))
      case qa2a =>
        go_simp
        have ba6 := ba2.alloc ba2.size (.cells #[.slice (some ⟨gs, 0, none⟩) 32 32] 22)
        have ha7 : PS (va1.alloc (.cells #[.slice (some ⟨gs, 0, none⟩) 32 32] 22)) (some ⟨va1.heap.size, 0, none⟩) 1 1 [SP] := PS_one rfl (ha4.bs32 hSl)
        have ha8 := ha4.al (.cells #[.slice (some ⟨gs, 0, none⟩) 32 32] 22)
        refine hK.out _ _ (trivial) (fun hHeld => ?_)
        clear hK K
        try simp only [Act.put, List.getElem_toArray, List.getElem_cons_succ, List.getElem_cons_zero, List.setIfInBounds_toArray, List.set_cons_zero, List.set_cons_succ]
        generalize (World.alloc _ _) = va5 at *
        obtain ⟨gb, hggb⟩ : ∃ g, va1.heap.size = g := ⟨_, rfl⟩
        rw [hggb] at ha7 ⊢
        refine wpAnyH_ready (rs := [4, 5]) (by kernel_rfl) (by simp) (AllReadyH.cons rfl (fun K hK => ?qa3a) (AllReadyH.cons rfl (fun K hK => ?qa3b) AllReadyH.nil))
        case qa3a =>
          go_simp
          go_at_call 67
          refine ((Hmac.out va5 gb ((HFV.out.bl ba6 lF).bs32 hFl) ha7 (HKV.out.below ba6 (Nat.le_refl _)))).mono ?_
          rintro x va9 ⟨rfl, Ba11⟩
          have ba10 := ba6.trans (Ba11.mono ba6.size)
          have ha12 := ha8.bl Ba11 ha8.lt
          have ha13 := ha7.keepb (fun k hk => Ba11.block k hk)
          refine hK.out _ _ (trivial) (fun hHeld => ?_)
          clear hK K
          try simp only [Act.put, List.getElem_toArray, List.getElem_cons_succ, List.getElem_cons_zero, List.setIfInBounds_toArray, List.set_cons_zero, List.set_cons_succ]
          refine wpAnyH_ready (rs := [5]) (by kernel_rfl) (by simp) (AllReadyH.cons rfl (fun K hK => ?_) AllReadyH.nil)
          go_simp
          have ba15 := ba10.alloc ba10.size (.cells #[.int .u8 0, .int .u8 0, .int .u8 0, .int .u8 0, .int .u8 0, .int .u8 0, .int .u8 0, .int .u8 0, .int .u8 0, .int .u8 0, .int .u8 0, .int .u8 0, .int .u8 0, .int .u8 0, .int .u8 0, .int .u8 0, .int .u8 0, .int .u8 0, .int .u8 0, .int .u8 0, .int .u8 0, .int .u8 0, .int .u8 0, .int .u8 0, .int .u8 0, .int .u8 0, .int .u8 0, .int .u8 0, .int .u8 0, .int .u8 0, .int .u8 0, .int .u8 0] 26)
          have ha16 : AB (va9.alloc (.cells #[.int .u8 0, .int .u8 0, .int .u8 0, .int .u8 0, .int .u8 0, .int .u8 0, .int .u8 0, .int .u8 0, .int .u8 0, .int .u8 0, .int .u8 0, .int .u8 0, .int .u8 0, .int .u8 0, .int .u8 0, .int .u8 0, .int .u8 0, .int .u8 0, .int .u8 0, .int .u8 0, .int .u8 0, .int .u8 0, .int .u8 0, .int .u8 0, .int .u8 0, .int .u8 0, .int .u8 0, .int .u8 0, .int .u8 0, .int .u8 0, .int .u8 0, .int .u8 0] 26)) va9.heap.size 26 (List.replicate 32 0) := AB_zeros va9 rfl
          have ha17 := ha12.al (.cells #[.int .u8 0, .int .u8 0, .int .u8 0, .int .u8 0, .int .u8 0, .int .u8 0, .int .u8 0, .int .u8 0, .int .u8 0, .int .u8 0, .int .u8 0, .int .u8 0, .int .u8 0, .int .u8 0, .int .u8 0, .int .u8 0, .int .u8 0, .int .u8 0, .int .u8 0, .int .u8 0, .int .u8 0, .int .u8 0, .int .u8 0, .int .u8 0, .int .u8 0, .int .u8 0, .int .u8 0, .int .u8 0, .int .u8 0, .int .u8 0, .int .u8 0, .int .u8 0] 26)
          have ha18 := ha13.keepb (fun k hk => Below.heap_alloc _ (.cells #[.int .u8 0, .int .u8 0, .int .u8 0, .int .u8 0, .int .u8 0, .int .u8 0, .int .u8 0, .int .u8 0, .int .u8 0, .int .u8 0, .int .u8 0, .int .u8 0, .int .u8 0, .int .u8 0, .int .u8 0, .int .u8 0, .int .u8 0, .int .u8 0, .int .u8 0, .int .u8 0, .int .u8 0, .int .u8 0, .int .u8 0, .int .u8 0, .int .u8 0, .int .u8 0, .int .u8 0, .int .u8 0, .int .u8 0, .int .u8 0, .int .u8 0, .int .u8 0] 26) k hk)
          refine hK.out _ _ (trivial) (fun hHeld => ?_)
          clear hK K
          try simp only [Act.put, List.getElem_toArray, List.getElem_cons_succ, List.getElem_cons_zero, List.setIfInBounds_toArray, List.set_cons_zero, List.set_cons_succ]
          generalize (World.alloc _ _) = va14 at *
          obtain ⟨g6, hgg6, ha19⟩ : ∃ g, va9.heap.size = g ∧ V.heap.size ≤ g := ⟨_, rfl, ba10.size⟩
          rw [hgg6] at ha16 ⊢
          exact hka.out va14 gs gb g6 ⟨ba15, ha16, ha19⟩
        case qa3b =>
          go_simp
          have ba21 := ba6.alloc ba6.size (.cells #[.int .u8 0, .int .u8 0, .int .u8 0, .int .u8 0, .int .u8 0, .int .u8 0, .int .u8 0, .int .u8 0, .int .u8 0, .int .u8 0, .int .u8 0, .int .u8 0, .int .u8 0, .int .u8 0, .int .u8 0, .int .u8 0, .int .u8 0, .int .u8 0, .int .u8 0, .int .u8 0, .int .u8 0, .int .u8 0, .int .u8 0, .int .u8 0, .int .u8 0, .int .u8 0, .int .u8 0, .int .u8 0, .int .u8 0, .int .u8 0, .int .u8 0, .int .u8 0] 26)
          have ha22 : AB (va5.alloc (.cells #[.int .u8 0, .int .u8 0, .int .u8 0, .int .u8 0, .int .u8 0, .int .u8 0, .int .u8 0, .int .u8 0, .int .u8 0, .int .u8 0, .int .u8 0, .int .u8 0, .int .u8 0, .int .u8 0, .int .u8 0, .int .u8 0, .int .u8 0, .int .u8 0, .int .u8 0, .int .u8 0, .int .u8 0, .int .u8 0, .int .u8 0, .int .u8 0, .int .u8 0, .int .u8 0, .int .u8 0, .int .u8 0, .int .u8 0, .int .u8 0, .int .u8 0, .int .u8 0] 26)) va5.heap.size 26 (List.replicate 32 0) := AB_zeros va5 rfl
          have ha23 := ha8.al (.cells #[.int .u8 0, .int .u8 0, .int .u8 0, .int .u8 0, .int .u8 0, .int .u8 0, .int .u8 0, .int .u8 0, .int .u8 0, .int .u8 0, .int .u8 0, .int .u8 0, .int .u8 0, .int .u8 0, .int .u8 0, .int .u8 0, .int .u8 0, .int .u8 0, .int .u8 0, .int .u8 0, .int .u8 0, .int .u8 0, .int .u8 0, .int .u8 0, .int .u8 0, .int .u8 0, .int .u8 0, .int .u8 0, .int .u8 0, .int .u8 0, .int .u8 0, .int .u8 0] 26)
          have ha24 := ha7.keepb (fun k hk => Below.heap_alloc _ (.cells #[.int .u8 0, .int .u8 0, .int .u8 0, .int .u8 0, .int .u8 0, .int .u8 0, .int .u8 0, .int .u8 0, .int .u8 0, .int .u8 0, .int .u8 0, .int .u8 0, .int .u8 0, .int .u8 0, .int .u8 0, .int .u8 0, .int .u8 0, .int .u8 0, .int .u8 0, .int .u8 0, .int .u8 0, .int .u8 0, .int .u8 0, .int .u8 0, .int .u8 0, .int .u8 0, .int .u8 0, .int .u8 0, .int .u8 0, .int .u8 0, .int .u8 0, .int .u8 0] 26) k hk)
          refine hK.out _ _ (trivial) (fun hHeld => ?_)
          clear hK K
          try simp only [Act.put, List.getElem_toArray, List.getElem_cons_succ, List.getElem_cons_zero, List.setIfInBounds_toArray, List.set_cons_zero, List.set_cons_succ]
          generalize (World.alloc _ _) = va20 at *
          obtain ⟨g6, hgg6, ha25⟩ : ∃ g, va5.heap.size = g ∧ V.heap.size ≤ g := ⟨_, rfl, ba6.size⟩
          rw [hgg6] at ha22 ⊢
          refine wpAnyH_ready (rs := [4]) (by kernel_rfl) (by simp) (AllReadyH.cons rfl (fun K hK => ?_) AllReadyH.nil)
          go_simp
          go_at_call 67
          refine ((Hmac.out va20 gb ((HFV.out.bl ba21 lF).bs32 hFl) ha24 (HKV.out.below ba21 (Nat.le_refl _)))).mono ?_
          rintro x va26 ⟨rfl, Ba28⟩
          have ba27 := ba21.trans (Ba28.mono ba21.size)
          have ha29 := ha23.bl Ba28 ha23.lt
          have ha30 := ha24.keepb (fun k hk => Ba28.block k hk)
          have ha31 := ha22.bl Ba28 ha22.lt
          have ha32 := ha25
          refine hK.out _ _ (trivial) (fun hHeld => ?_)
          clear hK K
          try simp only [Act.put, List.getElem_toArray, List.getElem_cons_succ, List.getElem_cons_zero, List.setIfInBounds_toArray, List.set_cons_zero, List.set_cons_succ]
          exact hka.out va26 gs gb g6 ⟨ba27, ha31, ha32⟩
      case qa2b =>
        go_simp
        have ba34 := ba2.alloc ba2.size (.cells #[.int .u8 0, .int .u8 0, .int .u8 0, .int .u8 0, .int .u8 0, .int .u8 0, .int .u8 0, .int .u8 0, .int .u8 0, .int .u8 0, .int .u8 0, .int .u8 0, .int .u8 0, .int .u8 0, .int .u8 0, .int .u8 0, .int .u8 0, .int .u8 0, .int .u8 0, .int .u8 0, .int .u8 0, .int .u8 0, .int .u8 0, .int .u8 0, .int .u8 0, .int .u8 0, .int .u8 0, .int .u8 0, .int .u8 0, .int .u8 0, .int .u8 0, .int .u8 0] 26)
        have ha35 : AB (va1.alloc (.cells #[.int .u8 0, .int .u8 0, .int .u8 0, .int .u8 0, .int .u8 0, .int .u8 0, .int .u8 0, .int .u8 0, .int .u8 0, .int .u8 0, .int .u8 0, .int .u8 0, .int .u8 0, .int .u8 0, .int .u8 0, .int .u8 0, .int .u8 0, .int .u8 0, .int .u8 0, .int .u8 0, .int .u8 0, .int .u8 0, .int .u8 0, .int .u8 0, .int .u8 0, .int .u8 0, .int .u8 0, .int .u8 0, .int .u8 0, .int .u8 0, .int .u8 0, .int .u8 0] 26)) va1.heap.size 26 (List.replicate 32 0) := AB_zeros va1 rfl
        have ha36 := ha4.al (.cells #[.int .u8 0, .int .u8 0, .int .u8 0, .int .u8 0, .int .u8 0, .int .u8 0, .int .u8 0, .int .u8 0, .int .u8 0, .int .u8 0, .int .u8 0, .int .u8 0, .int .u8 0, .int .u8 0, .int .u8 0, .int .u8 0, .int .u8 0, .int .u8 0, .int .u8 0, .int .u8 0, .int .u8 0, .int .u8 0, .int .u8 0, .int .u8 0, .int .u8 0, .int .u8 0, .int .u8 0, .int .u8 0, .int .u8 0, .int .u8 0, .int .u8 0, .int .u8 0] 26)
        refine hK.out _ _ (trivial) (fun hHeld => ?_)
        clear hK K
        try simp only [Act.put, List.getElem_toArray, List.getElem_cons_succ, List.getElem_cons_zero, List.setIfInBounds_toArray, List.set_cons_zero, List.set_cons_succ]
        generalize (World.alloc _ _) = va33 at *
        obtain ⟨g6, hgg6, ha37⟩ : ∃ g, va1.heap.size = g ∧ V.heap.size ≤ g := ⟨_, rfl, ba2.size⟩
        rw [hgg6] at ha35 ⊢
        refine wpAnyH_ready (rs := [3]) (by kernel_rfl) (by simp) (AllReadyH.cons rfl (fun K hK => ?_) AllReadyH.nil)
        go_simp
        have ba39 := ba34.alloc ba34.size (.cells #[.slice (some ⟨gs, 0, none⟩) 32 32] 22)
        have ha40 : PS (va33.alloc (.cells #[.slice (some ⟨gs, 0, none⟩) 32 32] 22)) (some ⟨va33.heap.size, 0, none⟩) 1 1 [SP] := PS_one rfl (ha36.bs32 hSl)
        have ha41 := ha36.al (.cells #[.slice (some ⟨gs, 0, none⟩) 32 32] 22)
        have ha42 := ha35.al (.cells #[.slice (some ⟨gs, 0, none⟩) 32 32] 22)
        have ha43 := ha37
        refine hK.out _ _ (trivial) (fun hHeld => ?_)
        clear hK K
        try simp only [Act.put, List.getElem_toArray, List.getElem_cons_succ, List.getElem_cons_zero, List.setIfInBounds_toArray, List.set_cons_zero, List.set_cons_succ]
        generalize (World.alloc _ _) = va38 at *
        obtain ⟨gb, hggb⟩ : ∃ g, va33.heap.size = g := ⟨_, rfl⟩
        rw [hggb] at ha40 ⊢
        refine wpAnyH_ready (rs := [4]) (by kernel_rfl) (by simp) (AllReadyH.cons rfl (fun K hK => ?_) AllReadyH.nil)
        go_simp
        go_at_call 67
        refine ((Hmac.out va38 gb ((HFV.out.bl ba39 lF).bs32 hFl) ha40 (HKV.out.below ba39 (Nat.le_refl _)))).mono ?_
        rintro x va44 ⟨rfl, Ba46⟩
        have ba45 := ba39.trans (Ba46.mono ba39.size)
        have ha47 := ha41.bl Ba46 ha41.lt
        have ha48 := ha42.bl Ba46 ha42.lt
        have ha49 := ha43
        have ha50 := ha40.keepb (fun k hk => Ba46.block k hk)
        refine hK.out _ _ (trivial) (fun hHeld => ?_)
        clear hK K
        try simp only [Act.put, List.getElem_toArray, List.getElem_cons_succ, List.getElem_cons_zero, List.setIfInBounds_toArray, List.set_cons_zero, List.set_cons_succ]
        exact hka.out va44 gs gb g6 ⟨ba45, ha48, ha49⟩
    case qa1b =>
      go_simp
      have ba52 := b0.alloc b0.size (.cells #[.int .u8 0, .int .u8 0, .int .u8 0, .int .u8 0, .int .u8 0, .int .u8 0, .int .u8 0, .int .u8 0, .int .u8 0, .int .u8 0, .int .u8 0, .int .u8 0, .int .u8 0, .int .u8 0, .int .u8 0, .int .u8 0, .int .u8 0, .int .u8 0, .int .u8 0, .int .u8 0, .int .u8 0, .int .u8 0, .int .u8 0, .int .u8 0, .int .u8 0, .int .u8 0, .int .u8 0, .int .u8 0, .int .u8 0, .int .u8 0, .int .u8 0, .int .u8 0] 26)
      have ha53 : AB (V.alloc (.cells #[.int .u8 0, .int .u8 0, .int .u8 0, .int .u8 0, .int .u8 0, .int .u8 0, .int .u8 0, .int .u8 0, .int .u8 0, .int .u8 0, .int .u8 0, .int .u8 0, .int .u8 0, .int .u8 0, .int .u8 0, .int .u8 0, .int .u8 0, .int .u8 0, .int .u8 0, .int .u8 0, .int .u8 0, .int .u8 0, .int .u8 0, .int .u8 0, .int .u8 0, .int .u8 0, .int .u8 0, .int .u8 0, .int .u8 0, .int .u8 0, .int .u8 0, .int .u8 0] 26)) V.heap.size 26 (List.replicate 32 0) := AB_zeros V rfl
      refine hK.out _ _ (trivial) (fun hHeld => ?_)
      clear hK K
      try simp only [Act.put, List.getElem_toArray, List.getElem_cons_succ, List.getElem_cons_zero, List.setIfInBounds_toArray, List.set_cons_zero, List.set_cons_succ]
      generalize (World.alloc _ _) = va51 at *
      obtain ⟨g6, hgg6, ha54⟩ : ∃ g, V.heap.size = g ∧ V.heap.size ≤ g := ⟨_, rfl, b0.size⟩
      rw [hgg6] at ha53 ⊢
      refine wpAnyH_ready (rs := [2]) (by kernel_rfl) (by simp) (AllReadyH.cons rfl (fun K hK => ?_) AllReadyH.nil)
      go_simp
      go_at_call 61
      refine ((gsum_any va51 (RS.below HPV.out ba52 (Nat.le_refl _)) (by omega) (HKV.out.below ba52 (Nat.le_refl _)))).mono ?_
      rintro x va55 ⟨gs, rfl, hS, hgs, Ba57⟩
      have ba56 := ba52.trans (Ba57.mono ba52.size)
      have ha58 := ha53.bl Ba57 ha53.lt
      have ha59 := ha54
      have ha60 : AB va55 gs 26 SP := by rw [← HSP.out]; exact hS
      refine hK.out _ _ (trivial) (fun hHeld => ?_)
      clear hK K
      try simp only [Act.put, List.getElem_toArray, List.getElem_cons_succ, List.getElem_cons_zero, List.setIfInBounds_toArray, List.set_cons_zero, List.set_cons_succ]
      refine wpAnyH_ready (rs := [3]) (by kernel_rfl) (by simp) (AllReadyH.cons rfl (fun K hK => ?_) AllReadyH.nil)
      go_simp
      have ba62 := ba56.alloc ba56.size (.cells #[.slice (some ⟨gs, 0, none⟩) 32 32] 22)
      have ha63 : PS (va55.alloc (.cells #[.slice (some ⟨gs, 0, none⟩) 32 32] 22)) (some ⟨va55.heap.size, 0, none⟩) 1 1 [SP] := PS_one rfl (ha60.bs32 hSl)
      have ha64 := ha58.al (.cells #[.slice (some ⟨gs, 0, none⟩) 32 32] 22)
      have ha65 := ha59
      have ha66 := ha60.al (.cells #[.slice (some ⟨gs, 0, none⟩) 32 32] 22)
      refine hK.out _ _ (trivial) (fun hHeld => ?_)
      clear hK K
      try simp only [Act.put, List.getElem_toArray, List.getElem_cons_succ, List.getElem_cons_zero, List.setIfInBounds_toArray, List.set_cons_zero, List.set_cons_succ]
      generalize (World.alloc _ _) = va61 at *
      obtain ⟨gb, hggb⟩ : ∃ g, va55.heap.size = g := ⟨_, rfl⟩
      rw [hggb] at ha63 ⊢
      refine wpAnyH_ready (rs := [4]) (by kernel_rfl) (by simp) (AllReadyH.cons rfl (fun K hK => ?_) AllReadyH.nil)
      go_simp
      go_at_call 67
      refine ((Hmac.out va61 gb ((HFV.out.bl ba62 lF).bs32 hFl) ha63 (HKV.out.below ba62 (Nat.le_refl _)))).mono ?_
      rintro x va67 ⟨rfl, Ba69⟩
      have ba68 := ba62.trans (Ba69.mono ba62.size)
      have ha70 := ha64.bl Ba69 ha64.lt
      have ha71 := ha65
      have ha72 := ha66.bl Ba69 ha66.lt
      have ha73 := ha63.keepb (fun k hk => Ba69.block k hk)
      refine hK.out _ _ (trivial) (fun hHeld => ?_)
      clear hK K
      try simp only [Act.put, List.getElem_toArray, List.getElem_cons_succ, List.getElem_cons_zero, List.setIfInBounds_toArray, List.set_cons_zero, List.set_cons_succ]
      exact hka.out va67 gs gb g6 ⟨ba68, ha70, ha71⟩
  case resta =>
    rintro va gs gb g6 ⟨ba, ha_Z, ha_L⟩
    have hHeld := trivial
    refine wpAnyH_ready (rs := [6]) (by kernel_rfl) (by simp) (AllReadyH.cons rfl (fun K hK => ?_) AllReadyH.nil)
    refine S_storeAB rfl _ _ _ rfl rfl rfl ha_Z i32 (by simp) hMl ?_
    intro va74 hA gr
    have ba75 := ba.grown gr ba.size (fun k hk => by cases hk; exact ha_L)
    refine hK.out _ _ (trivial) (fun hHeld => ?_)
    clear hK K
    try simp only [Act.put, List.getElem_toArray, List.getElem_cons_succ, List.getElem_cons_zero]
    refine wpAnyH_done (by kernel_rfl) ?_ _
    try simp only [Act.put, List.getElem_toArray, List.getElem_cons_succ, List.getElem_cons_zero]
    have bf := HBV.out.trans (ba75.mono HBV.out.size)
    have lf := Nat.le_trans HBV.out.size ha_L
    clear hHeld
    go_wp2
    go_ret
    exact ⟨g6, rfl, hA, lf, bf⟩
theorem run_make32 (W : World) : (Instr.makeSlice 22 (.int .i64 32) (.int .i64 32)).run Tryd.prog W = .ok (.slice (some ⟨W.heap.size, 0, none⟩) 32 32) (W.alloc (.cells (z32.map B).toArray 5)) := by
  obtain ⟨i, hi, hz0, hz1, hz2⟩ := info_parts tB.info
  have h := run_makeSlice (P := Tryd.prog) (w := W) 22 5 i _ tB.und hi hz0 .i64 .i64 32 32 (by omega) (by omega) (by rw [hz1]; decide) (by rw [hz2]; decide) (by omega)
  rw [hz1] at h
  rw [h]
  have e : madeCells (Value.int .u8 0).cells 32 = (z32.map B).toArray := by
    apply Array.ext'
    rw [show (Value.int .u8 0).cells = #[Value.int .u8 0] from rfl, toList_madeCells_one]
    rfl
  exact congrArg (fun c => Result.ok (Value.slice (some ⟨W.heap.size, 0, none⟩) 32 32) (W.alloc (.cells c 5))) e
set_option maxHeartbeats 4000000 in
theorem glater_any (w : World) {key : List UInt8} (hkl : key.length = 32) (hK : KT w) :
    Calls Tryd.prog 74 #[.agg (key.map B).toArray] w fun e w' => e = .returned (.agg ((latF key).map B).toArray) ∧ Below w.heap.size w w' := by
  have hA := (AB_box w 26 key).al (.cells #[.int .u8 0, .int .u8 0, .int .u8 0, .int .u8 0, .int .u8 0, .int .u8 0, .int .u8 0, .int .u8 0, .int .u8 0, .int .u8 0, .int .u8 0, .int .u8 0, .int .u8 0, .int .u8 0, .int .u8 0, .int .u8 0, .int .u8 0, .int .u8 0, .int .u8 0, .int .u8 0, .int .u8 0, .int .u8 0, .int .u8 0, .int .u8 0, .int .u8 0, .int .u8 0, .int .u8 0, .int .u8 0, .int .u8 0, .int .u8 0, .int .u8 0, .int .u8 0] 26)
  have hb : Below w.heap.size w _ := (below_alloc w (.cells (key.map B).toArray 26)).alloc (by simp) (.cells #[.int .u8 0, .int .u8 0, .int .u8 0, .int .u8 0, .int .u8 0, .int .u8 0, .int .u8 0, .int .u8 0, .int .u8 0, .int .u8 0, .int .u8 0, .int .u8 0, .int .u8 0, .int .u8 0, .int .u8 0, .int .u8 0, .int .u8 0, .int .u8 0, .int .u8 0, .int .u8 0, .int .u8 0, .int .u8 0, .int .u8 0, .int .u8 0, .int .u8 0, .int .u8 0, .int .u8 0, .int .u8 0, .int .u8 0, .int .u8 0, .int .u8 0, .int .u8 0] 26)
  have hZ := AB_zeros (w.alloc (.cells (key.map B).toArray 26)) rfl
  rw [show (w.alloc (.cells (key.map B).toArray 26)).heap.size = w.heap.size + 1 by simp] at hZ
  have hK1 := hK.below hb (Nat.le_refl _)
  obtain ⟨E, hE⟩ : ∃ E, sumF [] = E := ⟨_, rfl⟩
  have hEl : E.length = 32 := by rw [← hE]; exact sumF_len _
  obtain ⟨D, hD⟩ : ∃ D, labF key [100, 101, 114, 105, 118, 101, 100] E = D := ⟨_, rfl⟩
  have hDl : D.length = 32 := by rw [← hD]; exact labF_len _ _ _
  obtain ⟨L, hL⟩ : ∃ L, macF D z32 = L := ⟨_, rfl⟩
  have hLl : L.length = 32 := by rw [← hL]; exact macF_len _ _
  have hlt : latF key = L := by unfold latF; rw [hE, hD, hL]
  rw [hlt]
  have Hsum := Lib.hid (fun (w' : World) (h : KT w') => gsum_any w' (p := []) (RS_nil w' 1) (by omega) h)
  rw [hE] at Hsum
  have Hlab := Lib.hid (fun (w' : World) (g : Nat) (hc : BS w' (some ⟨g, 0, none⟩) 32 32 E) (h : KT w') => glab_any w' hkl { data := #[100, 101, 114, 105, 118, 101, 100] } (by decide) rfl hc (by omega) h)
  rw [hD] at Hlab
  have Hext := Lib.hid (fun (w' : World) (g gz : Nat) (h1 : BS w' (some ⟨g, 0, none⟩) 32 32 D) (h2 : BS w' (some ⟨gz, 0, none⟩) 32 32 z32) (h : KT w') => rext_any w' h1 h2 (by omega) (by omega) h)
  rw [hL] at Hext
  have hik := len32 hkl
  have hu32 := Tryd.underlying26
  have iL := len32 hLl
  have Hi2 := Lib.hid (show (Tryd.prog.info? 26).map (·.size) = some (L.map B).toArray.size by rw [List.size_toArray]; exact iL)
  clear hK hE hD hL hlt iL
  go_enter Tryd.func74, Tryd.ntmps74
  go_upto_region 1 with (fail)
  generalize (World.alloc _ _) = W1 at *
  obtain ⟨g1, hg1⟩ : ∃ g, w.heap.size = g := ⟨_, rfl⟩
  obtain ⟨g2, hg2⟩ : ∃ g, w.heap.size + 1 = g := ⟨_, rfl⟩
  have hbw : Below w.heap.size w W1 := hb
  have l12 : w.heap.size ≤ g2 := by omega
  have HB1 := Lib.hid hbw
  have HL12 := Lib.hid l12
  rw [hg2] at hZ ⊢
  rw [hg1] at hA ⊢
  obtain ⟨V, hV⟩ : ∃ V, W1.drew = V := ⟨_, rfl⟩
  have HAV := Lib.hid (show AB V g1 26 key by rw [← hV]; exact hA)
  have HZV := Lib.hid (show AB V g2 26 (List.replicate 32 0) by rw [← hV]; exact hZ)
  have HKV := Lib.hid (show KT V by rw [← hV]; exact hK1)
  have HBV := Lib.hid (show Below w.heap.size w V by rw [← hV]; exact HB1.out.drew)
  have b0 : Below V.heap.size V V := Below.refl _ _
  have lA := HAV.out.lt
  have lZ := HZV.out.lt
  clear hA hZ hK1 hb hbw l12 hg1 hg2 HB1
  refine wp_region_held_drew (S := fun w' => w'.rangeAt g1 0 (key.map B)) (by kernel_rfl) (by rw [hV]; exact HAV.out.rng) (fun hHeld => ?_)
  rw [hV] at hHeld ⊢
  refine wpAnyH_take (i := 0) rfl (by kernel_rfl) (by kernel_rfl) (by kernel_rfl) (fun _ _ _ h => h) (yieldsIf_load_mid (by rfl) _ _ rfl _ _ rfl _ _ (fun w h => h) hu32 rfl hik) hHeld ?_
  try simp only [Act.put, List.getElem_toArray, List.getElem_cons_zero, List.setIfInBounds_toArray, List.set_cons_zero, List.set_cons_succ]
  refine (fun (hka : Hid (∀ (w : World) (gs : Nat) (g3 : Nat), (Below V.heap.size V w ∧ AB w g3 26 (List.replicate 32 0) ∧ V.heap.size ≤ g3) → (?Pa : World → Nat → Nat → Prop) w gs g3)) => ?maina) (Lib.hid ?resta)
  case maina =>
    refine wpAnyH_ready (rs := [1, 3]) (by kernel_rfl) (by simp) (AllReadyH.cons rfl (fun K hK => ?qa1a) (AllReadyH.cons rfl (fun K hK => ?qa1b) AllReadyH.nil))
    case qa1a =>
      go_simp
      go_at_call 61
      refine ((Hsum.out V (HKV.out.below b0 (Nat.le_refl _)))).mono ?_
      rintro x va1 ⟨gs, rfl, hS, hgs, Ba3⟩
      have ba2 := b0.trans (Ba3.mono b0.size)
      have ha4 : AB va1 gs 26 E := hS
      refine hK.out _ _ ((HAV.out.bl ba2 lA).rng) (fun hHeld => ?_)
      clear hK K
      try simp only [Act.put, List.getElem_toArray, List.getElem_cons_succ, List.getElem_cons_zero, List.setIfInBounds_toArray, List.set_cons_zero, List.set_cons_succ]
      refine wpAnyH_ready (rs := [2, 3]) (by kernel_rfl) (by simp) (AllReadyH.cons rfl (fun K hK => ?qa2a) (AllReadyH.cons rfl (fun K hK => ?qa2b) AllReadyH.nil))
      case qa2a =>
        go_simp
        go_at_call 59
        refine ((Hlab.out va1 gs (ha4.bs32 hEl) (HKV.out.below ba2 (Nat.le_refl _)))).mono ?_
        rintro x va5 ⟨rfl, Ba7⟩
        have ba6 := ba2.trans (Ba7.mono ba2.size)
        have ha8 := ha4.bl Ba7 ha4.lt
        refine hK.out _ _ ((HAV.out.bl ba6 lA).rng) (fun hHeld => ?_)
        clear hK K
        try simp only [Act.put, List.getElem_toArray, List.getElem_cons_succ, List.getElem_cons_zero, List.setIfInBounds_toArray, List.set_cons_zero, List.set_cons_succ]
        refine wpAnyH_ready (rs := [3]) (by kernel_rfl) (by simp) (AllReadyH.cons rfl (fun K hK => ?_) AllReadyH.nil)
        go_simp
        have ba10 := ba6.alloc ba6.size (.cells #[.int .u8 0, .int .u8 0, .int .u8 0, .int .u8 0, .int .u8 0, .int .u8 0, .int .u8 0, .int .u8 0, .int .u8 0, .int .u8 0, .int .u8 0, .int .u8 0, .int .u8 0, .int .u8 0, .int .u8 0, .int .u8 0, .int .u8 0, .int .u8 0, .int .u8 0, .int .u8 0, .int .u8 0, .int .u8 0, .int .u8 0, .int .u8 0, .int .u8 0, .int .u8 0, .int .u8 0, .int .u8 0, .int .u8 0, .int .u8 0, .int .u8 0, .int .u8 0] 26)
        have ha11 : AB (va5.alloc (.cells #[.int .u8 0, .int .u8 0, .int .u8 0, .int .u8 0, .int .u8 0, .int .u8 0, .int .u8 0, .int .u8 0, .int .u8 0, .int .u8 0, .int .u8 0, .int .u8 0, .int .u8 0, .int .u8 0, .int .u8 0, .int .u8 0, .int .u8 0, .int .u8 0, .int .u8 0, .int .u8 0, .int .u8 0, .int .u8 0, .int .u8 0, .int .u8 0, .int .u8 0, .int .u8 0, .int .u8 0, .int .u8 0, .int .u8 0, .int .u8 0, .int .u8 0, .int .u8 0] 26)) va5.heap.size 26 (List.replicate 32 0) := AB_zeros va5 rfl
        have ha12 := ha8.al (.cells #[.int .u8 0, .int .u8 0, .int .u8 0, .int .u8 0, .int .u8 0, .int .u8 0, .int .u8 0, .int .u8 0, .int .u8 0, .int .u8 0, .int .u8 0, .int .u8 0, .int .u8 0, .int .u8 0, .int .u8 0, .int .u8 0, .int .u8 0, .int .u8 0, .int .u8 0, .int .u8 0, .int .u8 0, .int .u8 0, .int .u8 0, .int .u8 0, .int .u8 0, .int .u8 0, .int .u8 0, .int .u8 0, .int .u8 0, .int .u8 0, .int .u8 0, .int .u8 0] 26)
        refine hK.out _ _ ((HAV.out.bl ba10 lA).rng) (fun hHeld => ?_)
        clear hK K
        try simp only [Act.put, List.getElem_toArray, List.getElem_cons_succ, List.getElem_cons_zero, List.setIfInBounds_toArray, List.set_cons_zero, List.set_cons_succ]
        generalize (World.alloc _ _) = va9 at *
        obtain ⟨g3, hgg3, ha13⟩ : ∃ g, va5.heap.size = g ∧ V.heap.size ≤ g := ⟨_, rfl, ba6.size⟩
        rw [hgg3] at ha11 ⊢
        exact hka.out va9 gs g3 ⟨ba10, ha11, ha13⟩
      case qa2b =>
        go_simp
        have ba15 := ba2.alloc ba2.size (.cells #[.int .u8 0, .int .u8 0, .int .u8 0, .int .u8 0, .int .u8 0, .int .u8 0, .int .u8 0, .int .u8 0, .int .u8 0, .int .u8 0, .int .u8 0, .int .u8 0, .int .u8 0, .int .u8 0, .int .u8 0, .int .u8 0, .int .u8 0, .int .u8 0, .int .u8 0, .int .u8 0, .int .u8 0, .int .u8 0, .int .u8 0, .int .u8 0, .int .u8 0, .int .u8 0, .int .u8 0, .int .u8 0, .int .u8 0, .int .u8 0, .int .u8 0, .int .u8 0] 26)
        have ha16 : AB (va1.alloc (.cells #[.int .u8 0, .int .u8 0, .int .u8 0, .int .u8 0, .int .u8 0, .int .u8 0, .int .u8 0, .int .u8 0, .int .u8 0, .int .u8 0, .int .u8 0, .int .u8 0, .int .u8 0, .int .u8 0, .int .u8 0, .int .u8 0, .int .u8 0, .int .u8 0, .int .u8 0, .int .u8 0, .int .u8 0, .int .u8 0, .int .u8 0, .int .u8 0, .int .u8 0, .int .u8 0, .int .u8 0, .int .u8 0, .int .u8 0, .int .u8 0, .int .u8 0, .int .u8 0] 26)) va1.heap.size 26 (List.replicate 32 0) := AB_zeros va1 rfl
        have ha17 := ha4.al (.cells #[.int .u8 0, .int .u8 0, .int .u8 0, .int .u8 0, .int .u8 0, .int .u8 0, .int .u8 0, .int .u8 0, .int .u8 0, .int .u8 0, .int .u8 0, .int .u8 0, .int .u8 0, .int .u8 0, .int .u8 0, .int .u8 0, .int .u8 0, .int .u8 0, .int .u8 0, .int .u8 0, .int .u8 0, .int .u8 0, .int .u8 0, .int .u8 0, .int .u8 0, .int .u8 0, .int .u8 0, .int .u8 0, .int .u8 0, .int .u8 0, .int .u8 0, .int .u8 0] 26)
        refine hK.out _ _ ((HAV.out.bl ba15 lA).rng) (fun hHeld => ?_)
        clear hK K
        try simp only [Act.put, List.getElem_toArray, List.getElem_cons_succ, List.getElem_cons_zero, List.setIfInBounds_toArray, List.set_cons_zero, List.set_cons_succ]
        generalize (World.alloc _ _) = va14 at *
        obtain ⟨g3, hgg3, ha18⟩ : ∃ g, va1.heap.size = g ∧ V.heap.size ≤ g := ⟨_, rfl, ba2.size⟩
        rw [hgg3] at ha16 ⊢
        refine wpAnyH_ready (rs := [2]) (by kernel_rfl) (by simp) (AllReadyH.cons rfl (fun K hK => ?_) AllReadyH.nil)
        go_simp
        go_at_call 59
        refine ((Hlab.out va14 gs (ha17.bs32 hEl) (HKV.out.below ba15 (Nat.le_refl _)))).mono ?_
        rintro x va19 ⟨rfl, Ba21⟩
        have ba20 := ba15.trans (Ba21.mono ba15.size)
        have ha22 := ha17.bl Ba21 ha17.lt
        have ha23 := ha16.bl Ba21 ha16.lt
        have ha24 := ha18
        refine hK.out _ _ ((HAV.out.bl ba20 lA).rng) (fun hHeld => ?_)
        clear hK K
        try simp only [Act.put, List.getElem_toArray, List.getElem_cons_succ, List.getElem_cons_zero, List.setIfInBounds_toArray, List.set_cons_zero, List.set_cons_succ]
        exact hka.out va19 gs g3 ⟨ba20, ha23, ha24⟩
    case qa1b =>
      go_simp
      have ba26 := b0.alloc b0.size (.cells #[.int .u8 0, .int .u8 0, .int .u8 0, .int .u8 0, .int .u8 0, .int .u8 0, .int .u8 0, .int .u8 0, .int .u8 0, .int .u8 0, .int .u8 0, .int .u8 0, .int .u8 0, .int .u8 0, .int .u8 0, .int .u8 0, .int .u8 0, .int .u8 0, .int .u8 0, .int .u8 0, .int .u8 0, .int .u8 0, .int .u8 0, .int .u8 0, .int .u8 0, .int .u8 0, .int .u8 0, .int .u8 0, .int .u8 0, .int .u8 0, .int .u8 0, .int .u8 0] 26)
      have ha27 : AB (V.alloc (.cells #[.int .u8 0, .int .u8 0, .int .u8 0, .int .u8 0, .int .u8 0, .int .u8 0, .int .u8 0, .int .u8 0, .int .u8 0, .int .u8 0, .int .u8 0, .int .u8 0, .int .u8 0, .int .u8 0, .int .u8 0, .int .u8 0, .int .u8 0, .int .u8 0, .int .u8 0, .int .u8 0, .int .u8 0, .int .u8 0, .int .u8 0, .int .u8 0, .int .u8 0, .int .u8 0, .int .u8 0, .int .u8 0, .int .u8 0, .int .u8 0, .int .u8 0, .int .u8 0] 26)) V.heap.size 26 (List.replicate 32 0) := AB_zeros V rfl
      refine hK.out _ _ ((HAV.out.bl ba26 lA).rng) (fun hHeld => ?_)
      clear hK K
      try simp only [Act.put, List.getElem_toArray, List.getElem_cons_succ, List.getElem_cons_zero, List.setIfInBounds_toArray, List.set_cons_zero, List.set_cons_succ]
      generalize (World.alloc _ _) = va25 at *
      obtain ⟨g3, hgg3, ha28⟩ : ∃ g, V.heap.size = g ∧ V.heap.size ≤ g := ⟨_, rfl, b0.size⟩
      rw [hgg3] at ha27 ⊢
      refine wpAnyH_ready (rs := [1]) (by kernel_rfl) (by simp) (AllReadyH.cons rfl (fun K hK => ?_) AllReadyH.nil)
      go_simp
      go_at_call 61
      refine ((Hsum.out va25 (HKV.out.below ba26 (Nat.le_refl _)))).mono ?_
      rintro x va29 ⟨gs, rfl, hS, hgs, Ba31⟩
      have ba30 := ba26.trans (Ba31.mono ba26.size)
      have ha32 := ha27.bl Ba31 ha27.lt
      have ha33 := ha28
      have ha34 : AB va29 gs 26 E := hS
      refine hK.out _ _ ((HAV.out.bl ba30 lA).rng) (fun hHeld => ?_)
      clear hK K
      try simp only [Act.put, List.getElem_toArray, List.getElem_cons_succ, List.getElem_cons_zero, List.setIfInBounds_toArray, List.set_cons_zero, List.set_cons_succ]
      refine wpAnyH_ready (rs := [2]) (by kernel_rfl) (by simp) (AllReadyH.cons rfl (fun K hK => ?_) AllReadyH.nil)
      go_simp
      go_at_call 59
      refine ((Hlab.out va29 gs (ha34.bs32 hEl) (HKV.out.below ba30 (Nat.le_refl _)))).mono ?_
      rintro x va35 ⟨rfl, Ba37⟩
      have ba36 := ba30.trans (Ba37.mono ba30.size)
      have ha38 := ha32.bl Ba37 ha32.lt
      have ha39 := ha33
      have ha40 := ha34.bl Ba37 ha34.lt
      refine hK.out _ _ ((HAV.out.bl ba36 lA).rng) (fun hHeld => ?_)
      clear hK K
      try simp only [Act.put, List.getElem_toArray, List.getElem_cons_succ, List.getElem_cons_zero, List.setIfInBounds_toArray, List.set_cons_zero, List.set_cons_succ]
      exact hka.out va35 gs g3 ⟨ba36, ha38, ha39⟩
  case resta =>
    rintro va gs g3 ⟨ba, ha_Z, ha_L⟩
    have hHeld := (HAV.out.bl ba lA).rng
    refine wpAnyH_ready (rs := [4]) (by kernel_rfl) (by simp) (AllReadyH.cons rfl (fun K hK => ?_) AllReadyH.nil)
    refine S_storeAB rfl _ _ _ rfl rfl rfl ha_Z i32 (by simp) hDl ?_
    intro va41 hD3 gr3
    have ba42 := ba.grown gr3 ba.size (fun k hk => by cases hk; exact ha_L)
    refine hK.out _ _ ((HAV.out.bl ba42 lA).rng) (fun hHeld => ?_)
    clear hK K
    try simp only [Act.put, List.getElem_toArray, List.getElem_cons_succ, List.getElem_cons_zero]
    refine wpAnyH_done (by kernel_rfl) ?_ _
    try simp only [Act.put, List.getElem_toArray, List.getElem_cons_succ, List.getElem_cons_zero]
    obtain ⟨U, hU⟩ : ∃ U, va41.drew = U := ⟨_, rfl⟩
    have HDU := Lib.hid (show AB U g3 26 D by rw [← hU]; exact hD3)
    have h1 := HKV.out.below ba42 (Nat.le_refl _)
    have h2 := HBV.out.trans (ba42.mono HBV.out.size)
    have h3 := HZV.out.bl ba42 lZ
    have HKU := Lib.hid (show KT U by rw [← hU]; exact h1)
    have HBU := Lib.hid (show Below w.heap.size w U by rw [← hU]; exact h2.drew)
    have HZU := Lib.hid (show AB U g2 26 (List.replicate 32 0) by rw [← hU]; exact h3)
    have c0 : Below U.heap.size U U := Below.refl _ _
    have lD := HDU.out.lt
    have lZU := HZU.out.lt
    clear h1 h2 h3 hHeld HAV HZV HKV HBV hD3 gr3 ba ha_Z
    have hmk := run_make32
    go_upto_region 2 with (fail)
    refine wp_region_held_drew (S := fun _ => True) (by kernel_rfl) trivial (fun hHeld => ?_)
    rw [hU]
    refine wpAnyH_take (i := 0) (v := .slice (some ⟨g3, 0, none⟩) 32 32) rfl (by kernel_rfl) (by kernel_rfl) (by kernel_rfl) (fun _ _ _ h => h) (Or.inl ⟨by rfl, fun w h => by go_simp⟩) hHeld ?_
    try simp only [Act.put, List.getElem_toArray, List.getElem_cons_zero, List.setIfInBounds_toArray, List.set_cons_zero, List.set_cons_succ]
    refine wpAnyH_ready (rs := [1]) (by kernel_rfl) (by simp) (AllReadyH.cons rfl (fun K hK => ?_) AllReadyH.nil)
    go_simp
    have bc2 := c0.alloc c0.size (.cells (z32.map B).toArray 5)
    have hc3 : AB (U.alloc (.cells (z32.map B).toArray 5)) U.heap.size 5 z32 := heap_alloc_new _ _
    refine hK.out _ _ (trivial) (fun hHeld => ?_)
    clear hK K
    try simp only [Act.put, List.getElem_toArray, List.getElem_cons_succ, List.getElem_cons_zero, List.setIfInBounds_toArray, List.set_cons_zero, List.set_cons_succ]
    generalize (World.alloc _ _) = vc1 at *
    obtain ⟨gz, hggz⟩ : ∃ g, U.heap.size = g := ⟨_, rfl⟩
    rw [hggz] at hc3 ⊢
    refine wpAnyH_ready (rs := [2]) (by kernel_rfl) (by simp) (AllReadyH.cons rfl (fun K hK => ?_) AllReadyH.nil)
    go_simp
    go_at_call 69
    refine ((Hext.out vc1 g3 gz ((HDU.out.bl bc2 lD).bs32 hDl) (hc3.bs32 z32_len) (HKU.out.below bc2 (Nat.le_refl _)))).mono ?_
    rintro x vc4 ⟨rfl, Bc6⟩
    have bc5 := bc2.trans (Bc6.mono bc2.size)
    have hc7 := hc3.bl Bc6 hc3.lt
    refine hK.out _ _ (trivial) (fun hHeld => ?_)
    clear hK K
    try simp only [Act.put, List.getElem_toArray, List.getElem_cons_succ, List.getElem_cons_zero, List.setIfInBounds_toArray, List.set_cons_zero, List.set_cons_succ]
    refine wpAnyH_ready (rs := [3]) (by kernel_rfl) (by simp) (AllReadyH.cons rfl (fun K hK => ?_) AllReadyH.nil)
    refine S_storeAB rfl _ _ _ rfl rfl rfl (HZU.out.bl bc5 lZU) i32 (by simp) hLl ?_
    intro vc8 hLA grL
    have bc9 : Below w.heap.size w vc8 := (HBU.out.trans (bc5.mono HBU.out.size)).grown grL (HBU.out.trans (bc5.mono HBU.out.size)).size (fun k hk => by cases hk; exact HL12.out)
    refine hK.out _ _ (trivial) (fun hHeld => ?_)
    clear hK K
    try simp only [Act.put, List.getElem_toArray, List.getElem_cons_succ, List.getElem_cons_zero]
    refine wpAnyH_done (by kernel_rfl) ?_ _
    try simp only [Act.put, List.getElem_toArray, List.getElem_cons_succ, List.getElem_cons_zero]
    go_wp2
    refine bodyPost_ret_by (results_cell_row rfl _ _ _ _ _ _ _ rfl hLA Tryd.underlying26 rfl Hi2.out) rfl ⟨rfl, bc9⟩
end Go.Proofs.YtkhcpnmbhbhcgaaDoor

/- (*greet.Machine).early, binder. -/
set_option maxRecDepth 100000
set_option linter.unusedVariables false
namespace Go.Proofs.YtkhcpnmbhbhcgaaDoor
open Go.RowKit Go.Joins
set_option maxHeartbeats 2000000 in
theorem gearly_any (w : World) {g : Nat} {a : Option Addr} {n c : Nat} {sec : List UInt8} (hc : w.cell? ⟨g, 2, none⟩ = some (.slice a n c)) (hx : BS w a n c sec) (hn : n ≤ 549755813888) (hK : KT w) :
    Calls Tryd.prog 60 #[.pointer (some ⟨g, 0, none⟩)] w fun e w' => e = .returned (.agg ((earF sec).map B).toArray) ∧ Below w.heap.size w w' := by
  have hb := below_alloc w (.cells #[.int .u8 0, .int .u8 0, .int .u8 0, .int .u8 0, .int .u8 0, .int .u8 0, .int .u8 0, .int .u8 0, .int .u8 0, .int .u8 0, .int .u8 0, .int .u8 0, .int .u8 0, .int .u8 0, .int .u8 0, .int .u8 0, .int .u8 0, .int .u8 0, .int .u8 0, .int .u8 0, .int .u8 0, .int .u8 0, .int .u8 0, .int .u8 0, .int .u8 0, .int .u8 0, .int .u8 0, .int .u8 0, .int .u8 0, .int .u8 0, .int .u8 0, .int .u8 0] 26)
  have hZ := AB_zeros w rfl
  have lg : g < w.heap.size := World.block_lt_of_cell? w _ hc
  have hK1 := hK.below hb (Nat.le_refl _)
  have hx1 := RS.below hx hb (Nat.le_refl _)
  have hc1 := (hb.cell (p := ⟨g, 2, none⟩) lg).trans hc
  obtain ⟨L, hL⟩ : ∃ L, macF z32 sec = L := ⟨_, rfl⟩
  have hLl : L.length = 32 := by rw [← hL]; exact macF_len _ _
  have hlt : earF sec = L := by unfold earF; rw [hL]
  rw [hlt]
  have Hext := Lib.hid (fun (w' : World) (gz : Nat) (h1 : BS w' (some ⟨gz, 0, none⟩) 32 32 z32) (h2 : BS w' a n c sec) (h : KT w') => rext_any w' h1 h2 (by omega) (by omega) h)
  rw [hL] at Hext
  have iL := len32 hLl
  have Hi2 := Lib.hid (show (Tryd.prog.info? 26).map (·.size) = some (L.map B).toArray.size by rw [List.size_toArray]; exact iL)
  have HC := Lib.hid hc
  clear hK hL hlt iL hx hc
  go_enter Tryd.func60, Tryd.ntmps60
  go_upto_region 1 with (fail)
  generalize (World.alloc _ _) = W1 at *
  obtain ⟨g2, hg2⟩ : ∃ g, w.heap.size = g := ⟨_, rfl⟩
  have l12 : w.heap.size ≤ g2 := by omega
  have HL12 := Lib.hid l12
  have HB1 := Lib.hid hb
  rw [hg2] at hZ ⊢
  obtain ⟨V, hV⟩ : ∃ V, W1.drew = V := ⟨_, rfl⟩
  have HZV := Lib.hid (show AB V g2 26 (List.replicate 32 0) by rw [← hV]; exact hZ)
  have HXV := Lib.hid (show BS V a n c sec by rw [← hV]; exact hx1)
  have HKV := Lib.hid (show KT V by rw [← hV]; exact hK1)
  have HCV := Lib.hid (show V.cell? ⟨g, 2, none⟩ = some (.slice a n c) by rw [← hV]; exact hc1)
  have HBV := Lib.hid (show Below w.heap.size w V by rw [← hV]; exact HB1.out.drew)
  have lgV : g < V.heap.size := World.block_lt_of_cell? V _ HCV.out
  have b0 : Below V.heap.size V V := Below.refl _ _
  have lZ := HZV.out.lt
  clear hZ hK1 hb l12 hg2 HB1 hx1 hc1
  have hmk := run_make32
  refine wp_region_held_drew (S := fun w' => w'.cell? ⟨g, 2, none⟩ = some (.slice a n c)) (by kernel_rfl) (by rw [hV]; exact HCV.out) (fun hHeld => ?_)
  rw [hV] at hHeld ⊢
  refine wpAnyH_take (i := 1) (v := .pointer (some ⟨g, 0, none⟩)) rfl (by kernel_rfl) (by kernel_rfl) (by kernel_rfl) (fun _ _ _ h => h) (Or.inl ⟨by rfl, fun w h => by go_simp⟩) hHeld ?_
  try simp only [Act.put, List.getElem_toArray, List.getElem_cons_succ, List.getElem_cons_zero, List.setIfInBounds_toArray, List.set_cons_zero, List.set_cons_succ]
  refine wpAnyH_take (i := 2) (v := .pointer (some ⟨g, 0, none⟩)) rfl (by kernel_rfl) (by kernel_rfl) (by kernel_rfl) (fun _ _ _ h => h) (Or.inl ⟨by rfl, fun w h => by go_simp⟩) hHeld ?_
  try simp only [Act.put, List.getElem_toArray, List.getElem_cons_succ, List.getElem_cons_zero, List.setIfInBounds_toArray, List.set_cons_zero, List.set_cons_succ]
  refine wpAnyH_take (i := 3) (v := .pointer (some ⟨g, 0, none⟩)) rfl (by kernel_rfl) (by kernel_rfl) (by kernel_rfl) (fun _ _ _ h => h) (Or.inl ⟨by rfl, fun w h => by go_simp⟩) hHeld ?_
  try simp only [Act.put, List.getElem_toArray, List.getElem_cons_succ, List.getElem_cons_zero, List.setIfInBounds_toArray, List.set_cons_zero, List.set_cons_succ]
  refine wpAnyH_take (i := 4) (v := .pointer (some ⟨g, 2, none⟩)) rfl (by kernel_rfl) (by kernel_rfl) (by kernel_rfl) (fun _ _ _ h => h) (Or.inl ⟨by rfl, fun w h => by go_simp⟩) hHeld ?_
  try simp only [Act.put, List.getElem_toArray, List.getElem_cons_succ, List.getElem_cons_zero, List.setIfInBounds_toArray, List.set_cons_zero, List.set_cons_succ]
  refine wpAnyH_take (i := 5) (v := .slice a n c) rfl (by kernel_rfl) (by kernel_rfl) (by kernel_rfl) (fun _ _ _ h => h) (Or.inl ⟨by rfl, fun w h => by have h2 : w.cell? ⟨g, 2, none⟩ = some (.slice a n c) := h; go_simp⟩) hHeld ?_
  try simp only [Act.put, List.getElem_toArray, List.getElem_cons_succ, List.getElem_cons_zero, List.setIfInBounds_toArray, List.set_cons_zero, List.set_cons_succ]
  refine wpAnyH_ready (rs := [0]) (by kernel_rfl) (by simp) (AllReadyH.cons rfl (fun K hK => ?_) AllReadyH.nil)
  go_simp
  have ba2 := b0.alloc b0.size (.cells (z32.map B).toArray 5)
  have ha3 : AB (V.alloc (.cells (z32.map B).toArray 5)) V.heap.size 5 z32 := heap_alloc_new _ _
  refine hK.out _ _ (((Below.cell ba2 (p := ⟨g, 2, none⟩) lgV).trans HCV.out)) (fun hHeld => ?_)
  clear hK K
  try simp only [Act.put, List.getElem_toArray, List.getElem_cons_succ, List.getElem_cons_zero, List.setIfInBounds_toArray, List.set_cons_zero, List.set_cons_succ]
  generalize (World.alloc _ _) = va1 at *
  obtain ⟨gz, hggz⟩ : ∃ g, V.heap.size = g := ⟨_, rfl⟩
  rw [hggz] at ha3 ⊢
  refine wpAnyH_ready (rs := [6]) (by kernel_rfl) (by simp) (AllReadyH.cons rfl (fun K hK => ?_) AllReadyH.nil)
  go_simp
  go_at_call 69
  refine ((Hext.out va1 gz (ha3.bs32 z32_len) (RS.below HXV.out ba2 (Nat.le_refl _)) (HKV.out.below ba2 (Nat.le_refl _)))).mono ?_
  rintro x va4 ⟨rfl, Ba6⟩
  have ba5 := ba2.trans (Ba6.mono ba2.size)
  have ha7 := ha3.bl Ba6 ha3.lt
  refine hK.out _ _ (((Below.cell ba5 (p := ⟨g, 2, none⟩) lgV).trans HCV.out)) (fun hHeld => ?_)
  clear hK K
  try simp only [Act.put, List.getElem_toArray, List.getElem_cons_succ, List.getElem_cons_zero, List.setIfInBounds_toArray, List.set_cons_zero, List.set_cons_succ]
  refine wpAnyH_ready (rs := [7]) (by kernel_rfl) (by simp) (AllReadyH.cons rfl (fun K hK => ?_) AllReadyH.nil)
  refine S_storeAB rfl _ _ _ rfl rfl rfl (HZV.out.bl ba5 lZ) i32 (by simp) hLl ?_
  intro va8 hLA grL
  have ba9 : Below w.heap.size w va8 := (HBV.out.trans (ba5.mono HBV.out.size)).grown grL (HBV.out.trans (ba5.mono HBV.out.size)).size (fun k hk => by cases hk; exact HL12.out)
  refine hK.out _ _ (((Below.cell ba9 (p := ⟨g, 2, none⟩) lg).trans HC.out)) (fun hHeld => ?_)
  clear hK K
  try simp only [Act.put, List.getElem_toArray, List.getElem_cons_succ, List.getElem_cons_zero]
  refine wpAnyH_done (by kernel_rfl) ?_ _
  try simp only [Act.put, List.getElem_toArray, List.getElem_cons_succ, List.getElem_cons_zero]
  go_wp2
  refine bodyPost_ret_by (results_cell_row rfl _ _ _ _ _ _ _ rfl hLA Tryd.underlying26 rfl Hi2.out) rfl ⟨rfl, ba9⟩
theorem gbinder_any (w : World) {g : Nat} {a a1 : Option Addr} {n c n1 c1 : Nat} {sec p : List UInt8} (hc : w.cell? ⟨g, 2, none⟩ = some (.slice a n c)) (hx : BS w a n c sec) (hn : n ≤ 549755813888) (hp : BS w a1 n1 c1 p) (hn1 : n1 ≤ 549755813888) (hK : KT w) :
    Calls Tryd.prog 46 #[.pointer (some ⟨g, 0, none⟩), .slice a1 n1 c1] w fun e w' => ∃ gm, e = .returned (.slice (some ⟨gm, 0, none⟩) 32 32) ∧ AB w' gm 26 (binF sec p) ∧ w.heap.size ≤ gm ∧ Below w.heap.size w w' := by
  have He := Lib.hid (gearly_any w hc hx hn hK)
  have hel := earF_len sec
  obtain ⟨E, hE⟩ : ∃ E, sumF [] = E := ⟨_, rfl⟩
  have hEl : E.length = 32 := by rw [← hE]; exact sumF_len _
  obtain ⟨Y, hY⟩ : ∃ Y, earF sec = Y := ⟨_, rfl⟩
  rw [hY] at He hel
  obtain ⟨D, hD⟩ : ∃ D, labF Y [101, 120, 116, 32, 98, 105, 110, 100, 101, 114] E = D := ⟨_, rfl⟩
  have hDl : D.length = 32 := by rw [← hD]; exact labF_len _ _ _
  have hb : binF sec p = fmF D p := by unfold binF; rw [hE, hY, hD]
  rw [hb]
  have Hsum := Lib.hid (fun (w' : World) (h : KT w') => gsum_any w' (p := []) (RS_nil w' 1) (by omega) h)
  rw [hE] at Hsum
  have Hlab := Lib.hid (fun (w' : World) (g : Nat) (hc : BS w' (some ⟨g, 0, none⟩) 32 32 E) (h : KT w') => glab_any w' hel { data := #[101, 120, 116, 32, 98, 105, 110, 100, 101, 114] } (by decide) rfl hc (by omega) h)
  rw [hD] at Hlab
  have HK := Lib.hid hK
  have HP := Lib.hid hp
  obtain ⟨M, hM⟩ : ∃ M, fmF D p = M := ⟨_, rfl⟩
  have Hmac := Lib.hid (fun (w' : World) (h : BS w' a1 n1 c1 p) (hk : KT w') => gmac_any w' hDl h hn1 hk)
  rw [hM] at Hmac ⊢
  clear hE hY hD hb hK hp hc hx hM
  go_enter Tryd.func46, Tryd.ntmps46
  go_wp2_with (first
    | (go_at_call 60; refine He.out.mono ?_; rintro x w1 ⟨rfl, B1⟩; have hk1 := Lib.hid (HK.out.below B1 (Nat.le_refl _)); clear He)
    | (go_at_call 61; refine (Hsum.out _ hk1.out).mono ?_; rintro x w2 ⟨gs, rfl, hS, hgs, B2⟩; have hk2 := Lib.hid (hk1.out.below B2 (Nat.le_refl _)); have HS := Lib.hid (hS.bs32 hEl); have Hz2 := Lib.hid (btr B1 B2); clear hS hgs B1 B2)
    | (go_at_call 59; refine (Hlab.out _ gs HS.out hk2.out).mono ?_; rintro x w3 ⟨rfl, B3⟩; have hk3 := Lib.hid (hk2.out.below B3 (Nat.le_refl _)); have Hz3 := Lib.hid (btr Hz2.out B3); clear B3)
    | (go_at_call 58; refine (Hmac.out _ (RS.below HP.out Hz3.out (Nat.le_refl _)) hk3.out).mono ?_; rintro x w4 ⟨gm, rfl, hM4, hgm, B4⟩; have HM4 := Lib.hid hM4; have Hgm := Lib.hid hgm; have Hz4 := Lib.hid (btr Hz3.out B4); clear hM4 hgm B4))
  go_ret
  exact ⟨gm, rfl, HM4.out, Nat.le_trans Hz3.out.size Hgm.out, Hz4.out⟩
end Go.Proofs.YtkhcpnmbhbhcgaaDoor

/- (*greet.Machine).agree, part. -/
set_option maxRecDepth 100000
set_option linter.unusedVariables false
namespace Go.Proofs.YtkhcpnmbhbhcgaaDoor
open Go.RowKit Go.Joins
theorem splice (off : Nat) : ∀ (vs : List Value) (k : Nat) (cells : Array Value), off + k + vs.length ≤ cells.size →
    ((vs.zipIdx k).foldl (fun cs x => cs.setIfInBounds (off + x.2) x.1) cells).toList = cells.toList.take (off + k) ++ vs ++ cells.toList.drop (off + k + vs.length) := by
  intro vs
  induction vs with
  | nil => intro k cells h; simp
  | cons v vs ih =>
    intro k cells h
    rw [List.length_cons] at h
    rw [List.zipIdx_cons, List.foldl_cons, ih (k + 1) _ (by rw [Array.size_setIfInBounds]; omega)]
    have hk : off + k < cells.toList.length := by rw [Array.length_toList]; omega
    rw [Array.toList_setIfInBounds, show off + (k + 1) = off + k + 1 by omega, List.take_add_one, List.take_set_of_le (Nat.le_refl _), List.getElem?_set_self hk, List.drop_set_of_lt (by omega), List.length_cons]
    simp [Nat.add_assoc, Nat.add_comm, Nat.add_left_comm]
theorem fill_cons (place : Nat → Option (Nat × Nat)) (cells : Array Value) (i : Nat) (vs : List Value) (rest : List (Nat × Value)) (off n : Nat) (hp : place i = some (off, n)) (hn : vs.length = n) (hs : off + n ≤ cells.size) :
    Instr.fill place cells ((i, .agg vs.toArray) :: rest) = Instr.fill place (cells.toList.take off ++ vs ++ cells.toList.drop (off + n)).toArray rest := by
  have hc : (Value.agg vs.toArray).cells = vs.toArray := rfl
  rw [Instr.fill, hp]
  simp only
  split
  · next h1 => simp [hc, hn] at h1; omega
  · congr 1
    have h := splice off vs 0 cells (by omega)
    rw [Nat.add_zero, hn] at h
    rw [← h, hc]
    simp
theorem pz : (Tryd.prog.info? 73).map (fun i => i.zero.map (·.cells.size)) = some (some 65) := by kernel_rfl
theorem p65 : (Tryd.prog.info? 73).map (·.size) = some 65 := by kernel_rfl
theorem fill_one (place : Nat → Option (Nat × Nat)) (cells : Array Value) (i : Nat) (v : Value) (rest : List (Nat × Value)) (off : Nat) (hv : v.cells = #[v]) (hp : place i = some (off, 1)) (hs : off + 1 ≤ cells.size) :
    Instr.fill place cells ((i, v) :: rest) = Instr.fill place (cells.toList.take off ++ [v] ++ cells.toList.drop (off + 1)).toArray rest := by
  rw [Instr.fill, hp]
  simp only
  split
  · next h1 => simp [hv] at h1; omega
  · congr 1
    have h := splice off [v] 0 cells (by simpa using hs)
    rw [Nat.add_zero] at h
    rw [hv]
    simp at h ⊢
    refine Array.ext' ?_
    rw [Array.toList_setIfInBounds, List.set_eq_take_append_cons_drop, if_pos (by rw [Array.length_toList]; omega)]
theorem builtP {c s : List UInt8} (hc : c.length = 32) (hs : s.length = 32) (b : Bool) :
    Tryd.prog.built 73 [(0, .agg (c.map B).toArray), (1, .agg (s.map B).toArray), (2, .bool b)] = some (pc ⟨c, s, b⟩).toArray := by
  cases hq : Tryd.prog.info? 73 with
  | none => have := pz; simp [hq] at this
  | some it =>
    cases hzz : it.zero with
    | none => have := pz; simp [hq, hzz] at this
    | some z =>
      have hsz : z.cells.size = 65 := by have := pz; simpa [hq, hzz] using this
      have hzl : z.cells.toList.length = 65 := by rw [Array.length_toList]; exact hsz
      obtain ⟨fields, hu, hp⟩ : ∃ fields : Array Field, Tryd.prog.underlying 73 = some (.struct fields) ∧ fields.toList.mapM (fun f => (Tryd.prog.info? f.type).map fun i => (f.offset, i.size)) = some [(0, 32), (32, 32), (64, 1)] := ⟨_, Tryd.underlying73, by kernel_rfl⟩
      unfold Program.built
      rw [hq, hu]
      simp only [hzz, hp]
      have hA : (c.map B).length = 32 := by rw [List.length_map, hc]
      have hB : (s.map B).length = 32 := by rw [List.length_map, hs]
      rw [fill_cons _ _ 0 (c.map B) _ 0 32 rfl hA (by omega),
        fill_cons _ _ 1 (s.map B) _ 32 32 rfl hB (by simp [hc]; try omega),
        fill_one _ _ 2 (.bool b) _ 64 rfl rfl (by simp [hc, hs, hzl]; try omega)]
      rw [Instr.fill]
      have e1 : (List.take 32 (List.take 0 z.cells.toList ++ c.map B ++ List.drop (0 + 32) z.cells.toList)) = c.map B := by
        rw [List.take_zero, List.nil_append]; exact List.take_left' hA
      simp only [e1]
      have e2 : List.take 64 (c.map B ++ s.map B ++ List.drop (32 + 32) (List.take 0 z.cells.toList ++ c.map B ++ List.drop (0 + 32) z.cells.toList)) = c.map B ++ s.map B :=
        List.take_left' (by rw [List.length_append, hA, hB])
      rw [e2, List.drop_eq_nil_of_le (by simp [hc, hs, hzl]), List.append_nil]
      rfl
theorem pc_len {x : PairS} (h1 : x.c.length = 32) (h2 : x.s.length = 32) : (pc x).length = 65 := by simp [pc, h1, h2]
theorem pc_one (x : PairS) : ∀ v ∈ pc x, v.oneCell' = true := by
  intro v hv
  unfold pc at hv
  rcases List.mem_append.1 hv with hv | hv
  · rcases List.mem_append.1 hv with hv | hv
    · exact one_B _ v hv
    · exact one_B _ v hv
  · simp at hv; rw [hv]; rfl
theorem MZ.there {w : World} {g : Nat} {S : MS} {A : MA} (h : MZ w g S A) (ho : S.Ok) (i n : Nat) (hn : i + n ≤ 273) : w.there g i n := fun j hj => by
  refine ⟨?_, h.fr _⟩
  rw [h.at_, List.getElem?_eq_getElem (by rw [mc_len ho]; omega)]; rfl
section
variable {w : World} {ops : Array Oper} {rest : List Oper} {o : Oper} {f : Act} {K : Act → World → Prop} {Q : Exit → Act → World → Prop} {E : Prop}
/-- a store of several cells into the middle of a row -/
theorem L_storeM (hgd : o.guard = none) (t : TypeId) (x y : Operand) (ho : o.op = .store t x y) {g i n : Nat} {d : List Value} (hx : f.eval x = .pointer (some ⟨g, i, none⟩)) (hy : f.eval y = .agg d.toArray) (ht : w.there g i n) (hi : (Tryd.prog.info? t).map (·.size) = some n) (hl : d.length = n) (h1 : ∀ v ∈ d, v.oneCell' = true)
    (h : wpList Tryd.prog ops Q rest (f.put o.dst undef) (w.setCells g i d)) : wpList Tryd.prog ops Q (o :: rest) f w := by
  refine wpList_store_mid hgd t x y ho g i _ hx hy (by rw [List.size_toArray, hl]; exact ht) (by rw [List.size_toArray, hl]; exact hi) (all_oneCell_toArray h1) ?_
  exact h
theorem S_storeM (hgd : o.guard = none) (t : TypeId) (x y : Operand) (ho : o.op = .store t x y) {g i n : Nat} {d : List Value} (hx : f.eval x = .pointer (some ⟨g, i, none⟩)) (hy : f.eval y = .agg d.toArray) (ht : w.there g i n) (hi : (Tryd.prog.info? t).map (·.size) = some n) (hl : d.length = n) (h1 : ∀ v ∈ d, v.oneCell' = true)
    (h : K (f.put o.dst undef) (w.setCells g i d)) : if Region.wanted o (yielded ops f.tmps) = true then Oper.wp Tryd.prog o f w K Q else E := by
  rw [if_pos (by simp [Region.wanted, hgd])]
  refine wp_store_mid t x y ho g i _ hx hy (by rw [List.size_toArray, hl]; exact ht) (by rw [List.size_toArray, hl]; exact hi) (all_oneCell_toArray h1) ?_
  exact h
/-- a struct built of letters, as a step -/
theorem S_build (hgd : o.guard = none) (t : TypeId) (parts : Array (Nat × Operand)) (ho : o.op = .build t parts) {cells : Array Value}
    (hb : Tryd.prog.built t (parts.map fun (i, x) => (i, f.eval x)).toList = some cells)
    (h : K (f.put o.dst (.agg cells)) w) : if Region.wanted o (yielded ops f.tmps) = true then Oper.wp Tryd.prog o f w K Q else E := by
  rw [if_pos (by simp [Region.wanted, hgd])]
  refine wp_build t parts ho (by rw [hb]; rfl) ?_
  rw [hb]; exact h
end
theorem KT.kpt {w w' : World} {role role' : Nat → Nat} (h : KT w) (hk : Kpt w w' role role') (h0 : role 3 = 0) : KT w' := fun j x hx => by
  rw [World.cell?_of_block (w := w) (a := ⟨3, j, none⟩) (hk.blk _ h.lt h0).1]
  exact h j x hx
/-- the secrets of Handshake -/
noncomputable def agreeS (S : MS) : MS :=
  { S with hand := latF (earF S.sec), k1 := ⟨labF (latF (earF S.sec)) [99, 32, 104, 115, 32, 116, 114, 97, 102, 102, 105, 99] (sumF S.said), labF (latF (earF S.sec)) [115, 32, 104, 115, 32, 116, 114, 97, 102, 102, 105, 99] (sumF S.said), true⟩ }
/-- the secrets of App -/
noncomputable def partS (S : MS) : MS :=
  { S with k2 := ⟨labF (latF S.hand) [99, 32, 97, 112, 32, 116, 114, 97, 102, 102, 105, 99] (sumF S.said), labF (latF S.hand) [115, 32, 97, 112, 32, 116, 114, 97, 102, 102, 105, 99] (sumF S.said), true⟩ }
set_option maxHeartbeats 4000000 in
theorem gagree_any (w : World) {role : Nat → Nat} {g : Nat} {S : MS} {A : MA} (hM : GM w role g S A) (hs : S.said.length ≤ 549755813888) (hc : S.sec.length ≤ 549755813888) (hK : KT w) (hR : role 3 = 0) :
    Calls Tryd.prog 63 #[.pointer (some ⟨g, 0, none⟩)] w fun e w' => e = .returned (.tuple #[]) ∧ GM w' role g (agreeS S) A ∧ Kpt w w' role role := by
  have hOk := hM.ok
  have q2 : w.cell? ⟨g, 2, none⟩ = some (.slice A.sec.a A.sec.n A.sec.c) := (hM.row.cells hOk).g2
  have hsecl := BS.len hM.gp.sec
  have He := Lib.hid (gearly_any w q2 hM.gp.sec (by omega) hK)
  obtain ⟨Y, hY⟩ : ∃ Y, earF S.sec = Y := ⟨_, rfl⟩
  have hYl : Y.length = 32 := by rw [← hY]; exact earF_len _
  obtain ⟨H, hH⟩ : ∃ H, latF Y = H := ⟨_, rfl⟩
  have hHl : H.length = 32 := by rw [← hH]; exact latF_len _
  obtain ⟨U, hU⟩ : ∃ U, sumF S.said = U := ⟨_, rfl⟩
  have hUl : U.length = 32 := by rw [← hU]; exact sumF_len _
  obtain ⟨C, hC⟩ : ∃ C, labF H [99, 32, 104, 115, 32, 116, 114, 97, 102, 102, 105, 99] U = C := ⟨_, rfl⟩
  have hCl : C.length = 32 := by rw [← hC]; exact labF_len _ _ _
  obtain ⟨D, hD⟩ : ∃ D, labF H [115, 32, 104, 115, 32, 116, 114, 97, 102, 102, 105, 99] U = D := ⟨_, rfl⟩
  have hDl : D.length = 32 := by rw [← hD]; exact labF_len _ _ _
  have hag : agreeS S = { S with hand := H, k1 := ⟨C, D, true⟩ } := by unfold agreeS; rw [hU, hY, hH, hC, hD]
  rw [hag]
  rw [hY] at He
  have Hla := Lib.hid (fun (w' : World) (h : KT w') => glater_any w' hYl h)
  rw [hH] at Hla
  have Hsu := Lib.hid (fun (w' : World) (h : BS w' A.said.a A.said.n A.said.c S.said) (hk : KT w') (hn : A.said.n ≤ 549755813888) => gsum_any w' h hn hk)
  rw [hU] at Hsu
  have Hl1 := Lib.hid (fun (w' : World) (gs : Nat) (h : BS w' (some ⟨gs, 0, none⟩) 32 32 U) (hk : KT w') => glab_any w' hHl { data := #[99, 32, 104, 115, 32, 116, 114, 97, 102, 102, 105, 99] } (by decide) rfl h (by omega) hk)
  have Hl2 := Lib.hid (fun (w' : World) (gs : Nat) (h : BS w' (some ⟨gs, 0, none⟩) 32 32 U) (hk : KT w') => glab_any w' hHl { data := #[115, 32, 104, 115, 32, 116, 114, 97, 102, 102, 105, 99] } (by decide) rfl h (by omega) hk)
  rw [hC] at Hl1
  rw [hD] at Hl2
  have HM := Lib.hid hM
  have HKT := Lib.hid hK
  have hHone := one_B H
  have hin := len32 hHl
  rw [List.length_map, hHl] at hin
  clear hag hY hH hU hC hD hM hK hsecl
  go_enter Tryd.func63, Tryd.ntmps63
  go_upto_region 1 with (first
    | (go_at_call 60; refine He.out.mono ?_; rintro x w1 ⟨rfl, B1⟩; have hk1 := Lib.hid (HKT.out.below B1 (Nat.le_refl _)); have hm1 := Lib.hid (HM.out.below B1))
    | (go_at_call 74; refine (Hla.out _ hk1.out).mono ?_; rintro x w2 ⟨rfl, B2⟩; have hm2 := hm1.out.below B2)
    | (refine L_storeM rfl _ _ _ rfl rfl rfl (hm2.row.there hm2.ok 42 32 (by omega)) hin (by rw [List.length_map]; exact hHl) hHone ?_))
  have hkp2 := (Below.kpt B1 HM.out.gp.top).trans (Below.kpt B2 hm1.out.gp.top)
  have hr3 := hm2.row.s_hand hm2.ok H hHl
  have hg3 := GP.run (H.map B) 42 w2 hm2.gp
  have hk3 := hkp2.trans (kpt_run 42 (H.map B) hm2.gp.rg hm2.gp.top)
  obtain ⟨w3, hw3⟩ : ∃ w3, w2.setCells g 42 (H.map B) = w3 := ⟨_, rfl⟩
  rw [hw3] at hr3 hg3 hk3 ⊢
  obtain ⟨S3, hS3⟩ : ∃ S3 : MS, { S with hand := H } = S3 := ⟨_, rfl⟩
  have hOk3 : S3.Ok := by rw [← hS3]; exact ⟨hOk.rnd, hHl, hOk.k0c, hOk.k0s, hOk.k1c, hOk.k1s, hOk.k2c, hOk.k2s⟩
  have hg3' : GP w3 role g S3 A := by rw [← hS3]; exact ⟨hg3.rg, hg3.gl, hg3.top, hg3.id, hg3.idr, hg3.sec, hg3.secr, hg3.par, hg3.parr, hg3.pe, hg3.per, hg3.nx, hg3.nxr, hg3.said, hg3.o0, hg3.o1, hg3.i0, hg3.i1⟩
  rw [hS3] at hr3
  have hfin : ({ S3 with k1 := ⟨C, D, true⟩ } : MS) = { S with hand := H, k1 := ⟨C, D, true⟩ } := by rw [← hS3]
  have hHS : S3.hand = H := by rw [← hS3]
  have hSS : S3.said = S.said := by rw [← hS3]
  have HFIN := Lib.hid hfin
  have hM3 : GM w3 role g S3 A := ⟨hr3, hOk3, hg3'⟩
  have hK3 := HKT.out.kpt hk3 hR
  have q36 : w3.cell? ⟨g, 36, none⟩ = some (.slice A.said.a A.said.n A.said.c) := (hr3.cells hOk3).g36
  have hbs : BS w3 A.said.a A.said.n A.said.c S.said := by rw [← hSS]; exact hg3'.said.rs
  have hsn : A.said.n ≤ 549755813888 := by have := hg3'.said.len; rw [hSS] at this; omega
  have Hs3 := Lib.hid (Hsu.out w3 hbs hK3 hsn)
  have HM3 := Lib.hid hM3
  have HK3 := Lib.hid hK3
  have HP3 := Lib.hid hk3
  clear hr3 hg3 hg3' hk3 hw3 hm2 hkp2 B1 B2 hk1 hm1 He Hla Hsu hM3 hK3 hbs hS3 hfin q2 HM HKT hHone
  go_upto_region 2 with (go_at_call 61; refine Hs3.out.mono ?_; rintro x w4 ⟨gs, rfl, hS4, hgs, B4⟩)
  have hm4 := HM3.out.below B4
  obtain ⟨V, hV⟩ : ∃ V, w4.drew = V := ⟨_, rfl⟩
  have h1 := HK3.out.below B4 (Nat.le_refl _)
  have h2 := HP3.out.trans (Below.kpt B4 HM3.out.gp.top)
  have HMV := Lib.hid (show GM V role g S3 A by rw [← hV]; exact hm4.drew)
  have HKV := Lib.hid (show KT V by rw [← hV]; exact h1)
  have HPV := Lib.hid (show Kpt w V role role by rw [← hV]; exact h2.drew)
  have HSV := Lib.hid (show AB V gs 26 U by rw [← hV]; exact hS4)
  have hra : V.rangeAt g 42 (H.map B) := by have := HMV.out.row.r_hand hOk3; rw [hHS] at this; exact this
  have HRA := Lib.hid hra
  have lgV : g < V.heap.size := HMV.out.gp.gl
  have lS := HSV.out.lt
  have b0 : Below V.heap.size V V := Below.refl _ _
  have hu32 := Tryd.underlying26
  have hiH := len32 hHl
  clear hm4 h1 h2 hS4 hgs B4 Hs3 q36 hra
  refine wp_region_held_drew (S := fun w' => w'.rangeAt g 42 (H.map B)) (by kernel_rfl) (by rw [hV]; exact HRA.out) (fun hHeld => ?_)
  rw [hV] at hHeld ⊢
  refine wpAnyH_take (i := 0) (v := .pointer (some ⟨g, 0, none⟩)) rfl (by kernel_rfl) (by kernel_rfl) (by kernel_rfl) (fun _ _ _ h => h) (Or.inl ⟨by rfl, fun w h => by go_simp⟩) hHeld ?_
  try simp only [Act.put, List.getElem_toArray, List.getElem_cons_zero, List.setIfInBounds_toArray, List.set_cons_zero, List.set_cons_succ]
  refine wpAnyH_take (i := 1) (v := .pointer (some ⟨g, 0, none⟩)) rfl (by kernel_rfl) (by kernel_rfl) (by kernel_rfl) (fun _ _ _ h => h) (Or.inl ⟨by rfl, fun w h => by go_simp⟩) hHeld ?_
  try simp only [Act.put, List.getElem_toArray, List.getElem_cons_succ, List.getElem_cons_zero, List.setIfInBounds_toArray, List.set_cons_zero, List.set_cons_succ]
  refine wpAnyH_take (i := 2) (v := .pointer (some ⟨g, 0, none⟩)) rfl (by kernel_rfl) (by kernel_rfl) (by kernel_rfl) (fun _ _ _ h => h) (Or.inl ⟨by rfl, fun w h => by go_simp⟩) hHeld ?_
  try simp only [Act.put, List.getElem_toArray, List.getElem_cons_succ, List.getElem_cons_zero, List.setIfInBounds_toArray, List.set_cons_zero, List.set_cons_succ]
  refine wpAnyH_take (i := 3) (v := .pointer (some ⟨g, 42, none⟩)) rfl (by kernel_rfl) (by kernel_rfl) (by kernel_rfl) (fun _ _ _ h => h) (Or.inl ⟨by rfl, fun w h => by go_simp⟩) hHeld ?_
  try simp only [Act.put, List.getElem_toArray, List.getElem_cons_succ, List.getElem_cons_zero, List.setIfInBounds_toArray, List.set_cons_zero, List.set_cons_succ]
  refine wpAnyH_take (i := 4) rfl (by kernel_rfl) (by kernel_rfl) (by kernel_rfl) (fun _ _ _ h => h) (yieldsIf_load_mid (by rfl) _ _ rfl _ _ rfl _ _ (fun w h => h) hu32 rfl hiH) hHeld ?_
  try simp only [Act.put, List.getElem_toArray, List.getElem_cons_succ, List.getElem_cons_zero, List.setIfInBounds_toArray, List.set_cons_zero, List.set_cons_succ]
  refine wpAnyH_take (i := 5) (v := .slice (some ⟨gs, 0, none⟩) 32 32) rfl (by kernel_rfl) (by kernel_rfl) (by kernel_rfl) (fun _ _ _ h => h) (Or.inl ⟨by rfl, fun w h => by go_simp⟩) hHeld ?_
  try simp only [Act.put, List.getElem_toArray, List.getElem_cons_succ, List.getElem_cons_zero, List.setIfInBounds_toArray, List.set_cons_zero, List.set_cons_succ]
  refine wpAnyH_take (i := 7) (v := .pointer (some ⟨g, 0, none⟩)) rfl (by kernel_rfl) (by kernel_rfl) (by kernel_rfl) (fun _ _ _ h => h) (Or.inl ⟨by rfl, fun w h => by go_simp⟩) hHeld ?_
  try simp only [Act.put, List.getElem_toArray, List.getElem_cons_succ, List.getElem_cons_zero, List.setIfInBounds_toArray, List.set_cons_zero, List.set_cons_succ]
  refine wpAnyH_take (i := 8) (v := .pointer (some ⟨g, 0, none⟩)) rfl (by kernel_rfl) (by kernel_rfl) (by kernel_rfl) (fun _ _ _ h => h) (Or.inl ⟨by rfl, fun w h => by go_simp⟩) hHeld ?_
  try simp only [Act.put, List.getElem_toArray, List.getElem_cons_succ, List.getElem_cons_zero, List.setIfInBounds_toArray, List.set_cons_zero, List.set_cons_succ]
  refine wpAnyH_take (i := 9) (v := .pointer (some ⟨g, 42, none⟩)) rfl (by kernel_rfl) (by kernel_rfl) (by kernel_rfl) (fun _ _ _ h => h) (Or.inl ⟨by rfl, fun w h => by go_simp⟩) hHeld ?_
  try simp only [Act.put, List.getElem_toArray, List.getElem_cons_succ, List.getElem_cons_zero, List.setIfInBounds_toArray, List.set_cons_zero, List.set_cons_succ]
  refine wpAnyH_take (i := 10) rfl (by kernel_rfl) (by kernel_rfl) (by kernel_rfl) (fun _ _ _ h => h) (yieldsIf_load_mid (by rfl) _ _ rfl _ _ rfl _ _ (fun w h => h) hu32 rfl hiH) hHeld ?_
  try simp only [Act.put, List.getElem_toArray, List.getElem_cons_succ, List.getElem_cons_zero, List.setIfInBounds_toArray, List.set_cons_zero, List.set_cons_succ]
  refine wpAnyH_take (i := 11) (v := .slice (some ⟨gs, 0, none⟩) 32 32) rfl (by kernel_rfl) (by kernel_rfl) (by kernel_rfl) (fun _ _ _ h => h) (Or.inl ⟨by rfl, fun w h => by go_simp⟩) hHeld ?_
  try simp only [Act.put, List.getElem_toArray, List.getElem_cons_succ, List.getElem_cons_zero, List.setIfInBounds_toArray, List.set_cons_zero, List.set_cons_succ]
  refine wpAnyH_take (i := 14) (v := .pointer (some ⟨g, 0, none⟩)) rfl (by kernel_rfl) (by kernel_rfl) (by kernel_rfl) (fun _ _ _ h => h) (Or.inl ⟨by rfl, fun w h => by go_simp⟩) hHeld ?_
  try simp only [Act.put, List.getElem_toArray, List.getElem_cons_succ, List.getElem_cons_zero, List.setIfInBounds_toArray, List.set_cons_zero, List.set_cons_succ]
  refine wpAnyH_take (i := 15) (v := .pointer (some ⟨g, 74, none⟩)) rfl (by kernel_rfl) (by kernel_rfl) (by kernel_rfl) (fun _ _ _ h => h) (Or.inl ⟨by rfl, fun w h => by go_simp⟩) hHeld ?_
  try simp only [Act.put, List.getElem_toArray, List.getElem_cons_succ, List.getElem_cons_zero, List.setIfInBounds_toArray, List.set_cons_zero, List.set_cons_succ]
  refine wpAnyH_ready (rs := [6]) (by kernel_rfl) (by simp) (AllReadyH.cons rfl (fun K hK => ?_) AllReadyH.nil)
  go_simp
  go_at_call 59
  refine ((Hl1.out V gs ((HSV.out.bl b0 lS).bs32 hUl) (HKV.out.below b0 (Nat.le_refl _)))).mono ?_
  rintro x va1 ⟨rfl, Ba3⟩
  have ba2 := b0.trans (Ba3.mono b0.size)
  refine hK.out _ _ ((rng_bel HRA.out ba2 lgV)) (fun hHeld => ?_)
  clear hK K
  try simp only [Act.put, List.getElem_toArray, List.getElem_cons_succ, List.getElem_cons_zero, List.setIfInBounds_toArray, List.set_cons_zero, List.set_cons_succ]
  refine wpAnyH_ready (rs := [12]) (by kernel_rfl) (by simp) (AllReadyH.cons rfl (fun K hK => ?_) AllReadyH.nil)
  go_simp
  go_at_call 59
  refine ((Hl2.out va1 gs ((HSV.out.bl ba2 lS).bs32 hUl) (HKV.out.below ba2 (Nat.le_refl _)))).mono ?_
  rintro x va4 ⟨rfl, Ba6⟩
  have ba5 := ba2.trans (Ba6.mono ba2.size)
  refine hK.out _ _ ((rng_bel HRA.out ba5 lgV)) (fun hHeld => ?_)
  clear hK K
  try simp only [Act.put, List.getElem_toArray, List.getElem_cons_succ, List.getElem_cons_zero, List.setIfInBounds_toArray, List.set_cons_zero, List.set_cons_succ]
  refine wpAnyH_ready (rs := [13]) (by kernel_rfl) (by simp) (AllReadyH.cons rfl (fun K hK => ?_) AllReadyH.nil)
  refine S_build rfl _ _ rfl (by simpa [Act.eval] using builtP hCl hDl true) ?_
  obtain ⟨va7, hwva7⟩ : ∃ x, x = va4 := ⟨_, rfl⟩
  have ba8 := ba5
  rw [← hwva7] at ba8 ⊢
  refine hK.out _ _ ((rng_bel HRA.out ba8 lgV)) (fun hHeld => ?_)
  clear hK K
  try simp only [Act.put, List.getElem_toArray, List.getElem_cons_succ, List.getElem_cons_zero, List.setIfInBounds_toArray, List.set_cons_zero, List.set_cons_succ]
  refine wpAnyH_take (i := 16) (v := .pointer (some ⟨g, 139, none⟩)) rfl (by kernel_rfl) (by kernel_rfl) (by kernel_rfl) (fun _ _ _ h => h) (Or.inl ⟨by rfl, fun w h => by go_simp⟩) hHeld ?_
  try simp only [Act.put, List.getElem_toArray, List.getElem_cons_succ, List.getElem_cons_zero, List.setIfInBounds_toArray, List.set_cons_zero, List.set_cons_succ]
  refine wpAnyH_ready (rs := [17]) (by kernel_rfl) (by simp) (AllReadyH.cons rfl (fun K hK => ?_) AllReadyH.nil)
  have hmf := HMV.out.kept ba8.size (fun k hk _ => ba8.block k hk)
  refine S_storeM rfl _ _ _ rfl rfl rfl (hmf.row.there hOk3 139 65 (by omega)) p65 (pc_len hCl hDl) (pc_one _) ?_
  have hrf := hmf.row.s_k1 hOk3 ⟨C, D, true⟩ hCl hDl
  have hgf := GP.run (pc ⟨C, D, true⟩) 139 va7 hmf.gp
  have hkf := (HPV.out.trans (Below.kpt ba8 HMV.out.gp.top)).trans (kpt_run 139 (pc ⟨C, D, true⟩) hmf.gp.rg hmf.gp.top)
  refine hK.out _ _ (World.rangeAt_setCells_apart ((rng_bel HRA.out ba8 lgV)) _ _ _ (.inr (.inl (by rw [List.length_map, hHl]; omega)))) (fun hHeld => ?_)
  clear hK K
  try simp only [Act.put, List.getElem_toArray, List.getElem_cons_succ, List.getElem_cons_zero]
  refine wpAnyH_done (by kernel_rfl) ?_ _
  try simp only [Act.put, List.getElem_toArray, List.getElem_cons_succ, List.getElem_cons_zero]
  have hgf' : GP _ role g { S3 with k1 := ⟨C, D, true⟩ } A := ⟨hgf.rg, hgf.gl, hgf.top, hgf.id, hgf.idr, hgf.sec, hgf.secr, hgf.par, hgf.parr, hgf.pe, hgf.per, hgf.nx, hgf.nxr, hgf.said, hgf.o0, hgf.o1, hgf.i0, hgf.i1⟩
  have hF := (show GM _ role g { S3 with k1 := ⟨C, D, true⟩ } A from ⟨hrf, ⟨hOk3.rnd, hOk3.hand, hOk3.k0c, hOk3.k0s, hCl, hDl, hOk3.k2c, hOk3.k2s⟩, hgf'⟩)
  rw [HFIN.out] at hF
  have HF := Lib.hid hF
  have HKF := Lib.hid hkf
  clear hF
  clear hgf hgf' hrf hkf hmf hHeld
  go_wp2
  go_end0
  exact ⟨rfl, HF.out, HKF.out⟩
end Go.Proofs.YtkhcpnmbhbhcgaaDoor

/- (*greet.Machine).hello. -/
set_option maxRecDepth 100000
set_option linter.unusedVariables false
namespace Go.Proofs.YtkhcpnmbhbhcgaaDoor
open Go.RowKit Go.Joins
/-- append(s, make([]T, N)...) onto a row of the call's own, or one without spare room -/
theorem L_append_zerosJ {P : Program} {w : World} {ops : Array Oper} {rest : List Oper} {o : Oper} {f : Act} {Q : Exit → Act → World → Prop} {t e : TypeId} {zero : Value}
    (ty : STy P t e zero 1 1) (hone : zero.oneCell' = true) (hz : zero.cells = #[zero]) {base : Nat} {a : Option Addr} {n c : Nat} {vs : List Value} (hs : JW w base e a n c vs)
    (it : TypeId) (hit : P.underlying it = some (.int .i64)) (N : Nat) (hN : 0 < N) (s x : Operand) (hg : Region.wanted o (yielded ops f.tmps) = true)
    (hop : o.op = .call { callee := .builtin .append, args := #[s, x], argTypes := #[t, it] })
    (X : Int) (es : f.eval s = .slice a n c) (ex : f.eval x = .int .i64 X) (hX : X = N) (hbytes : n + N ≤ 140737488355328) (hbase : base ≤ w.heap.size)
    (h : ∀ a' c' w', OW w' base e 1 a' (n + N) c' (vs ++ List.replicate N zero) → Below base w w' → RS w' 1 a n c vs → wpList P ops Q rest (f.put o.dst (.slice a' (n + N) c')) w') : wpList P ops Q (o :: rest) f w := by
  have hr : RS w 1 a n c vs := hs.rs
  obtain ⟨i, hi, hz0, hz1, hz2⟩ := info_parts ty.info
  subst hX
  have hlen : vs.length = n := by have := hr.len; omega
  have hvone : ∀ v ∈ vs ++ List.replicate N zero, v.oneCell' = true := by
    intro v hv; rcases List.mem_append.1 hv with hv | hv
    · exact hr.one v hv
    · rw [(List.mem_replicate.1 hv).2]; exact hone
  refine wpList_on hg fun K hK => ?_
  by_cases hroom : n + N ≤ c
  · rcases hs with hs | ⟨_, hnc, _⟩
    · rcases hs.shape with ⟨rfl, rfl, rfl, rfl⟩ | ⟨g, cur, rfl, g1, g2, g3, g4, g5, g6, g7⟩
      · omega
      · have hrun := run_append_zeros_room (P := P) w t it o.type e i zero ty.und hit hi hz0 hz hz1 hz2 hone g n c N hN (by omega) cur g3 hroom (by omega)
        unfold Oper.wp
        simp only [execOp, hop, resolve, invoke, builtin, Sem.run_bind, Sem.run_pure, Result.andThen_ok, List.map_toArray, List.map_cons, List.map_nil, es, ex, hrun]
        have h7 : cur.toList.take n = vs := by rw [← g7, Nat.mul_one]
        have hgb : w.grownBy (w.setRow g (cur.toList.take n ++ List.replicate N zero ++ cur.toList.drop (n + N)).toArray) (some g) := ⟨rfl, rfl, rfl, by simp, fun k _ hk => setRow_other w g k _ (fun e => hk (by simp [e]))⟩
        have ho : OW (w.setRow g (cur.toList.take n ++ List.replicate N zero ++ cur.toList.drop (n + N)).toArray) base e 1 (some ⟨g, 0, none⟩) (n + N) c (vs ++ List.replicate N zero) := by
          refine OW.mk' g _ g1 (setRow_heap w g cur _ e _ g3) hroom g5 ?_ ?_ hvone
          · simp only [List.size_toArray, List.length_append, List.length_take, List.length_drop, Array.length_toList, List.length_replicate]; omega
          · rw [h7]
            show List.take ((n + N) * 1) (vs ++ List.replicate N zero ++ _) = _
            rw [Nat.mul_one, List.take_append_of_le_length (by simp; omega), List.take_of_length_le (by simp; omega)]
        have ho2 := ho.head n (by omega)
        rw [Nat.mul_one, List.take_left' hlen] at ho2
        exact hK _ _ (h _ _ _ ho ((Below.refl base w).grown hgb hbase (fun k hk => by cases hk; exact g1)) ho2.rs)
    · omega
  · have hrun := run_append_zeros_grow (P := P) w t it o.type e i zero ty.und hit hi hz0 hz hz1 hz2 a n c N hN vs hlen (fun ad ha j v hv => hr.cells ha j v hv)
      (fun ha => by subst ha; exact (hr.nil_inv).1) (by omega) hbytes
    have hge := grownCap_ge w (n + N) c e
    have hcm := grownCap_le_maxLen w (n + N) c e (by unfold maxLen; omega)
    unfold Oper.wp
    simp only [execOp, hop, resolve, invoke, builtin, Sem.run_bind, Sem.run_pure, Result.andThen_ok, List.map_toArray, List.map_cons, List.map_nil, es, ex, hrun]
    have hgb : w.grownBy (w.drew.alloc (.cells (vs.toArray ++ (List.replicate N zero).toArray ++ Builtin.zeroCells zero.cells (grownCap w (n + N) c e - (n + N))) e)) none := ⟨rfl, rfl, rfl, by simp, fun k hk _ => Below.heap_alloc w.drew _ k hk⟩
    refine hK _ _ (h _ _ _ (OW.mk' w.heap.size _ hbase (heap_alloc_new w.drew _) hge hcm ?_ ?_ hvone) (below_none (Below.refl _ _) hgb hbase) (hr.grown hgb (fun ad _ h => by cases h)))
    · simp only [Array.size_append, List.size_toArray, size_zeroCells, hlen, List.length_replicate, hz]; simp; omega
    · simp only [Array.toList_append, List.append_assoc]
      rw [Nat.mul_one, ← List.append_assoc, List.take_append_of_le_length (by simp; omega), List.take_of_length_le (by simp; omega)]
/-- an array in the machine's row, as a slice -/
theorem BS_mid {w : World} {g i n : Nat} {xs : List UInt8} (h : w.rangeAt g i (xs.map B)) (hl : xs.length = n) (hn : n ≤ 1000) : BS w (some ⟨g, i, none⟩) n n xs := by
  refine ⟨by rw [List.length_map, hl]; omega, Nat.le_refl _, by unfold maxLen; omega, one_B _, (fun h => by cases h), fun ad had => ?_⟩
  cases had
  exact ⟨fun _ => rfl, fun j v hv => h j v hv⟩
/-- what a client says first, without its last 32 bytes -/
def heloP (S : MS) : List UInt8 := S.rnd ++ textS S.id ++ textS S.par
noncomputable def helloS (S : MS) : MS :=
  sayS 0 1 (heloP S ++ binF S.sec ((gmsg 1 (heloP S ++ z32)).take ((gmsg 1 (heloP S ++ z32)).length - 32))) S
set_option maxHeartbeats 4000000 in
theorem ghello_any (w : World) {role : Nat → Nat} {g : Nat} {S : MS} {A : MA} (hM : GM w role g S A) (hs : S.said.length ≤ 549755813888) (ho : S.o0.length ≤ 549755813888) (hc : S.sec.length ≤ 549755813888) (hi : S.id.length ≤ 600) (hp : S.par.length ≤ 600) (hK : KT w) :
    Calls Tryd.prog 26 #[.pointer (some ⟨g, 0, none⟩)] w fun e w' => e = .returned (.tuple #[]) ∧ ∃ role' A', GM w' role' g (helloS S) A' ∧ Kpt w w' role role' := by
  have hOk := hM.ok
  obtain ⟨p, hpe⟩ : ∃ p, heloP S = p := ⟨_, rfl⟩
  have hpf : [S.rnd, textS S.id, textS S.par].flatten = p := by rw [← hpe]; simp [heloP]
  obtain ⟨W0, hWh⟩ : ∃ W0, gmsg 1 (p ++ z32) = W0 := ⟨_, rfl⟩
  obtain ⟨pl, hpl⟩ : ∃ pl, p.length = pl := ⟨_, rfl⟩
  have hv1 := vsz_bd S.id.length
  have hv2 := vsz_bd S.par.length
  have hplu : pl ≤ 1300 := by
    rw [← hpl, ← hpe]
    unfold heloP
    rw [List.length_append, List.length_append, textS_len, textS_len, hOk.rnd]; omega
  have hWl : W0.length = 36 + pl := by rw [← hWh, gmsg_len, List.length_append, hpl, z32_len]; omega
  obtain ⟨bi, hbi⟩ : ∃ bi, binF S.sec (W0.take (4 + pl)) = bi := ⟨_, rfl⟩
  have hbil : bi.length = 32 := by rw [← hbi]; exact binF_len _ _
  have hhe : helloS S = sayS 0 1 (p ++ bi) S := by
    unfold helloS
    rw [hpe, hWh, hWl, show 36 + pl - 32 = 4 + pl by omega, hbi]
  rw [hhe]
  obtain ⟨V, hV⟩ : ∃ V, w.drew = V := ⟨_, rfl⟩
  have hidl := BS.len hM.gp.id
  have hparl := BS.len hM.gp.par
  have hsecl := BS.len hM.gp.sec
  have HMV := Lib.hid (show GM V role g S A by rw [← hV]; exact hM.drew)
  have HKV := Lib.hid (show KT V by rw [← hV]; exact hK)
  have HPV := Lib.hid (show Kpt w V role role by rw [← hV]; exact (Kpt.refl w role hM.gp.top).drew)
  have HC1 := Lib.hid (show V.cell? ⟨g, 1, none⟩ = some (.slice A.id.a A.id.n A.id.c) from (HMV.out.row.cells hOk).g1)
  have HC3 := Lib.hid (show V.cell? ⟨g, 3, none⟩ = some (.slice A.par.a A.par.n A.par.c) from (HMV.out.row.cells hOk).g3)
  have HRV := Lib.hid (BS_mid HMV.out.row.r_rnd hOk.rnd (by omega))
  have hin : A.id.n ≤ 600 := by omega
  have hpn : A.par.n ≤ 600 := by omega
  have hsn : A.sec.n ≤ 549755813888 := by omega
  have e1 : S.id.length = A.id.n := hidl
  have e2 : S.par.length = A.par.n := hparl
  have Ht1 := Lib.hid (fun (w' : World) (h : BS w' A.id.a A.id.n A.id.c S.id) => vtext_any w' h (by omega))
  have Ht2 := Lib.hid (fun (w' : World) (h : BS w' A.par.a A.par.n A.par.c S.par) => vtext_any w' h (by omega))
  have Hjo := Lib.hid (fun (w' : World) (gb : Nat) (h : PS w' (some ⟨gb, 0, none⟩) 3 3 [S.rnd, textS S.id, textS S.par]) => join_any w' _ h (by rw [hpf]; omega))
  rw [hpf, hpl] at Hjo
  have Hmsg := Lib.hid (fun (w' : World) (a : Option Addr) (c : Nat) (h : BS w' a (pl + 32) c (p ++ z32)) => message_any w' 1 (by decide) h (by omega))
  rw [hWh] at Hmsg
  have lgV : g < V.heap.size := HMV.out.gp.gl
  have b0 : Below V.heap.size V V := Below.refl _ _
  obtain ⟨vi, hvi⟩ : ∃ vi, vsz A.id.n + A.id.n = vi := ⟨_, rfl⟩
  obtain ⟨vp, hvp⟩ : ∃ vp, vsz A.par.n + A.par.n = vp := ⟨_, rfl⟩
  rw [hvi] at Ht1
  rw [hvp] at Ht2
  have HS := Lib.hid hs
  have HO := Lib.hid ho
  have HBI := Lib.hid hbi
  have HZ32 := Lib.hid (show (List.replicate 32 (Value.int .u8 0)) = z32.map B by unfold z32; rw [List.map_replicate]; rfl)
  clear hpe hpf hWh hWl hbi hhe hM hK hidl hparl hsecl e1 e2 hvi hvp hv1 hv2 hs ho hc
  go_enter Tryd.func26, Tryd.ntmps26
  go_upto_region 0 with (fail)
  refine wp_region_held_drew (S := fun w' => w'.cell? ⟨g, 1, none⟩ = some (.slice A.id.a A.id.n A.id.c) ∧ w'.cell? ⟨g, 3, none⟩ = some (.slice A.par.a A.par.n A.par.c)) (by kernel_rfl) (by rw [hV]; exact ⟨HC1.out, HC3.out⟩) (fun hHeld => ?_)
  rw [hV] at hHeld ⊢
  refine wpAnyH_take (i := 0) (v := .pointer (some ⟨g, 0, none⟩)) rfl (by kernel_rfl) (by kernel_rfl) (by kernel_rfl) (fun _ _ _ h => h) (Or.inl ⟨by rfl, fun w h => by go_simp⟩) hHeld ?_
  try simp only [Act.put, List.getElem_toArray, List.getElem_cons_zero, List.setIfInBounds_toArray, List.set_cons_zero, List.set_cons_succ]
  refine wpAnyH_take (i := 1) (v := .pointer (some ⟨g, 0, none⟩)) rfl (by kernel_rfl) (by kernel_rfl) (by kernel_rfl) (fun _ _ _ h => h) (Or.inl ⟨by rfl, fun w h => by go_simp⟩) hHeld ?_
  try simp only [Act.put, List.getElem_toArray, List.getElem_cons_succ, List.getElem_cons_zero, List.setIfInBounds_toArray, List.set_cons_zero, List.set_cons_succ]
  refine wpAnyH_take (i := 2) (v := .pointer (some ⟨g, 0, none⟩)) rfl (by kernel_rfl) (by kernel_rfl) (by kernel_rfl) (fun _ _ _ h => h) (Or.inl ⟨by rfl, fun w h => by go_simp⟩) hHeld ?_
  try simp only [Act.put, List.getElem_toArray, List.getElem_cons_succ, List.getElem_cons_zero, List.setIfInBounds_toArray, List.set_cons_zero, List.set_cons_succ]
  refine wpAnyH_take (i := 3) (v := .pointer (some ⟨g, 4, none⟩)) rfl (by kernel_rfl) (by kernel_rfl) (by kernel_rfl) (fun _ _ _ h => h) (Or.inl ⟨by rfl, fun w h => by go_simp⟩) hHeld ?_
  try simp only [Act.put, List.getElem_toArray, List.getElem_cons_succ, List.getElem_cons_zero, List.setIfInBounds_toArray, List.set_cons_zero, List.set_cons_succ]
  refine wpAnyH_take (i := 4) (v := .slice (some ⟨g, 4, none⟩) 32 32) rfl (by kernel_rfl) (by kernel_rfl) (by kernel_rfl) (fun _ _ _ h => h) (Or.inl ⟨by rfl, fun w h => by go_simp⟩) hHeld ?_
  try simp only [Act.put, List.getElem_toArray, List.getElem_cons_succ, List.getElem_cons_zero, List.setIfInBounds_toArray, List.set_cons_zero, List.set_cons_succ]
  refine wpAnyH_take (i := 5) (v := .pointer (some ⟨g, 0, none⟩)) rfl (by kernel_rfl) (by kernel_rfl) (by kernel_rfl) (fun _ _ _ h => h) (Or.inl ⟨by rfl, fun w h => by go_simp⟩) hHeld ?_
  try simp only [Act.put, List.getElem_toArray, List.getElem_cons_succ, List.getElem_cons_zero, List.setIfInBounds_toArray, List.set_cons_zero, List.set_cons_succ]
  refine wpAnyH_take (i := 6) (v := .pointer (some ⟨g, 0, none⟩)) rfl (by kernel_rfl) (by kernel_rfl) (by kernel_rfl) (fun _ _ _ h => h) (Or.inl ⟨by rfl, fun w h => by go_simp⟩) hHeld ?_
  try simp only [Act.put, List.getElem_toArray, List.getElem_cons_succ, List.getElem_cons_zero, List.setIfInBounds_toArray, List.set_cons_zero, List.set_cons_succ]
  refine wpAnyH_take (i := 7) (v := .pointer (some ⟨g, 0, none⟩)) rfl (by kernel_rfl) (by kernel_rfl) (by kernel_rfl) (fun _ _ _ h => h) (Or.inl ⟨by rfl, fun w h => by go_simp⟩) hHeld ?_
  try simp only [Act.put, List.getElem_toArray, List.getElem_cons_succ, List.getElem_cons_zero, List.setIfInBounds_toArray, List.set_cons_zero, List.set_cons_succ]
  refine wpAnyH_take (i := 8) (v := .pointer (some ⟨g, 1, none⟩)) rfl (by kernel_rfl) (by kernel_rfl) (by kernel_rfl) (fun _ _ _ h => h) (Or.inl ⟨by rfl, fun w h => by go_simp⟩) hHeld ?_
  try simp only [Act.put, List.getElem_toArray, List.getElem_cons_succ, List.getElem_cons_zero, List.setIfInBounds_toArray, List.set_cons_zero, List.set_cons_succ]
  refine wpAnyH_take (i := 9) (v := .slice A.id.a A.id.n A.id.c) rfl (by kernel_rfl) (by kernel_rfl) (by kernel_rfl) (fun _ _ _ h => h) (Or.inl ⟨by rfl, fun w h => by have h2 : w.cell? ⟨g, 1, none⟩ = some (.slice A.id.a A.id.n A.id.c) := h.1; go_simp⟩) hHeld ?_
  try simp only [Act.put, List.getElem_toArray, List.getElem_cons_succ, List.getElem_cons_zero, List.setIfInBounds_toArray, List.set_cons_zero, List.set_cons_succ]
  refine wpAnyH_take (i := 11) (v := .pointer (some ⟨g, 0, none⟩)) rfl (by kernel_rfl) (by kernel_rfl) (by kernel_rfl) (fun _ _ _ h => h) (Or.inl ⟨by rfl, fun w h => by go_simp⟩) hHeld ?_
  try simp only [Act.put, List.getElem_toArray, List.getElem_cons_succ, List.getElem_cons_zero, List.setIfInBounds_toArray, List.set_cons_zero, List.set_cons_succ]
  refine wpAnyH_take (i := 12) (v := .pointer (some ⟨g, 0, none⟩)) rfl (by kernel_rfl) (by kernel_rfl) (by kernel_rfl) (fun _ _ _ h => h) (Or.inl ⟨by rfl, fun w h => by go_simp⟩) hHeld ?_
  try simp only [Act.put, List.getElem_toArray, List.getElem_cons_succ, List.getElem_cons_zero, List.setIfInBounds_toArray, List.set_cons_zero, List.set_cons_succ]
  refine wpAnyH_take (i := 13) (v := .pointer (some ⟨g, 0, none⟩)) rfl (by kernel_rfl) (by kernel_rfl) (by kernel_rfl) (fun _ _ _ h => h) (Or.inl ⟨by rfl, fun w h => by go_simp⟩) hHeld ?_
  try simp only [Act.put, List.getElem_toArray, List.getElem_cons_succ, List.getElem_cons_zero, List.setIfInBounds_toArray, List.set_cons_zero, List.set_cons_succ]
  refine wpAnyH_take (i := 14) (v := .pointer (some ⟨g, 3, none⟩)) rfl (by kernel_rfl) (by kernel_rfl) (by kernel_rfl) (fun _ _ _ h => h) (Or.inl ⟨by rfl, fun w h => by go_simp⟩) hHeld ?_
  try simp only [Act.put, List.getElem_toArray, List.getElem_cons_succ, List.getElem_cons_zero, List.setIfInBounds_toArray, List.set_cons_zero, List.set_cons_succ]
  refine wpAnyH_take (i := 15) (v := .slice A.par.a A.par.n A.par.c) rfl (by kernel_rfl) (by kernel_rfl) (by kernel_rfl) (fun _ _ _ h => h) (Or.inl ⟨by rfl, fun w h => by have h2 : w.cell? ⟨g, 3, none⟩ = some (.slice A.par.a A.par.n A.par.c) := h.2; go_simp⟩) hHeld ?_
  try simp only [Act.put, List.getElem_toArray, List.getElem_cons_succ, List.getElem_cons_zero, List.setIfInBounds_toArray, List.set_cons_zero, List.set_cons_succ]
  refine wpAnyH_ready (rs := [10]) (by kernel_rfl) (by simp) (AllReadyH.cons rfl (fun K hK => ?_) AllReadyH.nil)
  go_simp
  go_at_call 41
  refine ((Ht1.out V (RS.below HMV.out.gp.id b0 (Nat.le_refl _)))).mono ?_
  rintro x va1 ⟨a1, c1, rfl, o1, Ba3⟩
  have ba2 := b0.trans (Ba3.mono b0.size)
  have ha4 : OW va1 V.heap.size 5 1 a1 vi c1 ((textS S.id).map B) := o1.mono b0.size
  refine hK.out _ _ (And.intro ((Below.cell ba2 (p := ⟨g, 1, none⟩) lgV).trans HC1.out) ((Below.cell ba2 (p := ⟨g, 3, none⟩) lgV).trans HC3.out)) (fun hHeld => ?_)
  clear hK K
  try simp only [Act.put, List.getElem_toArray, List.getElem_cons_succ, List.getElem_cons_zero, List.setIfInBounds_toArray, List.set_cons_zero, List.set_cons_succ]
  refine wpAnyH_ready (rs := [16]) (by kernel_rfl) (by simp) (AllReadyH.cons rfl (fun K hK => ?_) AllReadyH.nil)
  go_simp
  go_at_call 41
  refine ((Ht2.out va1 (RS.below HMV.out.gp.par ba2 (Nat.le_refl _)))).mono ?_
  rintro x va5 ⟨a2, c2, rfl, o2, Ba7⟩
  have ba6 := ba2.trans (Ba7.mono ba2.size)
  have ha8 := ha4.below Ba7 (Nat.le_refl _)
  have ha9 : OW va5 V.heap.size 5 1 a2 vp c2 ((textS S.par).map B) := o2.mono ba2.size
  refine hK.out _ _ (And.intro ((Below.cell ba6 (p := ⟨g, 1, none⟩) lgV).trans HC1.out) ((Below.cell ba6 (p := ⟨g, 3, none⟩) lgV).trans HC3.out)) (fun hHeld => ?_)
  clear hK K
  try simp only [Act.put, List.getElem_toArray, List.getElem_cons_succ, List.getElem_cons_zero, List.setIfInBounds_toArray, List.set_cons_zero, List.set_cons_succ]
  refine wpAnyH_ready (rs := [17]) (by kernel_rfl) (by simp) (AllReadyH.cons rfl (fun K hK => ?_) AllReadyH.nil)
  go_simp
  have ba11 := ba6.alloc ba6.size (.cells #[.slice (some ⟨g, 4, none⟩) 32 32, .slice a1 vi c1, .slice a2 vp c2] 22)
  have ha12 : PS (va5.alloc (.cells #[.slice (some ⟨g, 4, none⟩) 32 32, .slice a1 vi c1, .slice a2 vp c2] 22)) (some ⟨va5.heap.size, 0, none⟩) 3 3 [S.rnd, textS S.id, textS S.par] := PS_three rfl (RS.below HRV.out ba6 (Nat.le_refl _)) ha8.rs ha9.rs
  have ha13 := ha8.alloc (.cells #[.slice (some ⟨g, 4, none⟩) 32 32, .slice a1 vi c1, .slice a2 vp c2] 22)
  have ha14 := ha9.alloc (.cells #[.slice (some ⟨g, 4, none⟩) 32 32, .slice a1 vi c1, .slice a2 vp c2] 22)
  refine hK.out _ _ (And.intro ((Below.cell ba11 (p := ⟨g, 1, none⟩) lgV).trans HC1.out) ((Below.cell ba11 (p := ⟨g, 3, none⟩) lgV).trans HC3.out)) (fun hHeld => ?_)
  clear hK K
  try simp only [Act.put, List.getElem_toArray, List.getElem_cons_succ, List.getElem_cons_zero, List.setIfInBounds_toArray, List.set_cons_zero, List.set_cons_succ]
  generalize (World.alloc _ _) = va10 at *
  obtain ⟨gb, hggb⟩ : ∃ g, va5.heap.size = g := ⟨_, rfl⟩
  rw [hggb] at ha12 ⊢
  refine wpAnyH_ready (rs := [18]) (by kernel_rfl) (by simp) (AllReadyH.cons rfl (fun K hK => ?_) AllReadyH.nil)
  go_simp
  go_at_call 43
  refine ((Hjo.out va10 gb ha12)).mono ?_
  rintro x va15 ⟨a3, c3, rfl, j3, Ba17⟩
  have ba16 := ba11.trans (Ba17.mono ba11.size)
  have ha18 := ha13.below Ba17 (Nat.le_refl _)
  have ha19 := ha14.below Ba17 (Nat.le_refl _)
  have ha20 := ha12.keepb (fun k hk => Ba17.block k hk)
  have ha21 : JW va15 V.heap.size 5 a3 pl c3 (p.map B) := j3.mono ba11.size
  refine hK.out _ _ (And.intro ((Below.cell ba16 (p := ⟨g, 1, none⟩) lgV).trans HC1.out) ((Below.cell ba16 (p := ⟨g, 3, none⟩) lgV).trans HC3.out)) (fun hHeld => ?_)
  clear hK K
  try simp only [Act.put, List.getElem_toArray, List.getElem_cons_succ, List.getElem_cons_zero, List.setIfInBounds_toArray, List.set_cons_zero, List.set_cons_succ]
  refine wpAnyH_take (i := 19) (v := .slice a3 pl c3) rfl (by kernel_rfl) (by kernel_rfl) (by kernel_rfl) (fun _ _ _ h => h) (Or.inl ⟨by rfl, fun w h => by go_simp⟩) hHeld ?_
  try simp only [Act.put, List.getElem_toArray, List.getElem_cons_succ, List.getElem_cons_zero, List.setIfInBounds_toArray, List.set_cons_zero, List.set_cons_succ]
  refine wpAnyH_done (by kernel_rfl) ?_ _
  try simp only [Act.put, List.getElem_toArray, List.getElem_cons_succ, List.getElem_cons_zero]
  have hJ1 := ha21
  have bb := ba16
  have HBB := Lib.hid bb
  clear hHeld
  go_upto_region 2 with (first
    | (at_builtin; refine L_append_zerosJ tB rfl rfl hJ1 3 Tryd.underlying3 32 (by omega) _ _ rfl rfl _ rfl rfl rfl (by omega) bb.size ?_; intro a4 c4 w4 o4 B4 hp4)
    | (go_at_call 44; refine (Hmsg.out w4 a4 c4 (by unfold BS; rw [List.map_append, ← HZ32.out]; exact o4.rs)).mono ?_; rintro x w5 ⟨a5, c5, rfl, o5, B5⟩))
  have b4 := bb.trans B4
  have b5 := b4.trans (B5.mono b4.size)
  have h1 := HMV.out.kept b5.size (fun k hk _ => b5.block k hk)
  have h2 := HPV.out.trans (Below.kpt b5 HMV.out.gp.top)
  have h3 := HKV.out.below b5 (Nat.le_refl _)
  have h4 := RS.below hp4 B5 (Nat.le_refl _)
  have h5 := o5.rs
  obtain ⟨U, hU⟩ : ∃ U, w5.drew = U := ⟨_, rfl⟩
  have HMU := Lib.hid (show GM U role g S A by rw [← hU]; exact h1.drew)
  have HPU := Lib.hid (show Kpt w U role role by rw [← hU]; exact h2.drew)
  have HKU := Lib.hid (show KT U by rw [← hU]; exact h3)
  have hpU : BS U a3 pl c3 p := by rw [← hU]; exact h4
  have hWU : BS U a5 (4 + (pl + 32)) c5 W0 := by rw [← hU]; exact h5
  obtain ⟨hT1, hq1⟩ := runK_h hWU .i64 (4 + pl) (by omega)
  have HT1 := Lib.hid hT1
  have HpU := Lib.hid hpU
  have hq2 : (U.cell? ⟨g, 2, none⟩) = some (.slice A.sec.a A.sec.n A.sec.c) := (HMU.out.row.cells hOk).g2
  have HQ2 := Lib.hid hq2
  have Hbin := Lib.hid (fun (w' : World) (hc : w'.cell? ⟨g, 2, none⟩ = some (.slice A.sec.a A.sec.n A.sec.c)) (hx : BS w' A.sec.a A.sec.n A.sec.c S.sec) (h : BS w' a5 (4 + pl) c5 (W0.take (4 + pl))) (hk : KT w') => gbinder_any w' hc hx hsn h (by omega) hk)
  rw [HBI.out] at Hbin
  have lgU : g < U.heap.size := HMU.out.gp.gl
  have c0 : Below U.heap.size U U := Below.refl _ _
  obtain ⟨wl, hwl⟩ : ∃ wl, 4 + (pl + 32) = wl := ⟨_, rfl⟩
  obtain ⟨q, hq⟩ : ∃ q, 4 + pl = q := ⟨_, rfl⟩
  have hwq : (wl : Int) - 32 = (q : Int) := by omega
  have hqw : IntKind.i64.wrap (q : Int) = (q : Int) := IntWalk.i64_in _ (by omega)
  rw [hwl] at hq1
  rw [hwl]
  rw [hq] at hq1 HT1 Hbin
  have HSl := Lib.hid (show S.said.length ≤ 1099511627776 from Nat.le_trans HS.out (by decide))
  have HOl := Lib.hid (show S.o0.length ≤ 1099511627776 from Nat.le_trans HO.out (by decide))
  clear h1 h2 h3 h4 h5 hp4 o4 o5 B4 B5 b4 b5 hJ1 bb hpU hWU hT1 hq2 Hmsg Hjo Ht1 Ht2 hwl hq
  refine wp_region_held_drew (S := fun _ => True) (by kernel_rfl) trivial (fun hHeld => ?_)
  rw [hU]
  refine wpAnyH_take (i := 0) (v := .pointer (some ⟨g, 0, none⟩)) rfl (by kernel_rfl) (by kernel_rfl) (by kernel_rfl) (fun _ _ _ h => h) (Or.inl ⟨by rfl, fun w h => by go_simp⟩) hHeld ?_
  try simp only [Act.put, List.getElem_toArray, List.getElem_cons_zero, List.setIfInBounds_toArray, List.set_cons_zero, List.set_cons_succ]
  refine wpAnyH_take (i := 1) (v := .slice a3 pl c3) rfl (by kernel_rfl) (by kernel_rfl) (by kernel_rfl) (fun _ _ _ h => h) (Or.inl ⟨by rfl, fun w h => by go_simp⟩) hHeld ?_
  try simp only [Act.put, List.getElem_toArray, List.getElem_cons_succ, List.getElem_cons_zero, List.setIfInBounds_toArray, List.set_cons_zero, List.set_cons_succ]
  refine wpAnyH_take (i := 3) (v := .pointer (some ⟨g, 0, none⟩)) rfl (by kernel_rfl) (by kernel_rfl) (by kernel_rfl) (fun _ _ _ h => h) (Or.inl ⟨by rfl, fun w h => by go_simp⟩) hHeld ?_
  try simp only [Act.put, List.getElem_toArray, List.getElem_cons_succ, List.getElem_cons_zero, List.setIfInBounds_toArray, List.set_cons_zero, List.set_cons_succ]
  refine wpAnyH_take (i := 4) (v := .slice a5 wl c5) rfl (by kernel_rfl) (by kernel_rfl) (by kernel_rfl) (fun _ _ _ h => h) (Or.inl ⟨by rfl, fun w h => by go_simp⟩) hHeld ?_
  try simp only [Act.put, List.getElem_toArray, List.getElem_cons_succ, List.getElem_cons_zero, List.setIfInBounds_toArray, List.set_cons_zero, List.set_cons_succ]
  refine wpAnyH_take (i := 5) (v := .slice a5 wl c5) rfl (by kernel_rfl) (by kernel_rfl) (by kernel_rfl) (fun _ _ _ h => h) (Or.inl ⟨by rfl, fun w h => by go_simp⟩) hHeld ?_
  try simp only [Act.put, List.getElem_toArray, List.getElem_cons_succ, List.getElem_cons_zero, List.setIfInBounds_toArray, List.set_cons_zero, List.set_cons_succ]
  refine wpAnyH_take (i := 6) (v := .int .i64 (wl : Int)) rfl (by kernel_rfl) (by kernel_rfl) (by kernel_rfl) (fun _ _ _ h => h) (Or.inl ⟨by rfl, fun w h => by go_simp⟩) hHeld ?_
  try simp only [Act.put, List.getElem_toArray, List.getElem_cons_succ, List.getElem_cons_zero, List.setIfInBounds_toArray, List.set_cons_zero, List.set_cons_succ]
  refine wpAnyH_take (i := 7) (v := .int .i64 (q : Int)) rfl (by kernel_rfl) (by kernel_rfl) (by kernel_rfl) (fun _ _ _ h => h) (Or.inl ⟨by rfl, fun w h => by go_simp⟩) hHeld ?_
  try simp only [Act.put, List.getElem_toArray, List.getElem_cons_succ, List.getElem_cons_zero, List.setIfInBounds_toArray, List.set_cons_zero, List.set_cons_succ]
  refine wpAnyH_take (i := 8) (v := .slice a5 q c5) rfl (by kernel_rfl) (by kernel_rfl) (by kernel_rfl) (fun _ _ _ h => h) (Or.inl ⟨by rfl, fun w h => by go_simp⟩) hHeld ?_
  try simp only [Act.put, List.getElem_toArray, List.getElem_cons_succ, List.getElem_cons_zero, List.setIfInBounds_toArray, List.set_cons_zero, List.set_cons_succ]
  refine wpAnyH_ready (rs := [2]) (by kernel_rfl) (by simp) (AllReadyH.cons rfl (fun K hK => ?_) AllReadyH.nil)
  go_simp
  go_at_call 25
  refine ((clone_any U (RS.below HpU.out c0 (Nat.le_refl _)) (by omega))).mono ?_
  rintro x vc1 ⟨a6, c6, rfl, o6, Bc3⟩
  have bc2 := c0.trans (Bc3.mono c0.size)
  have hc4 : OW vc1 U.heap.size 5 1 a6 pl c6 (p.map B) := o6.mono c0.size
  refine hK.out _ _ (trivial) (fun hHeld => ?_)
  clear hK K
  try simp only [Act.put, List.getElem_toArray, List.getElem_cons_succ, List.getElem_cons_zero, List.setIfInBounds_toArray, List.set_cons_zero, List.set_cons_succ]
  refine wpAnyH_ready (rs := [9]) (by kernel_rfl) (by simp) (AllReadyH.cons rfl (fun K hK => ?_) AllReadyH.nil)
  go_simp
  go_at_call 46
  refine ((Hbin.out vc1 ((Below.cell bc2 (p := ⟨g, 2, none⟩) lgU).trans HQ2.out) (RS.below HMU.out.gp.sec bc2 (Nat.le_refl _)) (RS.below HT1.out bc2 (Nat.le_refl _)) (HKU.out.below bc2 (Nat.le_refl _)))).mono ?_
  rintro x vc5 ⟨gm, rfl, hbm, hgm, Bc7⟩
  have bc6 := bc2.trans (Bc7.mono bc2.size)
  have hc8 := hc4.below Bc7 (Nat.le_refl _)
  have hc9 : AB vc5 gm 26 bi := hbm
  refine hK.out _ _ (trivial) (fun hHeld => ?_)
  clear hK K
  try simp only [Act.put, List.getElem_toArray, List.getElem_cons_succ, List.getElem_cons_zero, List.setIfInBounds_toArray, List.set_cons_zero, List.set_cons_succ]
  refine wpAnyH_ready (rs := [10]) (by kernel_rfl) (by simp) (AllReadyH.cons rfl (fun K hK => ?_) AllReadyH.nil)
  refine S_append tB hc8 (hc9.bs32 hbil) _ _ rfl rfl rfl rfl (by omega) (by unfold maxLen; omega) bc6.size ?_
  intro a7 c7 vc10 o7 g7
  have bc11 := below_own bc6 hc8 g7 (Nat.le_refl _) bc6.size
  refine hK.out _ _ trivial (fun hHeld => ?_)
  clear hK K
  try simp only [Act.put, List.getElem_toArray, List.getElem_cons_succ, List.getElem_cons_zero, List.setIfInBounds_toArray, List.set_cons_zero, List.set_cons_succ]
  have hc12 : OW vc10 U.heap.size 5 1 a7 (pl + 32) c7 (p.map B ++ bi.map B) := o7
  refine wpAnyH_ready (rs := [11]) (by kernel_rfl) (by simp) (AllReadyH.cons rfl (fun K hK => ?_) AllReadyH.nil)
  go_simp
  go_at_call 45
  have hm9 := HMU.out.kept bc11.size (fun k hk _ => bc11.block k hk)
  refine (gsay_0 _ hm9 1 (by decide) (show BS _ a7 (pl + 32) c7 (p ++ bi) by unfold BS; rw [List.map_append]; exact hc12.rs) (by omega) HSl.out HOl.out).mono ?_
  rintro x vc13 ⟨rfl, role9, A9, hm10, hk10⟩
  have hkf := (HPU.out.trans (Below.kpt bc11 HMU.out.gp.top)).trans hk10
  have bc14 := bc11
  refine hK.out _ _ trivial (fun hHeld => ?_)
  clear hK K
  try simp only [Act.put, List.getElem_toArray, List.getElem_cons_succ, List.getElem_cons_zero, List.setIfInBounds_toArray, List.set_cons_zero, List.set_cons_succ]
  refine wpAnyH_done (by kernel_rfl) ?_ _
  try simp only [Act.put, List.getElem_toArray, List.getElem_cons_succ, List.getElem_cons_zero]
  have HF := Lib.hid hm10
  have HKF := Lib.hid hkf
  clear hm10 hkf hm9 hHeld
  go_wp2
  go_end0
  exact ⟨rfl, role9, A9, HF.out, HKF.out⟩
end Go.Proofs.YtkhcpnmbhbhcgaaDoor

/- greet.Machine: steps that several of its functions take; ring.Same. -/
set_option maxRecDepth 100000
set_option linter.unusedVariables false
namespace Go.Proofs.YtkhcpnmbhbhcgaaDoor
open Go.RowKit Go.Joins
theorem rsame_any (w : World) {a b : Option Addr} {n c m d : Nat} {xs ys : List UInt8} (hx : BS w a n c xs) (hy : BS w b m d ys) :
    Calls Tryd.prog 72 #[.slice a n c, .slice b m d] w fun e w' => e = .returned (.bool (xs == ys)) ∧ w = w' := by
  have H := Lib.hid (equal_any w hx hy)
  clear hx hy
  go_enter Tryd.func72, Tryd.ntmps72
  go_wp2_with (go_at_call 71; refine H.out.mono ?_; rintro x w1 ⟨rfl, rfl⟩)
  go_ret
  exact ⟨rfl, rfl⟩
section
variable {w w2 : World} {role role2 : Nat → Nat} {g : Nat} {S : MS} {A : MA}
/-- said grows -/
theorem GM.said_app (h : GM w role g S A) {b : List UInt8} {a : Option Addr} {n c : Nat} (ho : OX w2 role2 1 5 a n c (S.said.map B ++ b.map B)) (hs : Stp 1 w w2 role role2) :
    GM (w2.setCell ⟨g, 36, none⟩ (.slice a n c)) role2 g { S with said := S.said ++ b } { A with said := ⟨a, n, c⟩ } ∧ Kpt w (w2.setCell ⟨g, 36, none⟩ (.slice a n c)) role role2 := by
  have hr2 := h.row.keep (hs.blk g h.gp.gl (by rw [h.gp.rg]; decide))
  have hg2 := h.gp.s_said hs (x := S.said ++ b) (by rw [List.map_append]; exact ho)
  exact ⟨⟨hr2.s_said h.ok a n c { S with said := S.said ++ b } rfl, ⟨h.ok.rnd, h.ok.hand, h.ok.k0c, h.ok.k0s, h.ok.k1c, h.ok.k1s, h.ok.k2c, h.ok.k2s⟩, hg2.cell 36 _⟩, (hs.kpt (by decide)).trans (kpt_cell 36 _ hg2.rg hs.top)⟩
theorem GM.said_at (h : GM w role g S A) (hs : Stp 1 w w2 role role2) : w2.cell? ⟨g, 36, none⟩ = some (.slice A.said.a A.said.n A.said.c) ∧ w2.frozen? ⟨g, 36, none⟩ = false := by
  have hr2 := h.row.keep (hs.blk g h.gp.gl (by rw [h.gp.rg]; decide))
  exact ⟨(hr2.cells h.ok).g36, hr2.fr 36⟩
theorem GM.set_came (h : GM w role g S A) (x : Bool) : GM (w.setCell ⟨g, 270, none⟩ (.bool x)) role g { S with came := x } A ∧ Kpt w (w.setCell ⟨g, 270, none⟩ (.bool x)) role role := by
  have hg := h.gp.cell 270 (.bool x)
  exact ⟨⟨h.row.s_came h.ok x, ⟨h.ok.rnd, h.ok.hand, h.ok.k0c, h.ok.k0s, h.ok.k1c, h.ok.k1s, h.ok.k2c, h.ok.k2s⟩, ⟨hg.rg, hg.gl, hg.top, hg.id, hg.idr, hg.sec, hg.secr, hg.par, hg.parr, hg.pe, hg.per, hg.nx, hg.nxr, hg.said, hg.o0, hg.o1, hg.i0, hg.i1⟩⟩, kpt_cell 270 _ h.gp.rg h.gp.top⟩
theorem GM.set_done (h : GM w role g S A) (x : Bool) : GM (w.setCell ⟨g, 271, none⟩ (.bool x)) role g { S with done := x } A ∧ Kpt w (w.setCell ⟨g, 271, none⟩ (.bool x)) role role := by
  have hg := h.gp.cell 271 (.bool x)
  exact ⟨⟨h.row.s_done h.ok x, ⟨h.ok.rnd, h.ok.hand, h.ok.k0c, h.ok.k0s, h.ok.k1c, h.ok.k1s, h.ok.k2c, h.ok.k2s⟩, ⟨hg.rg, hg.gl, hg.top, hg.id, hg.idr, hg.sec, hg.secr, hg.par, hg.parr, hg.pe, hg.per, hg.nx, hg.nxr, hg.said, hg.o0, hg.o1, hg.i0, hg.i1⟩⟩, kpt_cell 271 _ h.gp.rg h.gp.top⟩
theorem GM.set_wrong (h : GM w role g S A) (x : Nat) : GM (w.setCell ⟨g, 272, none⟩ (.int .u64 (x : Int))) role g { S with wrong := x } A ∧ Kpt w (w.setCell ⟨g, 272, none⟩ (.int .u64 (x : Int))) role role := by
  have hg := h.gp.cell 272 (.int .u64 (x : Int))
  exact ⟨⟨h.row.s_wrong h.ok x, ⟨h.ok.rnd, h.ok.hand, h.ok.k0c, h.ok.k0s, h.ok.k1c, h.ok.k1s, h.ok.k2c, h.ok.k2s⟩, ⟨hg.rg, hg.gl, hg.top, hg.id, hg.idr, hg.sec, hg.secr, hg.par, hg.parr, hg.pe, hg.per, hg.nx, hg.nxr, hg.said, hg.o0, hg.o1, hg.i0, hg.i1⟩⟩, kpt_cell 272 _ h.gp.rg h.gp.top⟩
/-- a block that was nobody's is taken -/
def upd (role : Nat → Nat) (k r : Nat) : Nat → Nat := fun j => if j = k then r else role j
theorem RB.upd_ {r k r' : Nat} {a : Option Addr} (h : RB role r a) (h0 : role k = 0) (hr : r ≠ 0) : RB (upd role k r') r a := fun ad ha => by
  have := h ad ha
  unfold upd
  rw [if_neg (fun he => by rw [he, h0] at this; exact hr this.symm)]; exact this
theorem OX.upd_ {r k r' : Nat} {e : TypeId} {a : Option Addr} {n c : Nat} {vs : List Value} (h : OX w role r e a n c vs) (h0 : role k = 0) (hr : r ≠ 0) : OX w (upd role k r') r e a n c vs := ⟨h.rs, h.rb.upd_ h0 hr, h.own⟩
theorem GP.claim (h : GP w role g S A) {k : Nat} (h0 : role k = 0) (hk : k < w.heap.size) : GP w (upd role k 7) g S A :=
  ⟨by unfold upd; rw [if_neg (fun he => by rw [← he, h.rg] at h0; cases h0)]; exact h.rg, h.gl, fun j hj => by unfold upd; rw [if_neg (by omega)]; exact h.top j hj,
   h.id, h.idr.upd_ h0 (by decide), h.sec, h.secr.upd_ h0 (by decide), h.par, h.parr.upd_ h0 (by decide), h.pe, h.per.upd_ h0 (by decide), h.nx, h.nxr.upd_ h0 (by decide), h.said.upd_ h0 (by decide), h.o0.upd_ h0 (by decide), h.o1.upd_ h0 (by decide), h.i0.upd_ h0 (by decide), h.i1.upd_ h0 (by decide)⟩
theorem Kpt.claim {w0 : World} {role0 : Nat → Nat} (h : Kpt w0 w role0 role) {k : Nat} (h0 : w0.heap.size ≤ k) (hk : k < w.heap.size) : Kpt w0 w role0 (upd role k 7) :=
  ⟨h.os, h.tape, h.output, h.size, fun j hj hr => ⟨(h.blk j hj hr).1, by unfold upd; rw [if_neg (by omega)]; exact (h.blk j hj hr).2⟩, fun j hj => by unfold upd; rw [if_neg (by omega)]; exact h.top j hj⟩
/-- the other one's params are set: a row of the call's own is taken -/
theorem GM.set_pe (h : GM w role g S A) {base : Nat} {a : Option Addr} {n c : Nat} {t : List UInt8} (ht : OW w base 5 1 a n c (t.map B)) (h0 : ∀ k, base ≤ k → role k = 0) {w0 : World} {role0 : Nat → Nat} (hk : Kpt w0 w role0 role) (hb : w0.heap.size ≤ base) :
    ∃ role', GM (w.setCell ⟨g, 269, none⟩ (.slice a n c)) role' g { S with peer := t } { A with pe := ⟨a, n, c⟩ } ∧ Kpt w0 (w.setCell ⟨g, 269, none⟩ (.slice a n c)) role0 role' ∧ (∀ k, base ≤ k → (∀ ad, a = some ad → ad.block ≠ k) → role' k = 0) := by
  have hrow : MZ (w.setCell ⟨g, 269, none⟩ (.slice a n c)) g { S with peer := t } { A with pe := ⟨a, n, c⟩ } := h.row.s_pe h.ok a n c { S with peer := t } rfl
  have hbs : BS w a n c t := ht.rs
  have hrg : ∀ k, base ≤ k → k ≠ g := fun k hk he => by rw [he] at hk; have := h0 g hk; rw [h.gp.rg] at this; cases this
  cases ha : a with
  | none =>
    subst ha
    have hg := h.gp.cell 269 (.slice none n c)
    exact ⟨role, ⟨hrow, ⟨h.ok.rnd, h.ok.hand, h.ok.k0c, h.ok.k0s, h.ok.k1c, h.ok.k1s, h.ok.k2c, h.ok.k2s⟩, ⟨hg.rg, hg.gl, hg.top, hg.id, hg.idr, hg.sec, hg.secr, hg.par, hg.parr, hbs.grown (grownBy_setCell w ⟨g, 269, none⟩ _) (fun ad h => by cases h), RB.nil _ _, hg.nx, hg.nxr, hg.said, hg.o0, hg.o1, hg.i0, hg.i1⟩⟩,
      hk.trans (kpt_cell 269 _ h.gp.rg h.gp.top), fun k hb _ => h0 k hb⟩
  | some ad =>
    subst ha
    obtain ⟨hb1, hb2⟩ := ht.base_le rfl
    have hz := h0 _ hb1
    have hc := h.gp.claim hz hb2
    have hg := hc.cell 269 (.slice (some ad) n c)
    have hk2 := hk.claim (Nat.le_trans hb hb1) hb2
    exact ⟨upd role ad.block 7, ⟨hrow, ⟨h.ok.rnd, h.ok.hand, h.ok.k0c, h.ok.k0s, h.ok.k1c, h.ok.k1s, h.ok.k2c, h.ok.k2s⟩, ⟨hg.rg, hg.gl, hg.top, hg.id, hg.idr, hg.sec, hg.secr, hg.par, hg.parr, hbs.grown (grownBy_setCell w ⟨g, 269, none⟩ _) (fun a' ha' he => by
        cases ha'; injection he with he; exact hrg _ hb1 he), (fun a' ha' => by cases ha'; unfold upd; rw [if_pos rfl]), hg.nx, hg.nxr, hg.said, hg.o0, hg.o1, hg.i0, hg.i1⟩⟩,
      hk2.trans (kpt_cell 269 _ hc.rg hc.top), fun k hb hne => by unfold upd; rw [if_neg (fun he => hne ad rfl he.symm)]; exact h0 k hb⟩
theorem MZ.r_k1c (h : MZ w g S A) (ho : S.Ok) : w.rangeAt g 139 (S.k1.c.map B) := h.range ([.bool S.server, A.id.v, A.sec.v, A.par.v] ++ S.rnd.map B ++ [A.said.v, A.o0.v, A.o1.v, A.i0.v, A.i1.v, A.nx.v] ++ S.hand.map B ++ pc S.k0) _ _ 139 (by simp [pc, ho.rnd, ho.hand, ho.k0c, ho.k0s]) (by simp only [mc, pc, List.append_assoc]; rfl)
theorem MZ.r_k1s (h : MZ w g S A) (ho : S.Ok) : w.rangeAt g 171 (S.k1.s.map B) := h.range ([.bool S.server, A.id.v, A.sec.v, A.par.v] ++ S.rnd.map B ++ [A.said.v, A.o0.v, A.o1.v, A.i0.v, A.i1.v, A.nx.v] ++ S.hand.map B ++ pc S.k0 ++ S.k1.c.map B) _ _ 171 (by simp [pc, ho.rnd, ho.hand, ho.k0c, ho.k0s, ho.k1c]) (by simp only [mc, pc, List.append_assoc]; rfl)
end
end Go.Proofs.YtkhcpnmbhbhcgaaDoor

/- (*greet.Machine).part. -/
set_option maxRecDepth 100000
set_option linter.unusedVariables false
namespace Go.Proofs.YtkhcpnmbhbhcgaaDoor
open Go.RowKit Go.Joins
set_option maxHeartbeats 4000000 in
theorem gpart_any (w : World) {role : Nat → Nat} {g : Nat} {S : MS} {A : MA} (hM : GM w role g S A) (hs : S.said.length ≤ 549755813888) (hK : KT w) :
    Calls Tryd.prog 73 #[.pointer (some ⟨g, 0, none⟩)] w fun e w' => e = .returned (.tuple #[]) ∧ GM w' role g (partS S) A ∧ Kpt w w' role role := by
  have hOk := hM.ok
  obtain ⟨H, hH⟩ : ∃ H, S.hand = H := ⟨_, rfl⟩
  have hHl : H.length = 32 := by rw [← hH]; exact hOk.hand
  obtain ⟨M, hMe⟩ : ∃ M, latF H = M := ⟨_, rfl⟩
  have hMl : M.length = 32 := by rw [← hMe]; exact latF_len _
  obtain ⟨U, hU⟩ : ∃ U, sumF S.said = U := ⟨_, rfl⟩
  have hUl : U.length = 32 := by rw [← hU]; exact sumF_len _
  obtain ⟨C, hC⟩ : ∃ C, labF M [99, 32, 97, 112, 32, 116, 114, 97, 102, 102, 105, 99] U = C := ⟨_, rfl⟩
  have hCl : C.length = 32 := by rw [← hC]; exact labF_len _ _ _
  obtain ⟨D, hD⟩ : ∃ D, labF M [115, 32, 97, 112, 32, 116, 114, 97, 102, 102, 105, 99] U = D := ⟨_, rfl⟩
  have hDl : D.length = 32 := by rw [← hD]; exact labF_len _ _ _
  have hag : partS S = { S with k2 := ⟨C, D, true⟩ } := by unfold partS; rw [hU, hH, hMe, hC, hD]
  rw [hag]
  have Hla := Lib.hid (fun (w' : World) (h : KT w') => glater_any w' hHl h)
  rw [hMe] at Hla
  have hsn : A.said.n ≤ 549755813888 := by have := hM.gp.said.len; omega
  have Hsu := Lib.hid (fun (w' : World) (h : BS w' A.said.a A.said.n A.said.c S.said) (hk : KT w') => gsum_any w' h hsn hk)
  rw [hU] at Hsu
  have Hl1 := Lib.hid (fun (w' : World) (gs : Nat) (h : BS w' (some ⟨gs, 0, none⟩) 32 32 U) (hk : KT w') => glab_any w' hMl { data := #[99, 32, 97, 112, 32, 116, 114, 97, 102, 102, 105, 99] } (by decide) rfl h (by omega) hk)
  have Hl2 := Lib.hid (fun (w' : World) (gs : Nat) (h : BS w' (some ⟨gs, 0, none⟩) 32 32 U) (hk : KT w') => glab_any w' hMl { data := #[115, 32, 97, 112, 32, 116, 114, 97, 102, 102, 105, 99] } (by decide) rfl h (by omega) hk)
  rw [hC] at Hl1
  rw [hD] at Hl2
  obtain ⟨V, hV⟩ : ∃ V, w.drew = V := ⟨_, rfl⟩
  have HMV := Lib.hid (show GM V role g S A by rw [← hV]; exact hM.drew)
  have HKV := Lib.hid (show KT V by rw [← hV]; exact hK)
  have HPV := Lib.hid (show Kpt w V role role by rw [← hV]; exact (Kpt.refl w role hM.gp.top).drew)
  have hra : V.rangeAt g 42 (H.map B) := by have := HMV.out.row.r_hand hOk; rw [hH] at this; exact this
  have HRA := Lib.hid hra
  have HCV := Lib.hid (show V.cell? ⟨g, 36, none⟩ = some (.slice A.said.a A.said.n A.said.c) from (HMV.out.row.cells hOk).g36)
  have HXV := Lib.hid (show BS V A.said.a A.said.n A.said.c S.said from HMV.out.gp.said.rs)
  have lgV : g < V.heap.size := HMV.out.gp.gl
  have b0 : Below V.heap.size V V := Below.refl _ _
  have hu32 := Tryd.underlying26
  have hiH := len32 hHl
  have hiM := len32 hMl
  clear hH hMe hU hC hD hag hK hra hM
  go_enter Tryd.func73, Tryd.ntmps73
  go_upto_region 0 with (fail)
  refine wp_region_held_drew (S := fun w' => w'.rangeAt g 42 (H.map B) ∧ w'.cell? ⟨g, 36, none⟩ = some (.slice A.said.a A.said.n A.said.c)) (by kernel_rfl) (by rw [hV]; exact ⟨HRA.out, HCV.out⟩) (fun hHeld => ?_)
  rw [hV] at hHeld ⊢
  refine wpAnyH_take (i := 0) (v := .pointer (some ⟨g, 0, none⟩)) rfl (by kernel_rfl) (by kernel_rfl) (by kernel_rfl) (fun _ _ _ h => h) (Or.inl ⟨by rfl, fun w h => by go_simp⟩) hHeld ?_
  try simp only [Act.put, List.getElem_toArray, List.getElem_cons_zero, List.setIfInBounds_toArray, List.set_cons_zero, List.set_cons_succ]
  refine wpAnyH_take (i := 1) (v := .pointer (some ⟨g, 0, none⟩)) rfl (by kernel_rfl) (by kernel_rfl) (by kernel_rfl) (fun _ _ _ h => h) (Or.inl ⟨by rfl, fun w h => by go_simp⟩) hHeld ?_
  try simp only [Act.put, List.getElem_toArray, List.getElem_cons_succ, List.getElem_cons_zero, List.setIfInBounds_toArray, List.set_cons_zero, List.set_cons_succ]
  refine wpAnyH_take (i := 2) (v := .pointer (some ⟨g, 42, none⟩)) rfl (by kernel_rfl) (by kernel_rfl) (by kernel_rfl) (fun _ _ _ h => h) (Or.inl ⟨by rfl, fun w h => by go_simp⟩) hHeld ?_
  try simp only [Act.put, List.getElem_toArray, List.getElem_cons_succ, List.getElem_cons_zero, List.setIfInBounds_toArray, List.set_cons_zero, List.set_cons_succ]
  refine wpAnyH_take (i := 3) rfl (by kernel_rfl) (by kernel_rfl) (by kernel_rfl) (fun _ _ _ h => h) (yieldsIf_load_mid (by rfl) _ _ rfl _ _ rfl _ _ (fun w h => h.1) hu32 rfl hiH) hHeld ?_
  try simp only [Act.put, List.getElem_toArray, List.getElem_cons_succ, List.getElem_cons_zero, List.setIfInBounds_toArray, List.set_cons_zero, List.set_cons_succ]
  refine wpAnyH_take (i := 5) (v := .pointer (some ⟨g, 0, none⟩)) rfl (by kernel_rfl) (by kernel_rfl) (by kernel_rfl) (fun _ _ _ h => h) (Or.inl ⟨by rfl, fun w h => by go_simp⟩) hHeld ?_
  try simp only [Act.put, List.getElem_toArray, List.getElem_cons_succ, List.getElem_cons_zero, List.setIfInBounds_toArray, List.set_cons_zero, List.set_cons_succ]
  refine wpAnyH_take (i := 6) (v := .pointer (some ⟨g, 0, none⟩)) rfl (by kernel_rfl) (by kernel_rfl) (by kernel_rfl) (fun _ _ _ h => h) (Or.inl ⟨by rfl, fun w h => by go_simp⟩) hHeld ?_
  try simp only [Act.put, List.getElem_toArray, List.getElem_cons_succ, List.getElem_cons_zero, List.setIfInBounds_toArray, List.set_cons_zero, List.set_cons_succ]
  refine wpAnyH_take (i := 7) (v := .pointer (some ⟨g, 36, none⟩)) rfl (by kernel_rfl) (by kernel_rfl) (by kernel_rfl) (fun _ _ _ h => h) (Or.inl ⟨by rfl, fun w h => by go_simp⟩) hHeld ?_
  try simp only [Act.put, List.getElem_toArray, List.getElem_cons_succ, List.getElem_cons_zero, List.setIfInBounds_toArray, List.set_cons_zero, List.set_cons_succ]
  refine wpAnyH_take (i := 8) (v := .slice A.said.a A.said.n A.said.c) rfl (by kernel_rfl) (by kernel_rfl) (by kernel_rfl) (fun _ _ _ h => h) (Or.inl ⟨by rfl, fun w h => by have h2 : w.cell? ⟨g, 36, none⟩ = some (.slice A.said.a A.said.n A.said.c) := h.2; go_simp⟩) hHeld ?_
  try simp only [Act.put, List.getElem_toArray, List.getElem_cons_succ, List.getElem_cons_zero, List.setIfInBounds_toArray, List.set_cons_zero, List.set_cons_succ]
  refine (fun (hka : Hid (∀ (w : World) (gs : Nat) (g2 : Nat), (Below V.heap.size V w ∧ AB w g2 26 (List.replicate 32 0) ∧ V.heap.size ≤ g2 ∧ AB w gs 26 U ∧ gs ≠ g2) → (?Pa : World → Nat → Nat → Prop) w gs g2)) => ?maina) (Lib.hid ?resta)
  case maina =>
    refine wpAnyH_ready (rs := [4, 10]) (by kernel_rfl) (by simp) (AllReadyH.cons rfl (fun K hK => ?qa1a) (AllReadyH.cons rfl (fun K hK => ?qa1b) AllReadyH.nil))
    case qa1a =>
      go_simp
      go_at_call 74
      refine ((Hla.out V (HKV.out.below b0 (Nat.le_refl _)))).mono ?_
      rintro x va1 ⟨rfl, Ba3⟩
      have ba2 := b0.trans (Ba3.mono b0.size)
      refine hK.out _ _ (And.intro (rng_bel HRA.out ba2 lgV) ((Below.cell ba2 (p := ⟨g, 36, none⟩) lgV).trans HCV.out)) (fun hHeld => ?_)
      clear hK K
      try simp only [Act.put, List.getElem_toArray, List.getElem_cons_succ, List.getElem_cons_zero, List.setIfInBounds_toArray, List.set_cons_zero, List.set_cons_succ]
      refine wpAnyH_ready (rs := [9, 10]) (by kernel_rfl) (by simp) (AllReadyH.cons rfl (fun K hK => ?qa2a) (AllReadyH.cons rfl (fun K hK => ?qa2b) AllReadyH.nil))
      case qa2a =>
        go_simp
        go_at_call 61
        refine ((Hsu.out va1 (RS.below HXV.out ba2 (Nat.le_refl _)) (HKV.out.below ba2 (Nat.le_refl _)))).mono ?_
        rintro x va4 ⟨gs, rfl, hS, hgs, Ba6⟩
        have ba5 := ba2.trans (Ba6.mono ba2.size)
        have ha7 : AB va4 gs 26 U := hS
        refine hK.out _ _ (And.intro (rng_bel HRA.out ba5 lgV) ((Below.cell ba5 (p := ⟨g, 36, none⟩) lgV).trans HCV.out)) (fun hHeld => ?_)
        clear hK K
        try simp only [Act.put, List.getElem_toArray, List.getElem_cons_succ, List.getElem_cons_zero, List.setIfInBounds_toArray, List.set_cons_zero, List.set_cons_succ]
        refine wpAnyH_ready (rs := [10]) (by kernel_rfl) (by simp) (AllReadyH.cons rfl (fun K hK => ?_) AllReadyH.nil)
        go_simp
        have ba9 := ba5.alloc ba5.size (.cells #[.int .u8 0, .int .u8 0, .int .u8 0, .int .u8 0, .int .u8 0, .int .u8 0, .int .u8 0, .int .u8 0, .int .u8 0, .int .u8 0, .int .u8 0, .int .u8 0, .int .u8 0, .int .u8 0, .int .u8 0, .int .u8 0, .int .u8 0, .int .u8 0, .int .u8 0, .int .u8 0, .int .u8 0, .int .u8 0, .int .u8 0, .int .u8 0, .int .u8 0, .int .u8 0, .int .u8 0, .int .u8 0, .int .u8 0, .int .u8 0, .int .u8 0, .int .u8 0] 26)
        have ha10 : AB (va4.alloc (.cells #[.int .u8 0, .int .u8 0, .int .u8 0, .int .u8 0, .int .u8 0, .int .u8 0, .int .u8 0, .int .u8 0, .int .u8 0, .int .u8 0, .int .u8 0, .int .u8 0, .int .u8 0, .int .u8 0, .int .u8 0, .int .u8 0, .int .u8 0, .int .u8 0, .int .u8 0, .int .u8 0, .int .u8 0, .int .u8 0, .int .u8 0, .int .u8 0, .int .u8 0, .int .u8 0, .int .u8 0, .int .u8 0, .int .u8 0, .int .u8 0, .int .u8 0, .int .u8 0] 26)) va4.heap.size 26 (List.replicate 32 0) := AB_zeros va4 rfl
        have ha11 := ha7.al (.cells #[.int .u8 0, .int .u8 0, .int .u8 0, .int .u8 0, .int .u8 0, .int .u8 0, .int .u8 0, .int .u8 0, .int .u8 0, .int .u8 0, .int .u8 0, .int .u8 0, .int .u8 0, .int .u8 0, .int .u8 0, .int .u8 0, .int .u8 0, .int .u8 0, .int .u8 0, .int .u8 0, .int .u8 0, .int .u8 0, .int .u8 0, .int .u8 0, .int .u8 0, .int .u8 0, .int .u8 0, .int .u8 0, .int .u8 0, .int .u8 0, .int .u8 0, .int .u8 0] 26)
        refine hK.out _ _ (And.intro (rng_bel HRA.out ba9 lgV) ((Below.cell ba9 (p := ⟨g, 36, none⟩) lgV).trans HCV.out)) (fun hHeld => ?_)
        clear hK K
        try simp only [Act.put, List.getElem_toArray, List.getElem_cons_succ, List.getElem_cons_zero, List.setIfInBounds_toArray, List.set_cons_zero, List.set_cons_succ]
        generalize (World.alloc _ _) = va8 at *
        obtain ⟨g2, hgg2, ha12, ha13⟩ : ∃ g, va4.heap.size = g ∧ V.heap.size ≤ g ∧ gs ≠ g := ⟨_, rfl, ba5.size, Nat.ne_of_lt ha7.lt⟩
        rw [hgg2] at ha10 ⊢
        exact hka.out va8 gs g2 ⟨ba9, ha10, ha12, ha11, ha13⟩
      case qa2b =>
        go_simp
        have ba15 := ba2.alloc ba2.size (.cells #[.int .u8 0, .int .u8 0, .int .u8 0, .int .u8 0, .int .u8 0, .int .u8 0, .int .u8 0, .int .u8 0, .int .u8 0, .int .u8 0, .int .u8 0, .int .u8 0, .int .u8 0, .int .u8 0, .int .u8 0, .int .u8 0, .int .u8 0, .int .u8 0, .int .u8 0, .int .u8 0, .int .u8 0, .int .u8 0, .int .u8 0, .int .u8 0, .int .u8 0, .int .u8 0, .int .u8 0, .int .u8 0, .int .u8 0, .int .u8 0, .int .u8 0, .int .u8 0] 26)
        have ha16 : AB (va1.alloc (.cells #[.int .u8 0, .int .u8 0, .int .u8 0, .int .u8 0, .int .u8 0, .int .u8 0, .int .u8 0, .int .u8 0, .int .u8 0, .int .u8 0, .int .u8 0, .int .u8 0, .int .u8 0, .int .u8 0, .int .u8 0, .int .u8 0, .int .u8 0, .int .u8 0, .int .u8 0, .int .u8 0, .int .u8 0, .int .u8 0, .int .u8 0, .int .u8 0, .int .u8 0, .int .u8 0, .int .u8 0, .int .u8 0, .int .u8 0, .int .u8 0, .int .u8 0, .int .u8 0] 26)) va1.heap.size 26 (List.replicate 32 0) := AB_zeros va1 rfl
        refine hK.out _ _ (And.intro (rng_bel HRA.out ba15 lgV) ((Below.cell ba15 (p := ⟨g, 36, none⟩) lgV).trans HCV.out)) (fun hHeld => ?_)
        clear hK K
        try simp only [Act.put, List.getElem_toArray, List.getElem_cons_succ, List.getElem_cons_zero, List.setIfInBounds_toArray, List.set_cons_zero, List.set_cons_succ]
        generalize (World.alloc _ _) = va14 at *
        obtain ⟨g2, hgg2, ha17⟩ : ∃ g, va1.heap.size = g ∧ V.heap.size ≤ g := ⟨_, rfl, ba2.size⟩
        rw [hgg2] at ha16 ⊢
        refine wpAnyH_ready (rs := [9]) (by kernel_rfl) (by simp) (AllReadyH.cons rfl (fun K hK => ?_) AllReadyH.nil)
        go_simp
        go_at_call 61
        refine ((Hsu.out va14 (RS.below HXV.out ba15 (Nat.le_refl _)) (HKV.out.below ba15 (Nat.le_refl _)))).mono ?_
        rintro x va18 ⟨gs, rfl, hS, hgs, Ba20⟩
        have ba19 := ba15.trans (Ba20.mono ba15.size)
        have ha21 := ha16.bl Ba20 ha16.lt
        have ha22 := ha17
        have ha23 : AB va18 gs 26 U := hS
        have ha24 : gs ≠ g2 := by have := ha16.lt; omega
        refine hK.out _ _ (And.intro (rng_bel HRA.out ba19 lgV) ((Below.cell ba19 (p := ⟨g, 36, none⟩) lgV).trans HCV.out)) (fun hHeld => ?_)
        clear hK K
        try simp only [Act.put, List.getElem_toArray, List.getElem_cons_succ, List.getElem_cons_zero, List.setIfInBounds_toArray, List.set_cons_zero, List.set_cons_succ]
        exact hka.out va18 gs g2 ⟨ba19, ha21, ha22, ha23, ha24⟩
    case qa1b =>
      go_simp
      have ba26 := b0.alloc b0.size (.cells #[.int .u8 0, .int .u8 0, .int .u8 0, .int .u8 0, .int .u8 0, .int .u8 0, .int .u8 0, .int .u8 0, .int .u8 0, .int .u8 0, .int .u8 0, .int .u8 0, .int .u8 0, .int .u8 0, .int .u8 0, .int .u8 0, .int .u8 0, .int .u8 0, .int .u8 0, .int .u8 0, .int .u8 0, .int .u8 0, .int .u8 0, .int .u8 0, .int .u8 0, .int .u8 0, .int .u8 0, .int .u8 0, .int .u8 0, .int .u8 0, .int .u8 0, .int .u8 0] 26)
      have ha27 : AB (V.alloc (.cells #[.int .u8 0, .int .u8 0, .int .u8 0, .int .u8 0, .int .u8 0, .int .u8 0, .int .u8 0, .int .u8 0, .int .u8 0, .int .u8 0, .int .u8 0, .int .u8 0, .int .u8 0, .int .u8 0, .int .u8 0, .int .u8 0, .int .u8 0, .int .u8 0, .int .u8 0, .int .u8 0, .int .u8 0, .int .u8 0, .int .u8 0, .int .u8 0, .int .u8 0, .int .u8 0, .int .u8 0, .int .u8 0, .int .u8 0, .int .u8 0, .int .u8 0, .int .u8 0] 26)) V.heap.size 26 (List.replicate 32 0) := AB_zeros V rfl
      refine hK.out _ _ (And.intro (rng_bel HRA.out ba26 lgV) ((Below.cell ba26 (p := ⟨g, 36, none⟩) lgV).trans HCV.out)) (fun hHeld => ?_)
      clear hK K
      try simp only [Act.put, List.getElem_toArray, List.getElem_cons_succ, List.getElem_cons_zero, List.setIfInBounds_toArray, List.set_cons_zero, List.set_cons_succ]
      generalize (World.alloc _ _) = va25 at *
      obtain ⟨g2, hgg2, ha28⟩ : ∃ g, V.heap.size = g ∧ V.heap.size ≤ g := ⟨_, rfl, b0.size⟩
      rw [hgg2] at ha27 ⊢
      refine wpAnyH_ready (rs := [4]) (by kernel_rfl) (by simp) (AllReadyH.cons rfl (fun K hK => ?_) AllReadyH.nil)
      go_simp
      go_at_call 74
      refine ((Hla.out va25 (HKV.out.below ba26 (Nat.le_refl _)))).mono ?_
      rintro x va29 ⟨rfl, Ba31⟩
      have ba30 := ba26.trans (Ba31.mono ba26.size)
      have ha32 := ha27.bl Ba31 ha27.lt
      have ha33 := ha28
      refine hK.out _ _ (And.intro (rng_bel HRA.out ba30 lgV) ((Below.cell ba30 (p := ⟨g, 36, none⟩) lgV).trans HCV.out)) (fun hHeld => ?_)
      clear hK K
      try simp only [Act.put, List.getElem_toArray, List.getElem_cons_succ, List.getElem_cons_zero, List.setIfInBounds_toArray, List.set_cons_zero, List.set_cons_succ]
      refine wpAnyH_ready (rs := [9]) (by kernel_rfl) (by simp) (AllReadyH.cons rfl (fun K hK => ?_) AllReadyH.nil)
      go_simp
      go_at_call 61
      refine ((Hsu.out va29 (RS.below HXV.out ba30 (Nat.le_refl _)) (HKV.out.below ba30 (Nat.le_refl _)))).mono ?_
      rintro x va34 ⟨gs, rfl, hS, hgs, Ba36⟩
      have ba35 := ba30.trans (Ba36.mono ba30.size)
      have ha37 := ha32.bl Ba36 ha32.lt
      have ha38 := ha33
      have ha39 : AB va34 gs 26 U := hS
      have ha40 : gs ≠ g2 := by have := ha32.lt; omega
      refine hK.out _ _ (And.intro (rng_bel HRA.out ba35 lgV) ((Below.cell ba35 (p := ⟨g, 36, none⟩) lgV).trans HCV.out)) (fun hHeld => ?_)
      clear hK K
      try simp only [Act.put, List.getElem_toArray, List.getElem_cons_succ, List.getElem_cons_zero, List.setIfInBounds_toArray, List.set_cons_zero, List.set_cons_succ]
      exact hka.out va34 gs g2 ⟨ba35, ha37, ha38, ha39, ha40⟩
  case resta =>
    rintro va gs g2 ⟨ba, ha_Z, ha_L, ha_S, ha_N⟩
    have hHeld := And.intro (rng_bel HRA.out ba lgV) ((Below.cell ba (p := ⟨g, 36, none⟩) lgV).trans HCV.out)
    refine wpAnyH_ready (rs := [11]) (by kernel_rfl) (by simp) (AllReadyH.cons rfl (fun K hK => ?_) AllReadyH.nil)
    refine S_storeAB rfl _ _ _ rfl rfl rfl ha_Z i32 (by simp) hMl ?_
    intro va41 hM2 gr2
    have ba42 := ba.grown gr2 ba.size (fun k hk => by cases hk; exact ha_L)
    refine hK.out _ _ (And.intro (rng_bel HRA.out ba42 lgV) ((Below.cell ba42 (p := ⟨g, 36, none⟩) lgV).trans HCV.out)) (fun hHeld => ?_)
    clear hK K
    try simp only [Act.put, List.getElem_toArray, List.getElem_cons_succ, List.getElem_cons_zero]
    refine wpAnyH_take (i := 12) (v := .slice (some ⟨gs, 0, none⟩) 32 32) rfl (by kernel_rfl) (by kernel_rfl) (by kernel_rfl) (fun _ _ _ h => h) (Or.inl ⟨by rfl, fun w h => by go_simp⟩) hHeld ?_
    try simp only [Act.put, List.getElem_toArray, List.getElem_cons_succ, List.getElem_cons_zero, List.setIfInBounds_toArray, List.set_cons_zero, List.set_cons_succ]
    refine wpAnyH_done (by kernel_rfl) ?_ _
    try simp only [Act.put, List.getElem_toArray, List.getElem_cons_succ, List.getElem_cons_zero]
    have hSf := ha_S.grown gr2 (by simpa using ha_N)
    have hmf := HMV.out.kept ba42.size (fun k hk _ => ba42.block k hk)
    have hkf := HPV.out.trans (Below.kpt ba42 HMV.out.gp.top)
    have hKf := HKV.out.below ba42 (Nat.le_refl _)
    obtain ⟨U2, hU2⟩ : ∃ U2, va41.drew = U2 := ⟨_, rfl⟩
    have HMU := Lib.hid (show GM U2 role g S A by rw [← hU2]; exact hmf.drew)
    have HPU := Lib.hid (show Kpt w U2 role role by rw [← hU2]; exact hkf.drew)
    have HKU := Lib.hid (show KT U2 by rw [← hU2]; exact hKf)
    have HSU := Lib.hid (show AB U2 gs 26 U by rw [← hU2]; exact hSf)
    have HAU := Lib.hid (show AB U2 g2 26 M by rw [← hU2]; exact hM2)
    have lS := HSU.out.lt
    have l2 := HAU.out.lt
    have hg2 : g2 ≠ g := by have := ha_L; omega
    have c0 : Below U2.heap.size U2 U2 := Below.refl _ _
    clear hSf hmf hkf hKf hM2 gr2 ha_S ha_Z hHeld
    go_upto_region 1 with (fail)
    refine wp_region_held_drew (S := fun w' => w'.rangeAt g2 0 (M.map B)) (by kernel_rfl) (by rw [hU2]; exact HAU.out.rng) (fun hHeld => ?_)
    rw [hU2] at hHeld ⊢
    refine wpAnyH_take (i := 0) (v := .pointer (some ⟨g, 0, none⟩)) rfl (by kernel_rfl) (by kernel_rfl) (by kernel_rfl) (fun _ _ _ h => h) (Or.inl ⟨by rfl, fun w h => by go_simp⟩) hHeld ?_
    try simp only [Act.put, List.getElem_toArray, List.getElem_cons_zero, List.setIfInBounds_toArray, List.set_cons_zero, List.set_cons_succ]
    refine wpAnyH_take (i := 1) rfl (by kernel_rfl) (by kernel_rfl) (by kernel_rfl) (fun _ _ _ h => h) (yieldsIf_load_mid (by rfl) _ _ rfl _ _ rfl _ _ (fun w h => h) hu32 rfl hiM) hHeld ?_
    try simp only [Act.put, List.getElem_toArray, List.getElem_cons_succ, List.getElem_cons_zero, List.setIfInBounds_toArray, List.set_cons_zero, List.set_cons_succ]
    refine wpAnyH_take (i := 2) (v := .slice (some ⟨gs, 0, none⟩) 32 32) rfl (by kernel_rfl) (by kernel_rfl) (by kernel_rfl) (fun _ _ _ h => h) (Or.inl ⟨by rfl, fun w h => by go_simp⟩) hHeld ?_
    try simp only [Act.put, List.getElem_toArray, List.getElem_cons_succ, List.getElem_cons_zero, List.setIfInBounds_toArray, List.set_cons_zero, List.set_cons_succ]
    refine wpAnyH_take (i := 4) rfl (by kernel_rfl) (by kernel_rfl) (by kernel_rfl) (fun _ _ _ h => h) (yieldsIf_load_mid (by rfl) _ _ rfl _ _ rfl _ _ (fun w h => h) hu32 rfl hiM) hHeld ?_
    try simp only [Act.put, List.getElem_toArray, List.getElem_cons_succ, List.getElem_cons_zero, List.setIfInBounds_toArray, List.set_cons_zero, List.set_cons_succ]
    refine wpAnyH_take (i := 5) (v := .slice (some ⟨gs, 0, none⟩) 32 32) rfl (by kernel_rfl) (by kernel_rfl) (by kernel_rfl) (fun _ _ _ h => h) (Or.inl ⟨by rfl, fun w h => by go_simp⟩) hHeld ?_
    try simp only [Act.put, List.getElem_toArray, List.getElem_cons_succ, List.getElem_cons_zero, List.setIfInBounds_toArray, List.set_cons_zero, List.set_cons_succ]
    refine wpAnyH_take (i := 8) (v := .pointer (some ⟨g, 0, none⟩)) rfl (by kernel_rfl) (by kernel_rfl) (by kernel_rfl) (fun _ _ _ h => h) (Or.inl ⟨by rfl, fun w h => by go_simp⟩) hHeld ?_
    try simp only [Act.put, List.getElem_toArray, List.getElem_cons_succ, List.getElem_cons_zero, List.setIfInBounds_toArray, List.set_cons_zero, List.set_cons_succ]
    refine wpAnyH_take (i := 9) (v := .pointer (some ⟨g, 74, none⟩)) rfl (by kernel_rfl) (by kernel_rfl) (by kernel_rfl) (fun _ _ _ h => h) (Or.inl ⟨by rfl, fun w h => by go_simp⟩) hHeld ?_
    try simp only [Act.put, List.getElem_toArray, List.getElem_cons_succ, List.getElem_cons_zero, List.setIfInBounds_toArray, List.set_cons_zero, List.set_cons_succ]
    refine wpAnyH_ready (rs := [3]) (by kernel_rfl) (by simp) (AllReadyH.cons rfl (fun K hK => ?_) AllReadyH.nil)
    go_simp
    go_at_call 59
    refine ((Hl1.out U2 gs ((HSU.out.bl c0 lS).bs32 hUl) (HKU.out.below c0 (Nat.le_refl _)))).mono ?_
    rintro x vc1 ⟨rfl, Bc3⟩
    have bc2 := c0.trans (Bc3.mono c0.size)
    refine hK.out _ _ ((HAU.out.bl bc2 l2).rng) (fun hHeld => ?_)
    clear hK K
    try simp only [Act.put, List.getElem_toArray, List.getElem_cons_succ, List.getElem_cons_zero, List.setIfInBounds_toArray, List.set_cons_zero, List.set_cons_succ]
    refine wpAnyH_ready (rs := [6]) (by kernel_rfl) (by simp) (AllReadyH.cons rfl (fun K hK => ?_) AllReadyH.nil)
    go_simp
    go_at_call 59
    refine ((Hl2.out vc1 gs ((HSU.out.bl bc2 lS).bs32 hUl) (HKU.out.below bc2 (Nat.le_refl _)))).mono ?_
    rintro x vc4 ⟨rfl, Bc6⟩
    have bc5 := bc2.trans (Bc6.mono bc2.size)
    refine hK.out _ _ ((HAU.out.bl bc5 l2).rng) (fun hHeld => ?_)
    clear hK K
    try simp only [Act.put, List.getElem_toArray, List.getElem_cons_succ, List.getElem_cons_zero, List.setIfInBounds_toArray, List.set_cons_zero, List.set_cons_succ]
    refine wpAnyH_ready (rs := [7]) (by kernel_rfl) (by simp) (AllReadyH.cons rfl (fun K hK => ?_) AllReadyH.nil)
    refine S_build rfl _ _ rfl (by simpa [Act.eval] using builtP hCl hDl true) ?_
    obtain ⟨vc7, hwvc7⟩ : ∃ x, x = vc4 := ⟨_, rfl⟩
    have bc8 := bc5
    rw [← hwvc7] at bc8 ⊢
    refine hK.out _ _ ((HAU.out.bl bc8 l2).rng) (fun hHeld => ?_)
    clear hK K
    try simp only [Act.put, List.getElem_toArray, List.getElem_cons_succ, List.getElem_cons_zero, List.setIfInBounds_toArray, List.set_cons_zero, List.set_cons_succ]
    refine wpAnyH_take (i := 10) (v := .pointer (some ⟨g, 204, none⟩)) rfl (by kernel_rfl) (by kernel_rfl) (by kernel_rfl) (fun _ _ _ h => h) (Or.inl ⟨by rfl, fun w h => by go_simp⟩) hHeld ?_
    try simp only [Act.put, List.getElem_toArray, List.getElem_cons_succ, List.getElem_cons_zero, List.setIfInBounds_toArray, List.set_cons_zero, List.set_cons_succ]
    refine wpAnyH_ready (rs := [11]) (by kernel_rfl) (by simp) (AllReadyH.cons rfl (fun K hK => ?_) AllReadyH.nil)
    have hmf := HMU.out.kept bc8.size (fun k hk _ => bc8.block k hk)
    refine S_storeM rfl _ _ _ rfl rfl rfl (hmf.row.there hOk 204 65 (by omega)) p65 (pc_len hCl hDl) (pc_one _) ?_
    have hrf := hmf.row.s_k2 hOk ⟨C, D, true⟩ hCl hDl
    have hgf := GP.run (pc ⟨C, D, true⟩) 204 vc7 hmf.gp
    have hkf := (HPU.out.trans (Below.kpt bc8 HMU.out.gp.top)).trans (kpt_run 204 (pc ⟨C, D, true⟩) hmf.gp.rg hmf.gp.top)
    refine hK.out _ _ (World.rangeAt_setCells_apart ((HAU.out.bl bc8 l2).rng) _ _ _ (.inl hg2)) (fun hHeld => ?_)
    clear hK K
    try simp only [Act.put, List.getElem_toArray, List.getElem_cons_succ, List.getElem_cons_zero]
    refine wpAnyH_done (by kernel_rfl) ?_ _
    try simp only [Act.put, List.getElem_toArray, List.getElem_cons_succ, List.getElem_cons_zero]
    have hgf' : GP _ role g { S with k2 := ⟨C, D, true⟩ } A := ⟨hgf.rg, hgf.gl, hgf.top, hgf.id, hgf.idr, hgf.sec, hgf.secr, hgf.par, hgf.parr, hgf.pe, hgf.per, hgf.nx, hgf.nxr, hgf.said, hgf.o0, hgf.o1, hgf.i0, hgf.i1⟩
    have HF := Lib.hid (show GM _ role g { S with k2 := ⟨C, D, true⟩ } A from ⟨hrf, ⟨hOk.rnd, hOk.hand, hOk.k0c, hOk.k0s, hOk.k1c, hOk.k1s, hCl, hDl⟩, hgf'⟩)
    have HKF := Lib.hid hkf
    clear hgf hgf' hrf hkf hmf hHeld
    go_wp2
    go_end0
    exact ⟨rfl, HF.out, HKF.out⟩
end Go.Proofs.YtkhcpnmbhbhcgaaDoor

/- (*greet.Machine).takeFinished. -/
set_option maxRecDepth 100000
set_option linter.unusedVariables false
namespace Go.Proofs.YtkhcpnmbhbhcgaaDoor
open Go.RowKit Go.Joins
theorem rsameb_any (w : World) {a b : Option Addr} {n c m d : Nat} {xs ys : List UInt8} (hx : BS w a n c xs) (hy : BS w b m d ys) :
    Calls Tryd.prog 72 #[.slice a n c, .slice b m d] w fun e w' => e = .returned (.bool (xs == ys)) ∧ Below w.heap.size w w' :=
  (rsame_any w hx hy).mono fun e w' h => ⟨h.1, by rw [← h.2]; exact Below.refl _ _⟩
/-- the other one's last word -/
noncomputable def finS (S : MS) (whole p : List UInt8) : MS × Nat :=
  if p.length ≠ 32 then (S, 306) else if p ≠ fmF (if S.server then S.k1.c else S.k1.s) S.said then (S, 307) else
  ({ (if S.server then { S with said := S.said ++ whole } else sayS 1 20 (fmF (partS { S with said := S.said ++ whole }).k1.c (partS { S with said := S.said ++ whole }).said) (partS { S with said := S.said ++ whole })) with done := true }, 0)

set_option maxHeartbeats 4000000 in
theorem gfin_true (w : World) {role : Nat → Nat} {g : Nat} {S : MS} {A : MA} (hM : GM w role g S A) (hsv : S.server = true) {a1 a2 : Option Addr} {n1 c1 n2 c2 : Nat} {whole p : List UInt8} (hw : BS w a1 n1 c1 whole) (hp : BS w a2 n2 c2 p) (hn : n1 ≤ 1000000) (hs : S.said.length ≤ 274877906944) (ho : S.o1.length ≤ 274877906944) (hK : KT w) (hR : role 3 = 0) :
    Calls Tryd.prog 64 #[.pointer (some ⟨g, 0, none⟩), .slice a1 n1 c1, .slice a2 n2 c2] w fun e w' => e = .returned (.int .u64 ((finS S whole p).2 : Int)) ∧ ∃ role' A', GM w' role' g (finS S whole p).1 A' ∧ Kpt w w' role role' := by
  have hOk := hM.ok
  have hpl := BS.len hp
  have hwl := BS.len hw
  obtain ⟨K, hKe⟩ : ∃ K, S.k1.c = K := ⟨_, rfl⟩
  have hKl : K.length = 32 := by rw [← hKe]; exact hOk.k1c
  obtain ⟨M, hMe⟩ : ∃ M, fmF K S.said = M := ⟨_, rfl⟩
  have hMl : M.length = 32 := by rw [← hMe]; exact fmF_len _ _
  have hsn : A.said.n ≤ 274877906944 := by have := hM.gp.said.len; omega
  have Hmac := Lib.hid (fun (w' : World) (h : BS w' A.said.a A.said.n A.said.c S.said) (hk : KT w') => gmac_any w' hKl h (by omega) hk)
  rw [hMe] at Hmac
  have hfs : finS S whole p = if p.length ≠ 32 then (S, 306) else if p ≠ M then (S, 307) else ({ ({ S with said := S.said ++ whole } : MS) with done := true }, 0) := by
    unfold finS; rw [hsv]; simp only [hKe, hMe, if_true]
  have HKe := Lib.hid hKe
  have HM := Lib.hid hM
  have HKT := Lib.hid hK
  have HW := Lib.hid hw
  have HP := Lib.hid hp
  have q0 : w.cell? ⟨g, 0, none⟩ = some (.bool true) := by rw [← hsv]; exact (hM.row.cells hOk).g0
  have hr1 : w.rangeAt g 171 (S.k1.s.map B) := hM.row.r_k1s hOk
  have his := Lib.hid (len32 hOk.k1s)
  have hic := Lib.hid (len32 hOk.k1c)
  have hz := AB_zeros w rfl
  have HR := Lib.hid hr1
  have hu32 := Tryd.underlying26
  have hsl := hOk.k1s
  clear hM hK hw hp hMe hKe
  go_enter Tryd.func64, Tryd.ntmps64
  go_upto_region 2 with (first
    | (refine wpList_load_mid rfl _ _ rfl _ _ rfl (S.k1.s.map B) _ HR.out Tryd.underlying26 rfl his.out ?_)
    | (refine L_store32 rfl _ _ rfl rfl rfl hz (by simp) hsl ?_; intro w2 hK2 hg2))
  have b2 := (below_alloc w _).grown hg2 (by simp) (fun k hk => by cases hk; exact Nat.le_refl _)
  have hm2 := HM.out.below b2

  have p0 : w2.cell? ⟨g, 0, none⟩ = some (.bool true) := by rw [← hsv]; exact (hm2.row.cells hOk).g0
  have HRc := Lib.hid (show w2.rangeAt g 139 (S.k1.c.map B) from hm2.row.r_k1c hOk)
  have hcl := hOk.k1c
  have HM2 := Lib.hid hm2
  have HB2 := Lib.hid b2
  obtain ⟨g7, hg7⟩ : ∃ x, w.heap.size = x := ⟨_, rfl⟩
  rw [hg7] at hK2 ⊢
  have HZ2 := Lib.hid hK2
  have l7 : w.heap.size ≤ g7 := by omega
  clear hm2 b2 hg2 hK2 hz HR hr1 q0 hg7
  go_upto_region 4 with (first
    | (refine wpList_load_mid rfl _ _ rfl _ _ rfl (S.k1.c.map B) _ HRc.out Tryd.underlying26 rfl hic.out ?_)
    | (refine L_store32 rfl _ _ rfl rfl rfl HZ2.out hsl hcl ?_; intro w4 hK4 hg4))
  have b4 : Below w.heap.size w w4 := HB2.out.grown hg4 HB2.out.size (fun k hk => by cases hk; exact l7)
  rw [HKe.out] at hK4
  clear HZ2 HRc HM2 HB2 p0 hg4

  have HB4 := Lib.hid b4
  have HK4 := Lib.hid hK4
  clear b4 hK4
  by_cases h32 : n2 = 32
  · subst h32
    rw [if_neg (by omega)] at hfs
    go_upto_region 6 with (fail)
    obtain ⟨V, hV⟩ : ∃ V, w4.drew = V := ⟨_, rfl⟩
    have hm4 := HM.out.below HB4.out
    have hk4 := Below.kpt HB4.out HM.out.gp.top
    have hkt4 := HKT.out.below HB4.out (Nat.le_refl _)
    have hp4 := RS.below HP.out HB4.out (Nat.le_refl _)
    have hw4 := RS.below HW.out HB4.out (Nat.le_refl _)
    have hk4' := HK4.out
    have HMV := Lib.hid (show GM V role g S A by rw [← hV]; exact hm4.drew)
    have HPV := Lib.hid (show Kpt w V role role by rw [← hV]; exact hk4.drew)
    have HKV := Lib.hid (show KT V by rw [← hV]; exact hkt4)
    have HpV := Lib.hid (show BS V a2 32 c2 p by rw [← hV]; exact hp4)
    have HwV := Lib.hid (show BS V a1 n1 c1 whole by rw [← hV]; exact hw4)
    have HAV := Lib.hid (show AB V g7 26 K by rw [← hV]; exact hk4')
    have HCV := Lib.hid (show V.cell? ⟨g, 36, none⟩ = some (.slice A.said.a A.said.n A.said.c) from (HMV.out.row.cells hOk).g36)
    have lgV : g < V.heap.size := HMV.out.gp.gl
    have l7V := HAV.out.lt
    have b0 : Below V.heap.size V V := Below.refl _ _
    have hiK := len32 hKl
    clear hm4 hk4 hkt4 hp4 hw4 hk4' HB4 HK4
    refine wp_region_held_drew (S := fun w' => w'.rangeAt g7 0 (K.map B) ∧ w'.cell? ⟨g, 36, none⟩ = some (.slice A.said.a A.said.n A.said.c)) (by kernel_rfl) (by rw [hV]; exact ⟨HAV.out.rng, HCV.out⟩) (fun hHeld => ?_)
    rw [hV] at hHeld ⊢
    refine wpAnyH_take (i := 0) (v := .slice a2 32 c2) rfl (by kernel_rfl) (by kernel_rfl) (by kernel_rfl) (fun _ _ _ h => h) (Or.inl ⟨by rfl, fun w h => by go_simp⟩) hHeld ?_
    try simp only [Act.put, List.getElem_toArray, List.getElem_cons_zero, List.setIfInBounds_toArray, List.set_cons_zero, List.set_cons_succ]
    refine wpAnyH_take (i := 1) rfl (by kernel_rfl) (by kernel_rfl) (by kernel_rfl) (fun _ _ _ h => h) (yieldsIf_load_mid (by rfl) _ _ rfl _ _ rfl _ _ (fun w h => h.1) hu32 rfl hiK) hHeld ?_
    try simp only [Act.put, List.getElem_toArray, List.getElem_cons_succ, List.getElem_cons_zero, List.setIfInBounds_toArray, List.set_cons_zero, List.set_cons_succ]
    refine wpAnyH_take (i := 2) (v := .pointer (some ⟨g, 0, none⟩)) rfl (by kernel_rfl) (by kernel_rfl) (by kernel_rfl) (fun _ _ _ h => h) (Or.inl ⟨by rfl, fun w h => by go_simp⟩) hHeld ?_
    try simp only [Act.put, List.getElem_toArray, List.getElem_cons_succ, List.getElem_cons_zero, List.setIfInBounds_toArray, List.set_cons_zero, List.set_cons_succ]
    refine wpAnyH_take (i := 3) (v := .pointer (some ⟨g, 0, none⟩)) rfl (by kernel_rfl) (by kernel_rfl) (by kernel_rfl) (fun _ _ _ h => h) (Or.inl ⟨by rfl, fun w h => by go_simp⟩) hHeld ?_
    try simp only [Act.put, List.getElem_toArray, List.getElem_cons_succ, List.getElem_cons_zero, List.setIfInBounds_toArray, List.set_cons_zero, List.set_cons_succ]
    refine wpAnyH_take (i := 4) (v := .pointer (some ⟨g, 36, none⟩)) rfl (by kernel_rfl) (by kernel_rfl) (by kernel_rfl) (fun _ _ _ h => h) (Or.inl ⟨by rfl, fun w h => by go_simp⟩) hHeld ?_
    try simp only [Act.put, List.getElem_toArray, List.getElem_cons_succ, List.getElem_cons_zero, List.setIfInBounds_toArray, List.set_cons_zero, List.set_cons_succ]
    refine wpAnyH_take (i := 5) (v := .slice A.said.a A.said.n A.said.c) rfl (by kernel_rfl) (by kernel_rfl) (by kernel_rfl) (fun _ _ _ h => h) (Or.inl ⟨by rfl, fun w h => by have h2 : w.cell? ⟨g, 36, none⟩ = some (.slice A.said.a A.said.n A.said.c) := h.2; go_simp⟩) hHeld ?_
    try simp only [Act.put, List.getElem_toArray, List.getElem_cons_succ, List.getElem_cons_zero, List.setIfInBounds_toArray, List.set_cons_zero, List.set_cons_succ]
    refine wpAnyH_ready (rs := [6]) (by kernel_rfl) (by simp) (AllReadyH.cons rfl (fun K hK => ?_) AllReadyH.nil)
    go_simp
    go_at_call 58
    refine ((Hmac.out V (RS.below HMV.out.gp.said.rs b0 (Nat.le_refl _)) (HKV.out.below b0 (Nat.le_refl _)))).mono ?_
    rintro x va1 ⟨gm, rfl, hMm, hgm, Ba3⟩
    have ba2 := b0.trans (Ba3.mono b0.size)
    have ha4 : AB va1 gm 26 M := hMm
    refine hK.out _ _ (And.intro (HAV.out.bl ba2 l7V).rng ((Below.cell ba2 (p := ⟨g, 36, none⟩) lgV).trans HCV.out)) (fun hHeld => ?_)
    clear hK K
    try simp only [Act.put, List.getElem_toArray, List.getElem_cons_succ, List.getElem_cons_zero, List.setIfInBounds_toArray, List.set_cons_zero, List.set_cons_succ]
    refine wpAnyH_ready (rs := [7]) (by kernel_rfl) (by simp) (AllReadyH.cons rfl (fun K hK => ?_) AllReadyH.nil)
    go_simp
    go_at_call 72
    refine ((rsameb_any va1 (RS.below HpV.out ba2 (Nat.le_refl _)) (ha4.bs32 hMl))).mono ?_
    rintro x va5 ⟨rfl, Ba7⟩
    have ba6 := ba2.trans (Ba7.mono ba2.size)
    have ha8 := ha4.bl Ba7 ha4.lt
    refine hK.out _ _ (And.intro (HAV.out.bl ba6 l7V).rng ((Below.cell ba6 (p := ⟨g, 36, none⟩) lgV).trans HCV.out)) (fun hHeld => ?_)
    clear hK K
    try simp only [Act.put, List.getElem_toArray, List.getElem_cons_succ, List.getElem_cons_zero, List.setIfInBounds_toArray, List.set_cons_zero, List.set_cons_succ]
    refine wpAnyH_take (i := 8) (v := .bool (!(p == M))) rfl (by kernel_rfl) (by kernel_rfl) (by kernel_rfl) (fun _ _ _ h => h) (Or.inl ⟨by rfl, fun w h => by go_simp⟩) hHeld ?_
    try simp only [Act.put, List.getElem_toArray, List.getElem_cons_succ, List.getElem_cons_zero, List.setIfInBounds_toArray, List.set_cons_zero, List.set_cons_succ]
    refine wpAnyH_take (i := 9) (v := .bool (!(p == M))) rfl (by kernel_rfl) (by kernel_rfl) (by kernel_rfl) (fun _ _ _ h => h) (Or.inl ⟨by rfl, fun w h => by go_simp⟩) hHeld ?_
    try simp only [Act.put, List.getElem_toArray, List.getElem_cons_succ, List.getElem_cons_zero, List.setIfInBounds_toArray, List.set_cons_zero, List.set_cons_succ]
    refine wpAnyH_done (by kernel_rfl) ?_ _
    try simp only [Act.put, List.getElem_toArray, List.getElem_cons_succ, List.getElem_cons_zero]
    have hmx := HMV.out.kept ba6.size (fun k hk _ => ba6.block k hk)
    have hkx := HPV.out.trans (Below.kpt ba6 HMV.out.gp.top)
    have hktx := HKV.out.below ba6 (Nat.le_refl _)
    have hwx := RS.below HwV.out ba6 (Nat.le_refl _)
    have HMX := Lib.hid hmx
    have HKX := Lib.hid hkx
    have HTX := Lib.hid hktx
    have HWX := Lib.hid hwx
    clear hmx hkx hktx hwx HAV HCV HpV HwV HKV HPV HMV hHeld
    by_cases hpm : p = M
    · rw [if_neg (by simpa using hpm)] at hfs
      have hbb : (p == M) = true := by rw [hpm]; exact beq_self_eq_true M
      rw [hbb]
      clear hpm hbb
      have q36 : va5.cell? ⟨g, 36, none⟩ = some (.slice A.said.a A.said.n A.said.c) := (HMX.out.row.cells hOk).g36
      go_upto_region 9 with (at_builtin; refine L_append_X tB HMX.out.gp.said HWX.out _ _ rfl rfl rfl rfl (by omega) (by unfold maxLen; omega) HMX.out.gp.top ?_; intro a5 c5 w5 role5 ho5 hst5; have hqf := HMX.out.said_at hst5; have r36 := hqf.1; have f36 := hqf.2)
      obtain ⟨hm6, hk6⟩ := HMX.out.said_app ho5 hst5
      obtain ⟨w6, hw6⟩ : ∃ x, w5.setCell ⟨g, 36, none⟩ (.slice a5 (A.said.n + n1) c5) = x := ⟨_, rfl⟩
      rw [hw6] at hm6 hk6 ⊢
      have hkt6 := HTX.out.kpt hk6 hR
      obtain ⟨S6, hS6⟩ : ∃ x : MS, { S with said := S.said ++ whole } = x := ⟨_, rfl⟩
      rw [hS6] at hm6 hfs
      have hsa6 : S6.said.length ≤ 274878906944 := by rw [← hS6]; simp only [List.length_append]; omega
      have hsv6 : S6.server = true := by rw [← hS6]; exact hsv
      have ho6 : S6.o1.length ≤ 274877906944 := by rw [← hS6]; exact ho
      have u0 : w6.cell? ⟨g, 0, none⟩ = some (.bool true) := by rw [← hsv6]; exact (hm6.row.cells hm6.ok).g0
      have HM6 := Lib.hid hm6
      have HK6 := Lib.hid (HKX.out.trans hk6)
      have HT6 := Lib.hid hkt6
      clear hm6 hk6 hkt6 hqf r36 f36 ho5 hst5 hw6 q36 hS6 HMX HKX HTX HWX
      have HFS := Lib.hid hfs
      clear hfs
      go_upto_region 12 with (fail)
      have u271 := (HM6.out.row.cells HM6.out.ok).g271
      have v271 : w6.cell? ⟨g, 271, none⟩ = some (.bool S6.done) := u271
      have f271 := HM6.out.row.fr 271
      clear u271
      go_upto_region 13 with (fail)
      obtain ⟨hm7, hk7⟩ := HM6.out.set_done true
      have HM7 := Lib.hid hm7
      have HK7 := Lib.hid (HK6.out.trans hk7)
      clear hm7 hk7 v271 f271 u0
      go_wp2
      go_ret
      refine ⟨by rw [HFS.out]; rfl, ?_⟩
      rw [HFS.out]
      exact ⟨role5, ⟨_, HM7.out⟩, HK7.out⟩
    · rw [if_pos hpm] at hfs
      have hbb : (p == M) = false := by simpa using hpm
      rw [hbb]
      go_wp2
      go_ret
      refine ⟨by rw [hfs]; rfl, ?_⟩
      rw [hfs]
      exact ⟨role, A, HMX.out, HKX.out⟩
  · have hi32 : ¬ ((n2 : Int) = 32) := by omega
    rw [if_pos (by omega)] at hfs
    go_wp2
    go_ret
    refine ⟨by rw [hfs]; rfl, ?_⟩
    rw [hfs]
    exact ⟨role, A, HM.out.below HB4.out, Below.kpt HB4.out HM.out.gp.top⟩
set_option maxHeartbeats 4000000 in
theorem gfin_false (w : World) {role : Nat → Nat} {g : Nat} {S : MS} {A : MA} (hM : GM w role g S A) (hsv : S.server = false) {a1 a2 : Option Addr} {n1 c1 n2 c2 : Nat} {whole p : List UInt8} (hw : BS w a1 n1 c1 whole) (hp : BS w a2 n2 c2 p) (hn : n1 ≤ 1000000) (hs : S.said.length ≤ 274877906944) (ho : S.o1.length ≤ 274877906944) (hK : KT w) (hR : role 3 = 0) :
    Calls Tryd.prog 64 #[.pointer (some ⟨g, 0, none⟩), .slice a1 n1 c1, .slice a2 n2 c2] w fun e w' => e = .returned (.int .u64 ((finS S whole p).2 : Int)) ∧ ∃ role' A', GM w' role' g (finS S whole p).1 A' ∧ Kpt w w' role role' := by
  have hOk := hM.ok
  have hpl := BS.len hp
  have hwl := BS.len hw
  obtain ⟨K, hKe⟩ : ∃ K, S.k1.s = K := ⟨_, rfl⟩
  have hKl : K.length = 32 := by rw [← hKe]; exact hOk.k1s
  obtain ⟨M, hMe⟩ : ∃ M, fmF K S.said = M := ⟨_, rfl⟩
  have hMl : M.length = 32 := by rw [← hMe]; exact fmF_len _ _
  have hsn : A.said.n ≤ 274877906944 := by have := hM.gp.said.len; omega
  have Hmac := Lib.hid (fun (w' : World) (h : BS w' A.said.a A.said.n A.said.c S.said) (hk : KT w') => gmac_any w' hKl h (by omega) hk)
  rw [hMe] at Hmac
  have hfs : finS S whole p = if p.length ≠ 32 then (S, 306) else if p ≠ M then (S, 307) else ({ sayS 1 20 (fmF (partS { S with said := S.said ++ whole }).k1.c (partS { S with said := S.said ++ whole }).said) (partS { S with said := S.said ++ whole }) with done := true }, 0) := by
    unfold finS; rw [hsv]; simp only [hKe, hMe, if_false, Bool.false_eq_true]
  have HKe := Lib.hid hKe
  have HM := Lib.hid hM
  have HKT := Lib.hid hK
  have HW := Lib.hid hw
  have HP := Lib.hid hp
  have q0 : w.cell? ⟨g, 0, none⟩ = some (.bool false) := by rw [← hsv]; exact (hM.row.cells hOk).g0
  have hr1 : w.rangeAt g 171 (S.k1.s.map B) := hM.row.r_k1s hOk
  have his := Lib.hid (len32 hOk.k1s)
  have hic := Lib.hid (len32 hOk.k1c)
  have hz := AB_zeros w rfl
  have HR := Lib.hid hr1
  have hu32 := Tryd.underlying26
  have hsl := hOk.k1s
  clear hM hK hw hp hMe hKe
  go_enter Tryd.func64, Tryd.ntmps64
  go_upto_region 2 with (first
    | (refine wpList_load_mid rfl _ _ rfl _ _ rfl (S.k1.s.map B) _ HR.out Tryd.underlying26 rfl his.out ?_)
    | (refine L_store32 rfl _ _ rfl rfl rfl hz (by simp) hsl ?_; intro w2 hK2 hg2))
  have b2 := (below_alloc w _).grown hg2 (by simp) (fun k hk => by cases hk; exact Nat.le_refl _)
  have hm2 := HM.out.below b2

  have p0 : w2.cell? ⟨g, 0, none⟩ = some (.bool false) := by rw [← hsv]; exact (hm2.row.cells hOk).g0
  obtain ⟨g7, hg7⟩ : ∃ x, w.heap.size = x := ⟨_, rfl⟩
  rw [hg7] at hK2 ⊢
  rw [HKe.out] at hK2
  have l7 : w.heap.size ≤ g7 := by omega
  clear hm2 hg2 hz HR hr1 q0 hg7
  go_upto_region 4 with (fail)
  obtain ⟨w4, hw4⟩ : ∃ x, w2 = x := ⟨_, rfl⟩
  have hK4 := hK2
  have b4 := b2
  rw [hw4] at hK4 b4 ⊢
  clear hK2 b2 p0 hw4

  have HB4 := Lib.hid b4
  have HK4 := Lib.hid hK4
  clear b4 hK4
  by_cases h32 : n2 = 32
  · subst h32
    rw [if_neg (by omega)] at hfs
    go_upto_region 6 with (fail)
    obtain ⟨V, hV⟩ : ∃ V, w4.drew = V := ⟨_, rfl⟩
    have hm4 := HM.out.below HB4.out
    have hk4 := Below.kpt HB4.out HM.out.gp.top
    have hkt4 := HKT.out.below HB4.out (Nat.le_refl _)
    have hp4 := RS.below HP.out HB4.out (Nat.le_refl _)
    have hw4 := RS.below HW.out HB4.out (Nat.le_refl _)
    have hk4' := HK4.out
    have HMV := Lib.hid (show GM V role g S A by rw [← hV]; exact hm4.drew)
    have HPV := Lib.hid (show Kpt w V role role by rw [← hV]; exact hk4.drew)
    have HKV := Lib.hid (show KT V by rw [← hV]; exact hkt4)
    have HpV := Lib.hid (show BS V a2 32 c2 p by rw [← hV]; exact hp4)
    have HwV := Lib.hid (show BS V a1 n1 c1 whole by rw [← hV]; exact hw4)
    have HAV := Lib.hid (show AB V g7 26 K by rw [← hV]; exact hk4')
    have HCV := Lib.hid (show V.cell? ⟨g, 36, none⟩ = some (.slice A.said.a A.said.n A.said.c) from (HMV.out.row.cells hOk).g36)
    have lgV : g < V.heap.size := HMV.out.gp.gl
    have l7V := HAV.out.lt
    have b0 : Below V.heap.size V V := Below.refl _ _
    have hiK := len32 hKl
    clear hm4 hk4 hkt4 hp4 hw4 hk4' HB4 HK4
    refine wp_region_held_drew (S := fun w' => w'.rangeAt g7 0 (K.map B) ∧ w'.cell? ⟨g, 36, none⟩ = some (.slice A.said.a A.said.n A.said.c)) (by kernel_rfl) (by rw [hV]; exact ⟨HAV.out.rng, HCV.out⟩) (fun hHeld => ?_)
    rw [hV] at hHeld ⊢
    refine wpAnyH_take (i := 0) (v := .slice a2 32 c2) rfl (by kernel_rfl) (by kernel_rfl) (by kernel_rfl) (fun _ _ _ h => h) (Or.inl ⟨by rfl, fun w h => by go_simp⟩) hHeld ?_
    try simp only [Act.put, List.getElem_toArray, List.getElem_cons_zero, List.setIfInBounds_toArray, List.set_cons_zero, List.set_cons_succ]
    refine wpAnyH_take (i := 1) rfl (by kernel_rfl) (by kernel_rfl) (by kernel_rfl) (fun _ _ _ h => h) (yieldsIf_load_mid (by rfl) _ _ rfl _ _ rfl _ _ (fun w h => h.1) hu32 rfl hiK) hHeld ?_
    try simp only [Act.put, List.getElem_toArray, List.getElem_cons_succ, List.getElem_cons_zero, List.setIfInBounds_toArray, List.set_cons_zero, List.set_cons_succ]
    refine wpAnyH_take (i := 2) (v := .pointer (some ⟨g, 0, none⟩)) rfl (by kernel_rfl) (by kernel_rfl) (by kernel_rfl) (fun _ _ _ h => h) (Or.inl ⟨by rfl, fun w h => by go_simp⟩) hHeld ?_
    try simp only [Act.put, List.getElem_toArray, List.getElem_cons_succ, List.getElem_cons_zero, List.setIfInBounds_toArray, List.set_cons_zero, List.set_cons_succ]
    refine wpAnyH_take (i := 3) (v := .pointer (some ⟨g, 0, none⟩)) rfl (by kernel_rfl) (by kernel_rfl) (by kernel_rfl) (fun _ _ _ h => h) (Or.inl ⟨by rfl, fun w h => by go_simp⟩) hHeld ?_
    try simp only [Act.put, List.getElem_toArray, List.getElem_cons_succ, List.getElem_cons_zero, List.setIfInBounds_toArray, List.set_cons_zero, List.set_cons_succ]
    refine wpAnyH_take (i := 4) (v := .pointer (some ⟨g, 36, none⟩)) rfl (by kernel_rfl) (by kernel_rfl) (by kernel_rfl) (fun _ _ _ h => h) (Or.inl ⟨by rfl, fun w h => by go_simp⟩) hHeld ?_
    try simp only [Act.put, List.getElem_toArray, List.getElem_cons_succ, List.getElem_cons_zero, List.setIfInBounds_toArray, List.set_cons_zero, List.set_cons_succ]
    refine wpAnyH_take (i := 5) (v := .slice A.said.a A.said.n A.said.c) rfl (by kernel_rfl) (by kernel_rfl) (by kernel_rfl) (fun _ _ _ h => h) (Or.inl ⟨by rfl, fun w h => by have h2 : w.cell? ⟨g, 36, none⟩ = some (.slice A.said.a A.said.n A.said.c) := h.2; go_simp⟩) hHeld ?_
    try simp only [Act.put, List.getElem_toArray, List.getElem_cons_succ, List.getElem_cons_zero, List.setIfInBounds_toArray, List.set_cons_zero, List.set_cons_succ]
    refine wpAnyH_ready (rs := [6]) (by kernel_rfl) (by simp) (AllReadyH.cons rfl (fun K hK => ?_) AllReadyH.nil)
    go_simp
    go_at_call 58
    refine ((Hmac.out V (RS.below HMV.out.gp.said.rs b0 (Nat.le_refl _)) (HKV.out.below b0 (Nat.le_refl _)))).mono ?_
    rintro x va1 ⟨gm, rfl, hMm, hgm, Ba3⟩
    have ba2 := b0.trans (Ba3.mono b0.size)
    have ha4 : AB va1 gm 26 M := hMm
    refine hK.out _ _ (And.intro (HAV.out.bl ba2 l7V).rng ((Below.cell ba2 (p := ⟨g, 36, none⟩) lgV).trans HCV.out)) (fun hHeld => ?_)
    clear hK K
    try simp only [Act.put, List.getElem_toArray, List.getElem_cons_succ, List.getElem_cons_zero, List.setIfInBounds_toArray, List.set_cons_zero, List.set_cons_succ]
    refine wpAnyH_ready (rs := [7]) (by kernel_rfl) (by simp) (AllReadyH.cons rfl (fun K hK => ?_) AllReadyH.nil)
    go_simp
    go_at_call 72
    refine ((rsameb_any va1 (RS.below HpV.out ba2 (Nat.le_refl _)) (ha4.bs32 hMl))).mono ?_
    rintro x va5 ⟨rfl, Ba7⟩
    have ba6 := ba2.trans (Ba7.mono ba2.size)
    have ha8 := ha4.bl Ba7 ha4.lt
    refine hK.out _ _ (And.intro (HAV.out.bl ba6 l7V).rng ((Below.cell ba6 (p := ⟨g, 36, none⟩) lgV).trans HCV.out)) (fun hHeld => ?_)
    clear hK K
    try simp only [Act.put, List.getElem_toArray, List.getElem_cons_succ, List.getElem_cons_zero, List.setIfInBounds_toArray, List.set_cons_zero, List.set_cons_succ]
    refine wpAnyH_take (i := 8) (v := .bool (!(p == M))) rfl (by kernel_rfl) (by kernel_rfl) (by kernel_rfl) (fun _ _ _ h => h) (Or.inl ⟨by rfl, fun w h => by go_simp⟩) hHeld ?_
    try simp only [Act.put, List.getElem_toArray, List.getElem_cons_succ, List.getElem_cons_zero, List.setIfInBounds_toArray, List.set_cons_zero, List.set_cons_succ]
    refine wpAnyH_take (i := 9) (v := .bool (!(p == M))) rfl (by kernel_rfl) (by kernel_rfl) (by kernel_rfl) (fun _ _ _ h => h) (Or.inl ⟨by rfl, fun w h => by go_simp⟩) hHeld ?_
    try simp only [Act.put, List.getElem_toArray, List.getElem_cons_succ, List.getElem_cons_zero, List.setIfInBounds_toArray, List.set_cons_zero, List.set_cons_succ]
    refine wpAnyH_done (by kernel_rfl) ?_ _
    try simp only [Act.put, List.getElem_toArray, List.getElem_cons_succ, List.getElem_cons_zero]
    have hmx := HMV.out.kept ba6.size (fun k hk _ => ba6.block k hk)
    have hkx := HPV.out.trans (Below.kpt ba6 HMV.out.gp.top)
    have hktx := HKV.out.below ba6 (Nat.le_refl _)
    have hwx := RS.below HwV.out ba6 (Nat.le_refl _)
    have HMX := Lib.hid hmx
    have HKX := Lib.hid hkx
    have HTX := Lib.hid hktx
    have HWX := Lib.hid hwx
    clear hmx hkx hktx hwx HAV HCV HpV HwV HKV HPV HMV hHeld
    by_cases hpm : p = M
    · rw [if_neg (by simpa using hpm)] at hfs
      have hbb : (p == M) = true := by rw [hpm]; exact beq_self_eq_true M
      rw [hbb]
      clear hpm hbb
      have q36 : va5.cell? ⟨g, 36, none⟩ = some (.slice A.said.a A.said.n A.said.c) := (HMX.out.row.cells hOk).g36
      go_upto_region 9 with (at_builtin; refine L_append_X tB HMX.out.gp.said HWX.out _ _ rfl rfl rfl rfl (by omega) (by unfold maxLen; omega) HMX.out.gp.top ?_; intro a5 c5 w5 role5 ho5 hst5; have hqf := HMX.out.said_at hst5; have r36 := hqf.1; have f36 := hqf.2)
      obtain ⟨hm6, hk6⟩ := HMX.out.said_app ho5 hst5
      obtain ⟨w6, hw6⟩ : ∃ x, w5.setCell ⟨g, 36, none⟩ (.slice a5 (A.said.n + n1) c5) = x := ⟨_, rfl⟩
      rw [hw6] at hm6 hk6 ⊢
      have hkt6 := HTX.out.kpt hk6 hR
      obtain ⟨S6, hS6⟩ : ∃ x : MS, { S with said := S.said ++ whole } = x := ⟨_, rfl⟩
      rw [hS6] at hm6 hfs
      have hsa6 : S6.said.length ≤ 274878906944 := by rw [← hS6]; simp only [List.length_append]; omega
      have hsv6 : S6.server = false := by rw [← hS6]; exact hsv
      have ho6 : S6.o1.length ≤ 274877906944 := by rw [← hS6]; exact ho
      have u0 : w6.cell? ⟨g, 0, none⟩ = some (.bool false) := by rw [← hsv6]; exact (hm6.row.cells hm6.ok).g0
      have HM6 := Lib.hid hm6
      have HK6 := Lib.hid (HKX.out.trans hk6)
      have HT6 := Lib.hid hkt6
      clear hm6 hk6 hkt6 hqf r36 f36 ho5 hst5 hw6 q36 hS6 HMX HKX HTX HWX
      obtain ⟨P6, hP6⟩ : ∃ x, partS S6 = x := ⟨_, rfl⟩
      rw [hP6] at hfs
      have hpa := gpart_any w6 HM6.out (by omega) HT6.out
      rw [hP6] at hpa
      have Hpa := Lib.hid hpa
      have hsp6 : P6.said.length ≤ 274878906944 := by rw [← hP6]; exact hsa6
      have hop6 : P6.o1.length ≤ 274877906944 := by rw [← hP6]; exact ho6
      clear hpa hP6
      go_upto_region 11 with (go_at_call 73; refine Hpa.out.mono ?_; rintro x w7 ⟨rfl, hm7, hk7⟩)
      have hOk7 := hm7.ok
      obtain ⟨C, hCe⟩ : ∃ C, P6.k1.c = C := ⟨_, rfl⟩
      have hCl : C.length = 32 := by rw [← hCe]; exact hOk7.k1c
      obtain ⟨F, hFe⟩ : ∃ F, fmF C P6.said = F := ⟨_, rfl⟩
      have hFl : F.length = 32 := by rw [← hFe]; exact fmF_len _ _
      rw [hCe, hFe] at hfs
      obtain ⟨U, hU⟩ : ∃ U, w7.drew = U := ⟨_, rfl⟩
      have h2 := HK6.out.trans hk7
      have h3 := HT6.out.kpt hk7 (HK6.out.blk _ HKT.out.lt hR).2
      obtain ⟨A6, hA6⟩ : ∃ A6 : MA, { A with said := ⟨a5, A.said.n + n1, c5⟩ } = A6 := ⟨_, rfl⟩
      rw [hA6] at hm7
      have HMU := Lib.hid (show GM U role5 g P6 A6 by rw [← hU]; exact hm7.drew)
      have HPU := Lib.hid (show Kpt w U role role5 by rw [← hU]; exact h2.drew)
      have HKU := Lib.hid (show KT U by rw [← hU]; exact h3)
      have hsn6 : A6.said.n ≤ 274878906944 := by rw [HMU.out.gp.said.len]; exact hsp6
      have Hmac2 := Lib.hid (fun (w' : World) (h : BS w' A6.said.a A6.said.n A6.said.c P6.said) (hk : KT w') => gmac_any w' hCl h (by omega) hk)
      rw [hFe] at Hmac2
      have hra : U.rangeAt g 139 (C.map B) := by have := HMU.out.row.r_k1c hOk7; rw [hCe] at this; exact this
      have HRA := Lib.hid hra
      have qU : U.cell? ⟨g, 36, none⟩ = some (.slice A6.said.a A6.said.n A6.said.c) := (HMU.out.row.cells hOk7).g36
      have lgU : g < U.heap.size := HMU.out.gp.gl
      have c0 : Below U.heap.size U U := Below.refl _ _
      have hiC := len32 hCl
      have HCe := Lib.hid hCe
      clear h2 h3 hm7 hk7 hra Hpa HM6 HK6 HT6 u0 hCe hFe hA6
      refine wp_region_held_drew (S := fun w' => w'.rangeAt g 139 (C.map B)) (by kernel_rfl) (by rw [hU]; exact HRA.out) (fun hHeld => ?_)
      rw [hU] at hHeld ⊢
      refine wpAnyH_take (i := 0) (v := .pointer (some ⟨g, 0, none⟩)) rfl (by kernel_rfl) (by kernel_rfl) (by kernel_rfl) (fun _ _ _ h => h) (Or.inl ⟨by rfl, fun w h => by go_simp⟩) hHeld ?_
      try simp only [Act.put, List.getElem_toArray, List.getElem_cons_zero, List.setIfInBounds_toArray, List.set_cons_zero, List.set_cons_succ]
      refine wpAnyH_take (i := 1) (v := .pointer (some ⟨g, 0, none⟩)) rfl (by kernel_rfl) (by kernel_rfl) (by kernel_rfl) (fun _ _ _ h => h) (Or.inl ⟨by rfl, fun w h => by go_simp⟩) hHeld ?_
      try simp only [Act.put, List.getElem_toArray, List.getElem_cons_succ, List.getElem_cons_zero, List.setIfInBounds_toArray, List.set_cons_zero, List.set_cons_succ]
      refine wpAnyH_take (i := 2) (v := .pointer (some ⟨g, 0, none⟩)) rfl (by kernel_rfl) (by kernel_rfl) (by kernel_rfl) (fun _ _ _ h => h) (Or.inl ⟨by rfl, fun w h => by go_simp⟩) hHeld ?_
      try simp only [Act.put, List.getElem_toArray, List.getElem_cons_succ, List.getElem_cons_zero, List.setIfInBounds_toArray, List.set_cons_zero, List.set_cons_succ]
      refine wpAnyH_take (i := 3) (v := .pointer (some ⟨g, 74, none⟩)) rfl (by kernel_rfl) (by kernel_rfl) (by kernel_rfl) (fun _ _ _ h => h) (Or.inl ⟨by rfl, fun w h => by go_simp⟩) hHeld ?_
      try simp only [Act.put, List.getElem_toArray, List.getElem_cons_succ, List.getElem_cons_zero, List.setIfInBounds_toArray, List.set_cons_zero, List.set_cons_succ]
      refine wpAnyH_take (i := 4) (v := .pointer (some ⟨g, 139, none⟩)) rfl (by kernel_rfl) (by kernel_rfl) (by kernel_rfl) (fun _ _ _ h => h) (Or.inl ⟨by rfl, fun w h => by go_simp⟩) hHeld ?_
      try simp only [Act.put, List.getElem_toArray, List.getElem_cons_succ, List.getElem_cons_zero, List.setIfInBounds_toArray, List.set_cons_zero, List.set_cons_succ]
      refine wpAnyH_take (i := 5) (v := .pointer (some ⟨g, 139, none⟩)) rfl (by kernel_rfl) (by kernel_rfl) (by kernel_rfl) (fun _ _ _ h => h) (Or.inl ⟨by rfl, fun w h => by go_simp⟩) hHeld ?_
      try simp only [Act.put, List.getElem_toArray, List.getElem_cons_succ, List.getElem_cons_zero, List.setIfInBounds_toArray, List.set_cons_zero, List.set_cons_succ]
      refine wpAnyH_take (i := 6) rfl (by kernel_rfl) (by kernel_rfl) (by kernel_rfl) (fun _ _ _ h => h) (yieldsIf_load_mid (by rfl) _ _ rfl _ _ rfl _ _ (fun w h => h) hu32 rfl hiC) hHeld ?_
      try simp only [Act.put, List.getElem_toArray, List.getElem_cons_succ, List.getElem_cons_zero, List.setIfInBounds_toArray, List.set_cons_zero, List.set_cons_succ]
      refine wpAnyH_take (i := 7) (v := .pointer (some ⟨g, 0, none⟩)) rfl (by kernel_rfl) (by kernel_rfl) (by kernel_rfl) (fun _ _ _ h => h) (Or.inl ⟨by rfl, fun w h => by go_simp⟩) hHeld ?_
      try simp only [Act.put, List.getElem_toArray, List.getElem_cons_succ, List.getElem_cons_zero, List.setIfInBounds_toArray, List.set_cons_zero, List.set_cons_succ]
      refine wpAnyH_take (i := 8) (v := .pointer (some ⟨g, 0, none⟩)) rfl (by kernel_rfl) (by kernel_rfl) (by kernel_rfl) (fun _ _ _ h => h) (Or.inl ⟨by rfl, fun w h => by go_simp⟩) hHeld ?_
      try simp only [Act.put, List.getElem_toArray, List.getElem_cons_succ, List.getElem_cons_zero, List.setIfInBounds_toArray, List.set_cons_zero, List.set_cons_succ]
      refine wpAnyH_take (i := 9) (v := .pointer (some ⟨g, 36, none⟩)) rfl (by kernel_rfl) (by kernel_rfl) (by kernel_rfl) (fun _ _ _ h => h) (Or.inl ⟨by rfl, fun w h => by go_simp⟩) hHeld ?_
      try simp only [Act.put, List.getElem_toArray, List.getElem_cons_succ, List.getElem_cons_zero, List.setIfInBounds_toArray, List.set_cons_zero, List.set_cons_succ]
      refine wpAnyH_ready (rs := [10]) (by kernel_rfl) (by simp) (AllReadyH.cons rfl (fun K hK => ?_) AllReadyH.nil)
      go_simp
      refine hK.out _ _ ((rng_bel HRA.out c0 lgU)) (fun hHeld => ?_)
      clear hK K
      try simp only [Act.put, List.getElem_toArray, List.getElem_cons_succ, List.getElem_cons_zero, List.setIfInBounds_toArray, List.set_cons_zero, List.set_cons_succ]
      refine wpAnyH_ready (rs := [11]) (by kernel_rfl) (by simp) (AllReadyH.cons rfl (fun K hK => ?_) AllReadyH.nil)
      go_simp
      go_at_call 58
      refine ((Hmac2.out U (RS.below HMU.out.gp.said.rs c0 (Nat.le_refl _)) (HKU.out.below c0 (Nat.le_refl _)))).mono ?_
      rintro x vc3 ⟨gm2, rfl, hMm2, hgm2, Bc5⟩
      have bc4 := c0.trans (Bc5.mono c0.size)
      have hc6 : AB vc3 gm2 26 F := hMm2
      refine hK.out _ _ ((rng_bel HRA.out bc4 lgU)) (fun hHeld => ?_)
      clear hK K
      try simp only [Act.put, List.getElem_toArray, List.getElem_cons_succ, List.getElem_cons_zero, List.setIfInBounds_toArray, List.set_cons_zero, List.set_cons_succ]
      refine wpAnyH_ready (rs := [12]) (by kernel_rfl) (by simp) (AllReadyH.cons rfl (fun K hK => ?_) AllReadyH.nil)
      go_simp
      go_at_call 45
      have hm8 := HMU.out.kept bc4.size (fun k hk _ => bc4.block k hk)
      refine (gsay_1 _ hm8 20 (by decide) (hc6.bs32 hFl) (by omega) (by omega) (by omega)).mono ?_
      rintro x vc7 ⟨rfl, role9, A9, hm9, hk8⟩
      have hk9 := (HPU.out.trans (Below.kpt bc4 HMU.out.gp.top)).trans hk8
      have bc8 := bc4
      refine hK.out _ _ (by have h := hm9.row.r_k1c hm9.ok; rw [show (sayS 1 20 F P6).k1.c = C from HCe.out] at h; exact h) (fun hHeld => ?_)
      clear hK K hm8 hk8
      try simp only [Act.put, List.getElem_toArray, List.getElem_cons_succ, List.getElem_cons_zero, List.setIfInBounds_toArray, List.set_cons_zero, List.set_cons_succ]
      refine wpAnyH_done (by kernel_rfl) ?_ _
      try simp only [Act.put, List.getElem_toArray, List.getElem_cons_succ, List.getElem_cons_zero]
      have h271 : vc7.cell? ⟨g, 271, none⟩ = some (.bool (sayS 1 20 F P6).done) := (hm9.row.cells hm9.ok).g271
      have f271 := hm9.row.fr 271
      obtain ⟨hmA, hkA⟩ := hm9.set_done true
      have HMA := Lib.hid hmA
      have HKA := Lib.hid (hk9.trans hkA)
      clear hm9 hk9 hmA hkA hHeld HMU HPU HKU HRA qU
      go_wp2
      go_ret
      refine ⟨by rw [hfs]; rfl, ?_⟩
      rw [hfs]
      exact ⟨role9, A9, HMA.out, HKA.out⟩
    · rw [if_pos hpm] at hfs
      have hbb : (p == M) = false := by simpa using hpm
      rw [hbb]
      go_wp2
      go_ret
      refine ⟨by rw [hfs]; rfl, ?_⟩
      rw [hfs]
      exact ⟨role, A, HMX.out, HKX.out⟩
  · have hi32 : ¬ ((n2 : Int) = 32) := by omega
    rw [if_pos (by omega)] at hfs
    go_wp2
    go_ret
    refine ⟨by rw [hfs]; rfl, ?_⟩
    rw [hfs]
    exact ⟨role, A, HM.out.below HB4.out, Below.kpt HB4.out HM.out.gp.top⟩
end Go.Proofs.YtkhcpnmbhbhcgaaDoor

/- (*greet.Machine).takeHello. -/
set_option maxRecDepth 100000
set_option linter.unusedVariables false
namespace Go.Proofs.YtkhcpnmbhbhcgaaDoor
open Go.RowKit Go.Joins
/-- the server, when all of a Hello is right -/
noncomputable def helR (S : MS) (whole t : List UInt8) : MS :=
  let S3 := agreeS (sayS 0 2 S.rnd { S with peer := t, came := true, said := S.said ++ whole })
  let S4 := sayS 1 8 (textS S3.par) S3
  partS (sayS 1 20 (fmF S4.k1.s S4.said) S4)
noncomputable def helT (S : MS) (whole id t r2 : List UInt8) : MS × Nat :=
  if r2.length ≠ 32 then (S, 306) else if id ≠ S.id then (S, 371) else if r2 ≠ binF S.sec (whole.take (whole.length - 32)) then (S, 307) else (helR S whole t, 0)
noncomputable def helU (S : MS) (whole id r1 : List UInt8) : MS × Nat :=
  match ttS r1 512 with
  | none => (S, 306)
  | some (t, r2) => helT S whole id t r2
/-- the client's first word -/
noncomputable def helS (S : MS) (whole p : List UInt8) : MS × Nat :=
  if p.length < 64 then (S, 306) else
  match ttS (p.drop 32) 64 with
  | none => (S, 306)
  | some (id, r1) => helU S whole id r1
theorem KT.role {w w' : World} {role role' : Nat → Nat} (h : KT w) (hk : Kpt w w' role role') (h0 : role 3 = 0) : role' 3 = 0 := (hk.blk _ h.lt h0).2
theorem tt_le {p t r : List UInt8} {m : Nat} (h : ttS p m = some (t, r)) : r.length ≤ p.length ∧ t.length ≤ p.length := by
  unfold ttS at h
  cases hT : takeS p with
  | none => rw [hT] at h; cases h
  | some nr =>
    obtain ⟨v, q⟩ := nr
    rw [hT] at h
    have hq := takeS_le hT
    dsimp only at h
    split at h
    · cases h
    · injection h with h
      injection h with h1 h2
      rw [← h1, ← h2, List.length_drop, List.length_take]
      omega
theorem tt_nil (m : Nat) : ttS [] m = none := rfl
set_option maxHeartbeats 8000000 in
theorem ghel_any (w : World) {role : Nat → Nat} {g : Nat} {S : MS} {A : MA} (hM : GM w role g S A) {a1 a2 : Option Addr} {n1 c1 n2 c2 : Nat} {whole p : List UInt8} (hw : BS w a1 n1 c1 whole) (hp : BS w a2 n2 c2 p) (hwp : n1 = 4 + n2) (hwg : ∀ ad, a1 = some ad → ad.block ≠ g) (hn : n1 ≤ 1000000)
    (hs : S.said.length ≤ 274877906944) (ho0 : S.o0.length ≤ 274877906944) (ho1 : S.o1.length ≤ 274877906944) (hc : S.sec.length ≤ 274877906944) (hpar : S.par.length ≤ 600) (hK : KT w) (hR : role 3 = 0) :
    Calls Tryd.prog 62 #[.pointer (some ⟨g, 0, none⟩), .slice a1 n1 c1, .slice a2 n2 c2] w fun e w' => e = .returned (.int .u64 ((helS S whole p).2 : Int)) ∧ ∃ role' A', GM w' role' g (helS S whole p).1 A' ∧ Kpt w w' role role' := by
  have hOk := hM.ok
  have hpl := BS.len hp
  have hwl := BS.len hw
  have HM := Lib.hid hM
  have HKT := Lib.hid hK
  have HW := Lib.hid hw
  by_cases h64 : n2 < 64
  · have HFS := Lib.hid (show helS S whole p = (S, 306) by unfold helS; rw [if_pos (by omega)])
    have HK0 := Lib.hid (Kpt.refl w role hM.gp.top)
    clear hM hK hw hp
    go_enter Tryd.func62, Tryd.ntmps62
    go_wp2
    go_ret
    refine ⟨by rw [HFS.out]; rfl, ?_⟩
    rw [HFS.out]
    exact ⟨role, A, HM.out, HK0.out⟩
  · obtain ⟨a3, h3, q3⟩ := runK_l hp .i64 32 (by omega)
    have q3' : ∀ W, (Instr.slice 22 (.slice a2 n2 c2) (some (.int .i64 32)) none none).run Tryd.prog W = .ok (.slice a3 (n2 - 32) (c2 - 32)) W := q3
    have T1 := vttext_any w h3 (by omega) 64 (by omega)
    have hfs : helS S whole p = match ttS (p.drop 32) 64 with
      | none => (S, 306)
      | some (id, r1) => helU S whole id r1 := by unfold helS; rw [if_neg (by omega)]
    have hn32 : (n2 : Int) < 64 ↔ False := by simp; omega
    have h64' : ¬ ((n2 : Int) < 64) := by omega
    have hn2 : (32 : Int) ≤ (n2 : Int) := by omega
    have hn2u : n2 ≤ 1000000 := by omega
    have hn1l : 68 ≤ n1 := by omega
    have HWL := Lib.hid hwl
    have HPL := Lib.hid hpl
    clear hM hK hw hp h3 q3 hn32 hwp
    clear hwl
    unfold TTPost at T1
    cases hT1 : ttS (p.drop 32) 64 with
    | none =>
      rw [hT1] at T1 hfs
      dsimp only at T1 hfs
      have H1 := Lib.hid T1
      have HFS := Lib.hid hfs
      clear T1 hfs hT1
      go_enter Tryd.func62, Tryd.ntmps62
      go_upto_region 4 with (go_at_call 36; refine H1.out.mono ?_; rintro x w2 ⟨k, hk0, rfl, B2⟩)
      have T2 := vttext_any w2 (p := []) (RS_nil w2 1) (by omega) 512 (by omega)
      unfold TTPost at T2
      rw [tt_nil] at T2
      dsimp only at T2
      have H2 := Lib.hid T2
      have HB2 := Lib.hid B2
      have hkb : (k != 0) = true := by simpa using hk0
      clear T2 B2
      go_wp2_with (go_at_call 36; refine H2.out.mono ?_; rintro x w3 ⟨k2, hk2, rfl, B3⟩)
      go_ret
      have hb := HB2.out.trans (B3.mono HB2.out.size)
      refine ⟨by rw [HFS.out]; rfl, ?_⟩
      rw [HFS.out]
      exact ⟨role, A, HM.out.below hb, Below.kpt hb HM.out.gp.top⟩
    | some ir =>
      obtain ⟨id, r1⟩ := ir
      rw [hT1] at T1 hfs
      dsimp only at T1 hfs
      obtain ⟨li, hli⟩ : ∃ x, id.length = x := ⟨_, rfl⟩
      obtain ⟨l1, hl1⟩ : ∃ x, r1.length = x := ⟨_, rfl⟩
      rw [hli, hl1] at T1
      have hl1u : l1 ≤ 1000000 := by have h := (tt_le hT1).1; rw [hl1, List.length_drop] at h; omega
      have hliu : li ≤ 1000000 := by have h := (tt_le hT1).2; rw [hli, List.length_drop] at h; omega
      clear hpl
      have H1 := Lib.hid T1
      have HFS0 := Lib.hid hfs
      have HLI := Lib.hid hli
      have HL1 := Lib.hid hl1
      clear T1 hfs hT1 hli hl1
      go_enter Tryd.func62, Tryd.ntmps62
      go_upto_region 4 with (go_at_call 36; refine H1.out.mono ?_; rintro x w2 ⟨a4, c4, a5, c5, rfl, o4, o5, B2⟩)
      have T2 := vttext_any w2 (p := r1) o5.rs (by omega) 512 (by omega)
      unfold TTPost at T2
      have hfs := HFS0.out
      unfold helU at hfs
      have HB2 := Lib.hid B2
      have HI2 := Lib.hid o4
      cases hT2 : ttS r1 512 with
      | none =>
        rw [hT2] at T2 hfs
        dsimp only at T2 hfs
        have H2 := Lib.hid T2
        have HFS := Lib.hid hfs
        clear T2 hfs hT2 B2 o4 o5 HFS0
        go_upto_region 5 with (go_at_call 36; refine H2.out.mono ?_; rintro x w3 ⟨k, hk0, rfl, B3⟩)
        have hkb : (k != 0) = true := by simpa using hk0
        have HB3 := Lib.hid (HB2.out.trans (B3.mono HB2.out.size))
        clear B3
        go_wp2
        go_ret
        refine ⟨by rw [HFS.out]; rfl, ?_⟩
        rw [HFS.out]
        exact ⟨role, A, HM.out.below HB3.out, Below.kpt HB3.out HM.out.gp.top⟩
      | some tr =>
        obtain ⟨t, r2⟩ := tr
        rw [hT2] at T2 hfs
        dsimp only at T2 hfs
        obtain ⟨lt, hlt⟩ : ∃ x, t.length = x := ⟨_, rfl⟩
        obtain ⟨l2, hl2⟩ : ∃ x, r2.length = x := ⟨_, rfl⟩
        rw [hlt, hl2] at T2
        unfold helT at hfs
        rw [hl2] at hfs
        have H2 := Lib.hid T2
        have HL2 := Lib.hid hl2
        have HLT := Lib.hid hlt
        have hltu : lt ≤ 1000000 := by have h := (tt_le hT2).2; rw [hlt] at h; have := HL1.out; omega
        clear T2 hT2 B2 o4 o5 HFS0 hlt hl2
        go_upto_region 5 with (go_at_call 36; refine H2.out.mono ?_; rintro x w3 ⟨a6, c6, a7, c7, rfl, o6, o7, B3⟩)
        have b3 := HB2.out.trans (B3.mono HB2.out.size)
        have HB3 := Lib.hid b3
        have HO6 := Lib.hid o6
        have HO7 := Lib.hid o7
        have HI3 := Lib.hid (RS.below HI2.out.rs B3 (Nat.le_refl _))
        have HZ2 := Lib.hid HB2.out.size
        have HM3 := Lib.hid (HM.out.below b3)
        have HK3 := Lib.hid (Below.kpt b3 HM.out.gp.top)
        have HT3 := Lib.hid (HKT.out.below b3 (Nat.le_refl _))
        have HW3 := Lib.hid (RS.below HW.out b3 (Nat.le_refl _))
        clear b3 o6 o7 B3 HI2 HB2 H2 H1
        by_cases h32 : l2 = 32
        · subst h32
          rw [if_neg (by omega)] at hfs
          have hO3 := HM3.out.ok
          have q1 : w3.cell? ⟨g, 1, none⟩ = some (.slice A.id.a A.id.n A.id.c) := (HM3.out.row.cells hO3).g1
          have heq := equal_any w3 HI3.out HM3.out.gp.id
          by_cases hid : id = S.id
          · rw [if_neg (by simpa using hid)] at hfs
            rw [show (id == S.id) = true by rw [hid]; exact beq_self_eq_true _] at heq
            have Heq := Lib.hid heq
            obtain ⟨m1, hm1⟩ : ∃ x, n1 - 32 = x := ⟨_, rfl⟩
            have hmi : (n1 : Int) - 32 = (m1 : Int) := by omega
            have hmw : IntKind.i64.wrap (m1 : Int) = (m1 : Int) := IntWalk.i64_in _ (by omega)
            obtain ⟨hT4, hq4⟩ := runK_h HW3.out .i64 m1 (by omega)
            obtain ⟨bi, hbi⟩ : ∃ x, binF S.sec (whole.take m1) = x := ⟨_, rfl⟩
            have hbil : bi.length = 32 := by rw [← hbi]; exact binF_len _ _
            rw [HWL.out, hm1, hbi] at hfs
            have q2 : w3.cell? ⟨g, 2, none⟩ = some (.slice A.sec.a A.sec.n A.sec.c) := (HM3.out.row.cells hO3).g2
            have hsn : A.sec.n ≤ 549755813888 := by have := BS.len HM3.out.gp.sec; omega
            have hbd := gbinder_any w3 q2 HM3.out.gp.sec hsn hT4 (by omega) HT3.out
            rw [hbi] at hbd
            have Hbd := Lib.hid hbd
            have HFS0 := Lib.hid hfs
            clear heq hid hbd hfs hbi hT4 hm1
            go_upto_region 9 with (go_at_call 71; refine Heq.out.mono ?_; rintro x w4 ⟨rfl, rfl⟩)
            by_cases hbn : r2 = bi
            · have hfs := HFS0.out
              rw [if_neg (by simpa using hbn)] at hfs
              have HFS := Lib.hid hfs
              have hbb : (r2 == bi) = true := by rw [hbn]; exact beq_self_eq_true _
              have HBB := Lib.hid hbb
              clear hfs HFS0 hbn hbb
              go_upto_region 11 with (first
                | (go_at_call 46; refine Hbd.out.mono ?_; rintro x w5 ⟨gm, rfl, hG5, hgm, B5⟩; have hsm := Lib.hid (rsameb_any w5 (RS.below HO7.out.rs B5 (Nat.le_refl _)) (hG5.bs32 hbil)))
                | (go_at_call 72; refine hsm.out.mono ?_; rw [HBB.out]; rintro x w6 ⟨rfl, B6⟩))
              have b36 := B5.trans (B6.mono B5.size)
              have b6 := HB3.out.trans (b36.mono HB3.out.size)
              have hm6 := HM3.out.below b36
              have ho6 := HO6.out.below b36 (Nat.le_refl _)
              have hw6 := RS.below HW3.out b36 (Nat.le_refl _)
              have u269 : w6.cell? ⟨g, 269, none⟩ = some (.slice A.pe.a A.pe.n A.pe.c) := (hm6.row.cells hO3).g269
              have u270 : w6.cell? ⟨g, 270, none⟩ = some (.bool S.came) := (hm6.row.cells hO3).g270
              have f269 := hm6.row.fr 269
              have f270 := hm6.row.fr 270
              obtain ⟨role7, hm7, hk7, -⟩ := hm6.set_pe ho6 (fun k hk => HM.out.gp.top k (Nat.le_trans HZ2.out hk)) (Below.kpt b6 HM.out.gp.top) HZ2.out
              obtain ⟨hm8, hk8⟩ := hm7.set_came true
              have hk8 := hk7.trans hk8
              have hw8 : BS ((w6.setCell ⟨g, 269, none⟩ (.slice a6 lt c6)).setCell ⟨g, 270, none⟩ (.bool true)) a1 n1 c1 whole :=
                RS.grown (RS.grown hw6 (grownBy_setCell w6 ⟨g, 269, none⟩ (.slice a6 lt c6)) (fun ad ha he => hwg ad ha (by simpa using he))) (grownBy_setCell _ ⟨g, 270, none⟩ (.bool true)) (fun ad ha he => hwg ad ha (by simpa using he))
              have HM8 := Lib.hid hm8
              have HK8 := Lib.hid hk8
              have HW8 := Lib.hid hw8
              have HT8 := Lib.hid (HKT.out.kpt hk8 hR)
              have hR8 := HKT.out.role hk8 hR
              clear b36 b6 hm6 ho6 hw6 hm7 hk7 hm8 hk8 hw8 B5 B6 hG5 hgm hsm Hbd Heq HO6 HO7 HI3 HM3 HK3 HT3 HW3 HB3 q1 q2
              go_upto_region 12 with (fail)
              clear u269 u270 f269 f270
              obtain ⟨w8, hw8⟩ : ∃ x, (w6.setCell ⟨g, 269, none⟩ (.slice a6 lt c6)).setCell ⟨g, 270, none⟩ (.bool true) = x := ⟨_, rfl⟩
              rw [hw8] at HM8 HK8 HW8 HT8 ⊢
              obtain ⟨S8, hS8⟩ : ∃ x : MS, ({ ({ S with peer := t } : MS) with came := true } : MS) = x := ⟨_, rfl⟩
              obtain ⟨A8, hA8⟩ : ∃ x : MA, { A with pe := ⟨a6, lt, c6⟩ } = x := ⟨_, rfl⟩
              rw [hS8, hA8] at HM8
              have hsn8 : A8.said.n ≤ 274877906944 := by rw [HM8.out.gp.said.len, ← hS8]; exact hs
              have q36 : w8.cell? ⟨g, 36, none⟩ = some (.slice A8.said.a A8.said.n A8.said.c) := (HM8.out.row.cells HM8.out.ok).g36
              clear hw8 hA8
              go_upto_region 13 with (at_builtin; refine L_append_X tB HM8.out.gp.said HW8.out _ _ rfl rfl rfl rfl (by omega) (by unfold maxLen; omega) HM8.out.gp.top ?_; intro a9 c9 w9 role9 ho9 hst9; have hqf := HM8.out.said_at hst9; have r36 := hqf.1; have f36 := hqf.2)
              obtain ⟨hm9, hk9⟩ := HM8.out.said_app ho9 hst9
              obtain ⟨w10, hw10⟩ : ∃ x, w9.setCell ⟨g, 36, none⟩ (.slice a9 (A8.said.n + n1) c9) = x := ⟨_, rfl⟩
              rw [hw10] at hm9 hk9 ⊢
              have hk10 := HK8.out.trans hk9
              have HT10 := Lib.hid (HKT.out.kpt hk10 hR)
              have hR10 := HKT.out.role hk10 hR
              obtain ⟨S10, hS10⟩ : ∃ x : MS, { S8 with said := S8.said ++ whole } = x := ⟨_, rfl⟩
              obtain ⟨A10, hA10⟩ : ∃ x : MA, { A8 with said := ⟨a9, A8.said.n + n1, c9⟩ } = x := ⟨_, rfl⟩
              rw [hS10, hA10] at hm9
              have e10 : S10 = { S with peer := t, came := true, said := S.said ++ whole } := by rw [← hS10, ← hS8]
              have l10 : S10.said.length ≤ 274879000000 := by rw [e10]; simp only [List.length_append]; rw [HWL.out]; omega
              have x10 : S10.o0 = S.o0 ∧ S10.o1 = S.o1 ∧ S10.sec = S.sec ∧ S10.par = S.par ∧ S10.rnd = S.rnd := by rw [e10]; exact ⟨rfl, rfl, rfl, rfl, rfl⟩
              have HM10 := Lib.hid hm9
              have HK10 := Lib.hid hk10
              have HE10 := Lib.hid e10
              have HX10 := Lib.hid x10
              clear hm9 hk9 hk10 hqf r36 f36 ho9 hst9 hw10 q36 HM8 HK8 HW8 HT8 hS8 hS10 hA10 hR8 e10 x10
              have hsay := gsay_0 w10 HM10.out 2 (by decide) (BS_mid HM10.out.row.r_rnd HM10.out.ok.rnd (by omega)) (by omega) (by omega) (by rw [HX10.out.1]; omega)
              have Hsay := Lib.hid hsay
              clear hsay
              go_upto_region 14 with (go_at_call 45; refine Hsay.out.mono ?_; rintro x w11 ⟨rfl, role11, A11, hm11, hk11⟩)
              obtain ⟨S11, hS11⟩ : ∃ x : MS, sayS 0 2 S10.rnd S10 = x := ⟨_, rfl⟩
              rw [hS11] at hm11
              have l11 : S11.said.length ≤ 274879000100 := by rw [← hS11]; simp only [sayS, List.length_append, gmsg_len, HM10.out.ok.rnd]; omega
              have x11 : S11.o1 = S.o1 ∧ S11.sec = S.sec ∧ S11.par = S.par := by rw [← hS11]; exact ⟨HX10.out.2.1, HX10.out.2.2.1, HX10.out.2.2.2.1⟩
              have hk11' := HK10.out.trans hk11
              have HM11 := Lib.hid hm11
              have HK11 := Lib.hid hk11'
              have HT11 := Lib.hid (HKT.out.kpt hk11' hR)
              have hR11 := HKT.out.role hk11' hR
              have HX11 := Lib.hid x11
              have HE11 := Lib.hid hS11
              clear hm11 hk11 hk11' x11 hS11 Hsay HM10 HK10 HT10 hR10
              have hagr := gagree_any w11 HM11.out (by omega) (by rw [HX11.out.2.1]; omega) HT11.out hR11
              have Hagr := Lib.hid hagr
              clear hagr
              go_upto_region 15 with (go_at_call 63; refine Hagr.out.mono ?_; rintro x w12 ⟨rfl, hm12, hk12⟩)
              obtain ⟨S12, hS12⟩ : ∃ x : MS, agreeS S11 = x := ⟨_, rfl⟩
              rw [hS12] at hm12
              have l12 : S12.said.length ≤ 274879000100 := by rw [← hS12]; exact l11
              have x12 : S12.o1 = S.o1 ∧ S12.par = S.par := by rw [← hS12]; exact ⟨HX11.out.1, HX11.out.2.2⟩
              have hk12' := HK11.out.trans hk12
              have HM12 := Lib.hid hm12
              have HK12 := Lib.hid hk12'
              have HT12 := Lib.hid (HKT.out.kpt hk12' hR)
              have hpn12 : A11.par.n ≤ 600 := by have := BS.len hm12.gp.par; rw [x12.2] at this; omega
              have HX12 := Lib.hid x12
              have HE12 := Lib.hid hS12
              have hv12 := vsz_bd A11.par.n
              have q3 : w12.cell? ⟨g, 3, none⟩ = some (.slice A11.par.a A11.par.n A11.par.c) := (hm12.row.cells hm12.ok).g3
              have Htx := Lib.hid (vtext_any w12 hm12.gp.par (by omega))
              clear hm12 hk12 hk12' x12 hS12 Hagr HM11 HK11 HT11 hR11
              go_upto_region 16 with (first
                | (go_at_call 41; refine Htx.out.mono ?_; rintro x w13 ⟨a13, c13, rfl, o13, B13⟩; have hm13 := Lib.hid (HM12.out.below B13); have hsay := Lib.hid (gsay_1 w13 hm13.out 8 (by decide) o13.rs (by omega) (by omega) (by rw [HX12.out.1]; omega)))
                | (go_at_call 45; refine hsay.out.mono ?_; rintro x w14 ⟨rfl, role14, A14, hm14, hk14⟩))
              obtain ⟨S14, hS14⟩ : ∃ x : MS, sayS 1 8 (textS S12.par) S12 = x := ⟨_, rfl⟩
              rw [hS14] at hm14
              have ltx : (textS S12.par).length ≤ 602 := by rw [textS_len, HX12.out.2]; have := vsz_bd S.par.length; omega
              have l14 : S14.said.length ≤ 274879001000 := by rw [← hS14]; simp only [sayS, List.length_append, gmsg_len]; omega
              have x14 : S14.o1.length ≤ 274879001000 := by rw [← hS14]; simp only [sayS]; rw [if_neg (by decide), List.length_append, gmsg_len, HX12.out.1]; omega
              have hk14' := (HK12.out.trans (Below.kpt B13 HM12.out.gp.top)).trans hk14
              have HT14 := Lib.hid (HKT.out.kpt hk14' hR)
              have hOk14 := hm14.ok
              obtain ⟨C, hCe⟩ : ∃ C, S14.k1.s = C := ⟨_, rfl⟩
              have hCl : C.length = 32 := by rw [← hCe]; exact hOk14.k1s
              obtain ⟨F, hFe⟩ : ∃ F, fmF C S14.said = F := ⟨_, rfl⟩
              have hFl : F.length = 32 := by rw [← hFe]; exact fmF_len _ _
              obtain ⟨U, hU⟩ : ∃ U, w14.drew = U := ⟨_, rfl⟩
              have h3 := HT14.out
              have HMU := Lib.hid (show GM U role14 g S14 A14 by rw [← hU]; exact hm14.drew)
              have HPU := Lib.hid (show Kpt w U role role14 by rw [← hU]; exact hk14'.drew)
              have HKU := Lib.hid (show KT U by rw [← hU]; exact h3)
              have hsn14 : A14.said.n ≤ 274879001000 := by rw [HMU.out.gp.said.len]; exact l14
              have Hmac2 := Lib.hid (fun (w' : World) (h : BS w' A14.said.a A14.said.n A14.said.c S14.said) (hk : KT w') => gmac_any w' hCl h (by omega) hk)
              rw [hFe] at Hmac2
              have hra : U.rangeAt g 171 (C.map B) := by have := HMU.out.row.r_k1s hOk14; rw [hCe] at this; exact this
              have HRA := Lib.hid hra
              have qU : U.cell? ⟨g, 36, none⟩ = some (.slice A14.said.a A14.said.n A14.said.c) := (HMU.out.row.cells hOk14).g36
              have lgU : g < U.heap.size := HMU.out.gp.gl
              have c0 : Below U.heap.size U U := Below.refl _ _
              have hiC := len32 hCl
              have hu32 := Tryd.underlying26
              have HCe := Lib.hid hCe
              have HFe := Lib.hid hFe
              have HE14 := Lib.hid hS14
              clear h3 hm14 hk14 hk14' hra hCe hFe hS14 Htx hsay hm13 o13 B13 q3 HM12 HK12 HT12 HT14
              refine wp_region_held_drew (S := fun w' => w'.rangeAt g 171 (C.map B)) (by kernel_rfl) (by rw [hU]; exact HRA.out) (fun hHeld => ?_)
              rw [hU] at hHeld ⊢
              refine wpAnyH_take (i := 0) (v := .pointer (some ⟨g, 0, none⟩)) rfl (by kernel_rfl) (by kernel_rfl) (by kernel_rfl) (fun _ _ _ h => h) (Or.inl ⟨by rfl, fun w h => by go_simp⟩) hHeld ?_
              try simp only [Act.put, List.getElem_toArray, List.getElem_cons_zero, List.setIfInBounds_toArray, List.set_cons_zero, List.set_cons_succ]
              refine wpAnyH_take (i := 1) (v := .pointer (some ⟨g, 0, none⟩)) rfl (by kernel_rfl) (by kernel_rfl) (by kernel_rfl) (fun _ _ _ h => h) (Or.inl ⟨by rfl, fun w h => by go_simp⟩) hHeld ?_
              try simp only [Act.put, List.getElem_toArray, List.getElem_cons_succ, List.getElem_cons_zero, List.setIfInBounds_toArray, List.set_cons_zero, List.set_cons_succ]
              refine wpAnyH_take (i := 2) (v := .pointer (some ⟨g, 0, none⟩)) rfl (by kernel_rfl) (by kernel_rfl) (by kernel_rfl) (fun _ _ _ h => h) (Or.inl ⟨by rfl, fun w h => by go_simp⟩) hHeld ?_
              try simp only [Act.put, List.getElem_toArray, List.getElem_cons_succ, List.getElem_cons_zero, List.setIfInBounds_toArray, List.set_cons_zero, List.set_cons_succ]
              refine wpAnyH_take (i := 3) (v := .pointer (some ⟨g, 74, none⟩)) rfl (by kernel_rfl) (by kernel_rfl) (by kernel_rfl) (fun _ _ _ h => h) (Or.inl ⟨by rfl, fun w h => by go_simp⟩) hHeld ?_
              try simp only [Act.put, List.getElem_toArray, List.getElem_cons_succ, List.getElem_cons_zero, List.setIfInBounds_toArray, List.set_cons_zero, List.set_cons_succ]
              refine wpAnyH_take (i := 4) (v := .pointer (some ⟨g, 139, none⟩)) rfl (by kernel_rfl) (by kernel_rfl) (by kernel_rfl) (fun _ _ _ h => h) (Or.inl ⟨by rfl, fun w h => by go_simp⟩) hHeld ?_
              try simp only [Act.put, List.getElem_toArray, List.getElem_cons_succ, List.getElem_cons_zero, List.setIfInBounds_toArray, List.set_cons_zero, List.set_cons_succ]
              refine wpAnyH_take (i := 5) (v := .pointer (some ⟨g, 171, none⟩)) rfl (by kernel_rfl) (by kernel_rfl) (by kernel_rfl) (fun _ _ _ h => h) (Or.inl ⟨by rfl, fun w h => by go_simp⟩) hHeld ?_
              try simp only [Act.put, List.getElem_toArray, List.getElem_cons_succ, List.getElem_cons_zero, List.setIfInBounds_toArray, List.set_cons_zero, List.set_cons_succ]
              refine wpAnyH_take (i := 6) rfl (by kernel_rfl) (by kernel_rfl) (by kernel_rfl) (fun _ _ _ h => h) (yieldsIf_load_mid (by rfl) _ _ rfl _ _ rfl _ _ (fun w h => h) hu32 rfl hiC) hHeld ?_
              try simp only [Act.put, List.getElem_toArray, List.getElem_cons_succ, List.getElem_cons_zero, List.setIfInBounds_toArray, List.set_cons_zero, List.set_cons_succ]
              refine wpAnyH_take (i := 7) (v := .pointer (some ⟨g, 0, none⟩)) rfl (by kernel_rfl) (by kernel_rfl) (by kernel_rfl) (fun _ _ _ h => h) (Or.inl ⟨by rfl, fun w h => by go_simp⟩) hHeld ?_
              try simp only [Act.put, List.getElem_toArray, List.getElem_cons_succ, List.getElem_cons_zero, List.setIfInBounds_toArray, List.set_cons_zero, List.set_cons_succ]
              refine wpAnyH_take (i := 8) (v := .pointer (some ⟨g, 0, none⟩)) rfl (by kernel_rfl) (by kernel_rfl) (by kernel_rfl) (fun _ _ _ h => h) (Or.inl ⟨by rfl, fun w h => by go_simp⟩) hHeld ?_
              try simp only [Act.put, List.getElem_toArray, List.getElem_cons_succ, List.getElem_cons_zero, List.setIfInBounds_toArray, List.set_cons_zero, List.set_cons_succ]
              refine wpAnyH_take (i := 9) (v := .pointer (some ⟨g, 36, none⟩)) rfl (by kernel_rfl) (by kernel_rfl) (by kernel_rfl) (fun _ _ _ h => h) (Or.inl ⟨by rfl, fun w h => by go_simp⟩) hHeld ?_
              try simp only [Act.put, List.getElem_toArray, List.getElem_cons_succ, List.getElem_cons_zero, List.setIfInBounds_toArray, List.set_cons_zero, List.set_cons_succ]
              refine wpAnyH_ready (rs := [10]) (by kernel_rfl) (by simp) (AllReadyH.cons rfl (fun K hK => ?_) AllReadyH.nil)
              go_simp
              refine hK.out _ _ ((rng_bel HRA.out c0 lgU)) (fun hHeld => ?_)
              clear hK K
              try simp only [Act.put, List.getElem_toArray, List.getElem_cons_succ, List.getElem_cons_zero, List.setIfInBounds_toArray, List.set_cons_zero, List.set_cons_succ]
              refine wpAnyH_ready (rs := [11]) (by kernel_rfl) (by simp) (AllReadyH.cons rfl (fun K hK => ?_) AllReadyH.nil)
              go_simp
              go_at_call 58
              refine ((Hmac2.out U (RS.below HMU.out.gp.said.rs c0 (Nat.le_refl _)) (HKU.out.below c0 (Nat.le_refl _)))).mono ?_
              rintro x vc3 ⟨gm2, rfl, hMm2, hgm2, Bc5⟩
              have bc4 := c0.trans (Bc5.mono c0.size)
              have hc6 : AB vc3 gm2 26 F := hMm2
              refine hK.out _ _ ((rng_bel HRA.out bc4 lgU)) (fun hHeld => ?_)
              clear hK K
              try simp only [Act.put, List.getElem_toArray, List.getElem_cons_succ, List.getElem_cons_zero, List.setIfInBounds_toArray, List.set_cons_zero, List.set_cons_succ]
              refine wpAnyH_ready (rs := [12]) (by kernel_rfl) (by simp) (AllReadyH.cons rfl (fun K hK => ?_) AllReadyH.nil)
              go_simp
              go_at_call 45
              have hm8 := HMU.out.kept bc4.size (fun k hk _ => bc4.block k hk)
              refine (gsay_1 _ hm8 20 (by decide) (hc6.bs32 hFl) (by omega) (by omega) (by omega)).mono ?_
              rintro x vc7 ⟨rfl, role9, A9, hm9, hk8⟩
              have hk9 := (HPU.out.trans (Below.kpt bc4 HMU.out.gp.top)).trans hk8
              have bc8 := bc4
              refine hK.out _ _ (by have h := hm9.row.r_k1s hm9.ok; rw [show (sayS 1 20 F S14).k1.s = C from HCe.out] at h; exact h) (fun hHeld => ?_)
              clear hK K hm8 hk8
              try simp only [Act.put, List.getElem_toArray, List.getElem_cons_succ, List.getElem_cons_zero, List.setIfInBounds_toArray, List.set_cons_zero, List.set_cons_succ]
              refine wpAnyH_done (by kernel_rfl) ?_ _
              try simp only [Act.put, List.getElem_toArray, List.getElem_cons_succ, List.getElem_cons_zero]
              have HM15 := Lib.hid hm9
              have HK15 := Lib.hid hk9
              have HT15 := Lib.hid (HKT.out.kpt hk9 hR)
              have l15 : (sayS 1 20 F S14).said.length ≤ 274879002000 := by simp only [sayS, List.length_append, gmsg_len]; omega
              have hpa := gpart_any _ hm9 (by omega) HT15.out
              have Hpa := Lib.hid hpa
              clear hm9 hk9 hpa hHeld HMU HPU HKU HRA qU
              go_wp2_with (go_at_call 73; refine Hpa.out.mono ?_; rintro x w16 ⟨rfl, hm16, hk16⟩)
              go_ret
              have hfin : helR S whole t = partS (sayS 1 20 F S14) := by
                unfold helR
                dsimp only
                rw [← HE10.out, ← HX10.out.2.2.2.2, HE11.out, HE12.out, HE14.out, HCe.out, HFe.out]
              refine ⟨by rw [HFS.out]; rfl, ?_⟩
              rw [HFS.out]
              dsimp only
              rw [hfin]
              exact ⟨role9, A9, hm16, HK15.out.trans hk16⟩
            · have hfs := HFS0.out
              rw [if_pos hbn] at hfs
              have HFS := Lib.hid hfs
              have hbb : (r2 == bi) = false := by simpa using hbn
              have HBB := Lib.hid hbb
              clear hfs HFS0 hbn hbb
              go_wp2_with (first
                | (go_at_call 46; refine Hbd.out.mono ?_; rintro x w5 ⟨gm, rfl, hG5, hgm, B5⟩; have hsm := Lib.hid (rsameb_any w5 (RS.below HO7.out.rs B5 (Nat.le_refl _)) (hG5.bs32 hbil)))
                | (go_at_call 72; refine hsm.out.mono ?_; rw [HBB.out]; rintro x w6 ⟨rfl, B6⟩))
              go_ret
              have b36 := B5.trans (B6.mono B5.size)
              refine ⟨by rw [HFS.out]; rfl, ?_⟩
              rw [HFS.out]
              exact ⟨role, A, HM3.out.below b36, HK3.out.trans (Below.kpt b36 HM3.out.gp.top)⟩
          · rw [if_pos hid] at hfs
            rw [show (id == S.id) = false by simpa using hid] at heq
            have Heq := Lib.hid heq
            have HFS := Lib.hid hfs
            clear heq hid hfs
            go_wp2_with (go_at_call 71; refine Heq.out.mono ?_; rintro x w4 ⟨rfl, rfl⟩)
            go_ret
            refine ⟨by rw [HFS.out]; rfl, ?_⟩
            rw [HFS.out]
            exact ⟨role, A, HM3.out, HK3.out⟩
        · rw [if_pos h32] at hfs
          have HFS := Lib.hid hfs
          have h32' : ¬ ((l2 : Int) = 32) := by omega
          clear hfs
          go_wp2
          go_ret
          refine ⟨by rw [HFS.out]; rfl, ?_⟩
          rw [HFS.out]
          exact ⟨role, A, HM3.out, HK3.out⟩
end Go.Proofs.YtkhcpnmbhbhcgaaDoor

/- (*greet.Machine).take. -/
set_option maxRecDepth 100000
set_option linter.unusedVariables false
namespace Go.Proofs.YtkhcpnmbhbhcgaaDoor
open Go.RowKit Go.Joins
noncomputable def termS (S : MS) (whole p : List UInt8) : MS × Nat :=
  match ttS p 512 with
  | none => (S, 306)
  | some (t, r) => if 0 < r.length then (S, 306) else ({ S with peer := t, came := true, said := S.said ++ whole }, 0)
/-- a message is taken -/
noncomputable def takeM (S : MS) (kind : Nat) (whole p : List UInt8) : MS × Nat :=
  if kind = 1 then helS S whole p else
  if kind = 2 then (if p.length ≠ 32 then (S, 306) else (agreeS { S with said := S.said ++ whole }, 0)) else
  if kind = 8 then termS S whole p else finS S whole p
theorem gtake_1 (w : World) {role : Nat → Nat} {g : Nat} {S : MS} {A : MA} (hM : GM w role g S A) {a1 a2 : Option Addr} {n1 c1 n2 c2 : Nat} {whole p : List UInt8} (hw : BS w a1 n1 c1 whole) (hp : BS w a2 n2 c2 p) (hwp : n1 = 4 + n2) (hwg : ∀ ad, a1 = some ad → ad.block ≠ g) (hn : n1 ≤ 1000000)
    (hs : S.said.length ≤ 274877906944) (ho0 : S.o0.length ≤ 274877906944) (ho1 : S.o1.length ≤ 274877906944) (hc : S.sec.length ≤ 274877906944) (hpar : S.par.length ≤ 600) (hK : KT w) (hR : role 3 = 0) :
    Calls Tryd.prog 47 #[.pointer (some ⟨g, 0, none⟩), .int .u8 1, .slice a1 n1 c1, .slice a2 n2 c2] w fun e w' => e = .returned (.int .u64 ((takeM S 1 whole p).2 : Int)) ∧ ∃ role' A', GM w' role' g (takeM S 1 whole p).1 A' ∧ Kpt w w' role role'  := by
  have hh := ghel_any w hM hw hp hwp hwg hn hs ho0 ho1 hc hpar hK hR
  rw [show helS S whole p = takeM S 1 whole p by unfold takeM; rw [if_pos rfl]] at hh
  have H := Lib.hid hh
  clear hh hM hw hp hwp hwg hK
  go_enter Tryd.func47, Tryd.ntmps47
  go_wp2_with (go_at_call 62; refine H.out.mono ?_; rintro x w2 ⟨rfl, h2⟩)
  go_ret
  exact ⟨rfl, h2⟩
theorem gtake_f (w : World) {role : Nat → Nat} {g : Nat} {S : MS} {A : MA} (hM : GM w role g S A) {a1 a2 : Option Addr} {n1 c1 n2 c2 : Nat} {whole p : List UInt8} (hw : BS w a1 n1 c1 whole) (hp : BS w a2 n2 c2 p) (hwp : n1 = 4 + n2) (hwg : ∀ ad, a1 = some ad → ad.block ≠ g) (hn : n1 ≤ 1000000)
    (hs : S.said.length ≤ 274877906944) (ho0 : S.o0.length ≤ 274877906944) (ho1 : S.o1.length ≤ 274877906944) (hc : S.sec.length ≤ 274877906944) (hpar : S.par.length ≤ 600) (hK : KT w) (hR : role 3 = 0) (kind : Nat) (hk : kind < 256) (k1 : kind ≠ 1) (k2 : kind ≠ 2) (k8 : kind ≠ 8) :
    Calls Tryd.prog 47 #[.pointer (some ⟨g, 0, none⟩), .int .u8 (kind : Int), .slice a1 n1 c1, .slice a2 n2 c2] w fun e w' => e = .returned (.int .u64 ((takeM S kind whole p).2 : Int)) ∧ ∃ role' A', GM w' role' g (takeM S kind whole p).1 A' ∧ Kpt w w' role role'  := by
  have hh : Calls Tryd.prog 64 #[.pointer (some ⟨g, 0, none⟩), .slice a1 n1 c1, .slice a2 n2 c2] w fun e w' => e = .returned (.int .u64 ((finS S whole p).2 : Int)) ∧ ∃ role' A', GM w' role' g (finS S whole p).1 A' ∧ Kpt w w' role role' := by
    cases hsv : S.server with
    | true => exact gfin_true w hM hsv hw hp hn hs ho1 hK hR
    | false => exact gfin_false w hM hsv hw hp hn hs ho1 hK hR
  rw [show finS S whole p = takeM S kind whole p by unfold takeM; rw [if_neg k1, if_neg k2, if_neg k8]] at hh
  have H := Lib.hid hh
  have d1 : ¬ ((kind : Int) = 1) := by omega
  have d2 : ¬ ((kind : Int) = 2) := by omega
  have d8 : ¬ ((kind : Int) = 8) := by omega
  clear hh hM hw hp hwp hwg hK k1 k2 k8
  go_enter Tryd.func47, Tryd.ntmps47
  go_wp2_with (go_at_call 64; refine H.out.mono ?_; rintro x w2 ⟨rfl, h2⟩)
  go_ret
  exact ⟨rfl, h2⟩
set_option maxHeartbeats 2000000 in
theorem gtake_2 (w : World) {role : Nat → Nat} {g : Nat} {S : MS} {A : MA} (hM : GM w role g S A) {a1 a2 : Option Addr} {n1 c1 n2 c2 : Nat} {whole p : List UInt8} (hw : BS w a1 n1 c1 whole) (hp : BS w a2 n2 c2 p) (hwp : n1 = 4 + n2) (hwg : ∀ ad, a1 = some ad → ad.block ≠ g) (hn : n1 ≤ 1000000)
    (hs : S.said.length ≤ 274877906944) (ho0 : S.o0.length ≤ 274877906944) (ho1 : S.o1.length ≤ 274877906944) (hc : S.sec.length ≤ 274877906944) (hpar : S.par.length ≤ 600) (hK : KT w) (hR : role 3 = 0) :
    Calls Tryd.prog 47 #[.pointer (some ⟨g, 0, none⟩), .int .u8 2, .slice a1 n1 c1, .slice a2 n2 c2] w fun e w' => e = .returned (.int .u64 ((takeM S 2 whole p).2 : Int)) ∧ ∃ role' A', GM w' role' g (takeM S 2 whole p).1 A' ∧ Kpt w w' role role'  := by
  have hpl := BS.len hp
  have HM := Lib.hid hM
  have HK := Lib.hid hK
  have HW := Lib.hid hw
  have hfs : takeM S 2 whole p = if p.length ≠ 32 then (S, 306) else (agreeS { S with said := S.said ++ whole }, 0) := by unfold takeM; rw [if_neg (by decide), if_pos rfl]
  by_cases h32 : n2 = 32
  · rw [if_neg (by omega)] at hfs
    have HFS := Lib.hid hfs
    have hwl := BS.len hw
    have hsn : A.said.n ≤ 274877906944 := by have := hM.gp.said.len; omega
    have q36 : w.cell? ⟨g, 36, none⟩ = some (.slice A.said.a A.said.n A.said.c) := (hM.row.cells hM.ok).g36
    obtain ⟨S6, hS6⟩ : ∃ x : MS, { S with said := S.said ++ whole } = x := ⟨_, rfl⟩
    have hl6 : S6.said.length ≤ 274879000000 := by rw [← hS6]; simp only [List.length_append]; omega
    have hc6 : S6.sec.length ≤ 274877906944 := by rw [← hS6]; exact hc
    have HS6 := Lib.hid hS6
    subst h32
    clear hfs hM hK hw hp hwl hpl hS6 hwp
    go_enter Tryd.func47, Tryd.ntmps47
    go_upto_region 9 with (at_builtin; refine L_append_X tB HM.out.gp.said HW.out _ _ rfl rfl rfl rfl (by omega) (by unfold maxLen; omega) HM.out.gp.top ?_; intro a5 c5 w5 role5 ho5 hst5; have hqf := HM.out.said_at hst5; have r36 := hqf.1; have f36 := hqf.2)
    obtain ⟨hm6, hk6⟩ := HM.out.said_app ho5 hst5
    obtain ⟨w6, hw6⟩ : ∃ x, w5.setCell ⟨g, 36, none⟩ (.slice a5 (A.said.n + n1) c5) = x := ⟨_, rfl⟩
    rw [hw6] at hm6 hk6 ⊢
    rw [HS6.out] at hm6
    have hag := gagree_any w6 hm6 (by omega) (by omega) (HK.out.kpt hk6 hR) (HK.out.role hk6 hR)
    have Hag := Lib.hid hag
    have HK6 := Lib.hid hk6
    clear hag hm6 hk6 hqf r36 f36 ho5 hst5 hw6 q36
    go_wp2_with (go_at_call 63; refine Hag.out.mono ?_; rintro x w7 ⟨rfl, hm7, hk7⟩)
    go_ret
    refine ⟨by rw [HFS.out]; rfl, ?_⟩
    rw [HFS.out, HS6.out]
    exact ⟨role5, _, hm7, HK6.out.trans hk7⟩
  · rw [if_pos (by omega)] at hfs
    have HFS := Lib.hid hfs
    have h32' : ¬ ((n2 : Int) = 32) := by omega
    have HK0 := Lib.hid (Kpt.refl w role hM.gp.top)
    clear hfs hM hK hw hp hpl hwp
    go_enter Tryd.func47, Tryd.ntmps47
    go_wp2
    go_ret
    refine ⟨by rw [HFS.out]; rfl, ?_⟩
    rw [HFS.out]
    exact ⟨role, A, HM.out, HK0.out⟩
set_option maxHeartbeats 2000000 in
theorem gtake_8 (w : World) {role : Nat → Nat} {g : Nat} {S : MS} {A : MA} (hM : GM w role g S A) {a1 a2 : Option Addr} {n1 c1 n2 c2 : Nat} {whole p : List UInt8} (hw : BS w a1 n1 c1 whole) (hp : BS w a2 n2 c2 p) (hwp : n1 = 4 + n2) (hwg : ∀ ad, a1 = some ad → ad.block ≠ g) (hn : n1 ≤ 1000000)
    (hs : S.said.length ≤ 274877906944) (ho0 : S.o0.length ≤ 274877906944) (ho1 : S.o1.length ≤ 274877906944) (hc : S.sec.length ≤ 274877906944) (hpar : S.par.length ≤ 600) (hK : KT w) (hR : role 3 = 0) :
    Calls Tryd.prog 47 #[.pointer (some ⟨g, 0, none⟩), .int .u8 8, .slice a1 n1 c1, .slice a2 n2 c2] w fun e w' => e = .returned (.int .u64 ((takeM S 8 whole p).2 : Int)) ∧ ∃ role' A', GM w' role' g (takeM S 8 whole p).1 A' ∧ Kpt w w' role role'  := by
  have hpl := BS.len hp
  have HM := Lib.hid hM
  have HK := Lib.hid hK
  have HW := Lib.hid hw
  have T := vttext_any w hp (by omega) 512 (by omega)
  have hfs : takeM S 8 whole p = termS S whole p := by unfold takeM; rw [if_neg (by decide), if_neg (by decide), if_pos rfl]
  unfold TTPost at T
  unfold termS at hfs
  cases hT : ttS p 512 with
  | none =>
    rw [hT] at T hfs
    dsimp only at T hfs
    have H := Lib.hid T
    have HFS := Lib.hid hfs
    clear T hfs hT hM hK hw hp hpl hwp
    go_enter Tryd.func47, Tryd.ntmps47
    go_upto_region 12 with (go_at_call 36; refine H.out.mono ?_; rintro x w2 ⟨k, hk0, rfl, B2⟩)
    have hkb : (k != 0) = true := by simpa using hk0
    have HB2 := Lib.hid B2
    clear B2
    go_wp2
    go_ret
    refine ⟨by rw [HFS.out]; rfl, ?_⟩
    rw [HFS.out]
    exact ⟨role, A, HM.out.below HB2.out, Below.kpt HB2.out HM.out.gp.top⟩
  | some tr =>
    obtain ⟨t, r⟩ := tr
    rw [hT] at T hfs
    dsimp only at T hfs
    obtain ⟨lt, hlt⟩ : ∃ x, t.length = x := ⟨_, rfl⟩
    obtain ⟨lr, hlr⟩ : ∃ x, r.length = x := ⟨_, rfl⟩
    rw [hlt, hlr] at T
    rw [hlr] at hfs
    have H := Lib.hid T
    have hwl := Lib.hid (BS.len hw)
    clear T hT hM hK hw hp hpl hwp hlt hlr
    by_cases h0 : 0 < lr
    · rw [if_pos h0] at hfs
      have HFS := Lib.hid hfs
      have h0' : 0 < (lr : Int) := by omega
      clear hfs
      go_enter Tryd.func47, Tryd.ntmps47
      go_upto_region 12 with (go_at_call 36; refine H.out.mono ?_; rintro x w2 ⟨a3, c3, a4, c4, rfl, o3, o4, B2⟩)
      have HB2 := Lib.hid B2
      clear B2 o3 o4
      go_wp2
      go_ret
      refine ⟨by rw [HFS.out]; rfl, ?_⟩
      rw [HFS.out]
      exact ⟨role, A, HM.out.below HB2.out, Below.kpt HB2.out HM.out.gp.top⟩
    · rw [if_neg h0] at hfs
      have HFS := Lib.hid hfs
      obtain rfl : lr = 0 := by omega
      clear hfs h0
      go_enter Tryd.func47, Tryd.ntmps47
      go_upto_region 12 with (go_at_call 36; refine H.out.mono ?_; rintro x w6 ⟨a6, c6, a4, c4, rfl, ho6, o4, b6⟩)
      have hO3 := HM.out.ok
      have hm6 := HM.out.below b6
      have hw6 := RS.below HW.out b6 (Nat.le_refl _)
      have u269 : w6.cell? ⟨g, 269, none⟩ = some (.slice A.pe.a A.pe.n A.pe.c) := (hm6.row.cells hO3).g269
      have u270 : w6.cell? ⟨g, 270, none⟩ = some (.bool S.came) := (hm6.row.cells hO3).g270
      have f269 := hm6.row.fr 269
      have f270 := hm6.row.fr 270
      obtain ⟨role7, hm7, hk7, -⟩ := hm6.set_pe ho6 HM.out.gp.top (Below.kpt b6 HM.out.gp.top) (Nat.le_refl _)
      obtain ⟨hm8, hk8⟩ := hm7.set_came true
      have hk8 := hk7.trans hk8
      have hw8 : BS ((w6.setCell ⟨g, 269, none⟩ (.slice a6 lt c6)).setCell ⟨g, 270, none⟩ (.bool true)) a1 n1 c1 whole :=
        RS.grown (RS.grown hw6 (grownBy_setCell w6 ⟨g, 269, none⟩ (.slice a6 lt c6)) (fun ad ha he => hwg ad ha (by simpa using he))) (grownBy_setCell _ ⟨g, 270, none⟩ (.bool true)) (fun ad ha he => hwg ad ha (by simpa using he))
      have HM8 := Lib.hid hm8
      have HK8 := Lib.hid hk8
      have HW8 := Lib.hid hw8
      clear hm6 ho6 hw6 hm7 hk7 hm8 hk8 hw8 b6 o4 H
      go_upto_region 15 with (fail)
      clear u269 u270 f269 f270
      obtain ⟨w8, hw8⟩ : ∃ x, (w6.setCell ⟨g, 269, none⟩ (.slice a6 lt c6)).setCell ⟨g, 270, none⟩ (.bool true) = x := ⟨_, rfl⟩
      rw [hw8] at HM8 HK8 HW8 ⊢
      obtain ⟨S8, hS8⟩ : ∃ x : MS, ({ ({ S with peer := t } : MS) with came := true } : MS) = x := ⟨_, rfl⟩
      obtain ⟨A8, hA8⟩ : ∃ x : MA, { A with pe := ⟨a6, lt, c6⟩ } = x := ⟨_, rfl⟩
      rw [hS8, hA8] at HM8
      have hsn8 : A8.said.n ≤ 274877906944 := by rw [HM8.out.gp.said.len, ← hS8]; exact hs
      have q36 : w8.cell? ⟨g, 36, none⟩ = some (.slice A8.said.a A8.said.n A8.said.c) := (HM8.out.row.cells HM8.out.ok).g36
      have HE8 := Lib.hid hS8
      clear hw8 hA8 hS8
      go_upto_region 16 with (at_builtin; refine L_append_X tB HM8.out.gp.said HW8.out _ _ rfl rfl rfl rfl (by omega) (by unfold maxLen; omega) HM8.out.gp.top ?_; intro a9 c9 w9 role9 ho9 hst9; have hqf := HM8.out.said_at hst9; have r36 := hqf.1; have f36 := hqf.2)
      obtain ⟨hm9, hk9⟩ := HM8.out.said_app ho9 hst9
      have HM9 := Lib.hid hm9
      have HK9 := Lib.hid (HK8.out.trans hk9)
      clear hm9 hk9 hqf r36 f36 ho9 hst9 q36
      go_wp2
      go_ret
      have hfin : ({ S with peer := t, came := true, said := S.said ++ whole } : MS) = { S8 with said := S8.said ++ whole } := by rw [← HE8.out]
      refine ⟨by rw [HFS.out]; rfl, ?_⟩
      rw [HFS.out]
      dsimp only
      rw [hfin]
      exact ⟨role9, ⟨_, HM9.out⟩, HK9.out⟩
theorem gtake_any (w : World) {role : Nat → Nat} {g : Nat} {S : MS} {A : MA} (hM : GM w role g S A) {a1 a2 : Option Addr} {n1 c1 n2 c2 : Nat} {whole p : List UInt8} (hw : BS w a1 n1 c1 whole) (hp : BS w a2 n2 c2 p) (hwp : n1 = 4 + n2) (hwg : ∀ ad, a1 = some ad → ad.block ≠ g) (hn : n1 ≤ 1000000)
    (hs : S.said.length ≤ 274877906944) (ho0 : S.o0.length ≤ 274877906944) (ho1 : S.o1.length ≤ 274877906944) (hc : S.sec.length ≤ 274877906944) (hpar : S.par.length ≤ 600) (hK : KT w) (hR : role 3 = 0) (kind : Nat) (hk : kind < 256) :
    Calls Tryd.prog 47 #[.pointer (some ⟨g, 0, none⟩), .int .u8 (kind : Int), .slice a1 n1 c1, .slice a2 n2 c2] w fun e w' => e = .returned (.int .u64 ((takeM S kind whole p).2 : Int)) ∧ ∃ role' A', GM w' role' g (takeM S kind whole p).1 A' ∧ Kpt w w' role role'  := by
  by_cases k1 : kind = 1
  · subst k1; exact gtake_1 w hM hw hp hwp hwg hn hs ho0 ho1 hc hpar hK hR
  · by_cases k2 : kind = 2
    · subst k2; exact gtake_2 w hM hw hp hwp hwg hn hs ho0 ho1 hc hpar hK hR
    · by_cases k8 : kind = 8
      · subst k8; exact gtake_8 w hM hw hp hwp hwg hn hs ho0 ho1 hc hpar hK hR
      · exact gtake_f w hM hw hp hwp hwg hn hs ho0 ho1 hc hpar hK hR kind hk k1 k2 k8
end Go.Proofs.YtkhcpnmbhbhcgaaDoor

/- greet.Machine: what a message leaves, how far it grows; the messages that are whole, read one by one (plain). -/
set_option maxRecDepth 100000
set_option linter.unusedVariables false
namespace Go.Proofs.YtkhcpnmbhbhcgaaDoor
open Go.RowKit Go.Joins
/-- what stays, and how far what is said grows -/
structure Gr (S S' : MS) (n : Nat) : Prop where
  server : S'.server = S.server
  rnd : S'.rnd = S.rnd
  id : S'.id = S.id
  sec : S'.sec = S.sec
  par : S'.par = S.par
  nx : S'.nx = S.nx
  i0 : S'.i0 = S.i0
  i1 : S'.i1 = S.i1
  wrong : S'.wrong = S.wrong
  said : S'.said.length ≤ S.said.length + n
  o0 : S'.o0.length ≤ S.o0.length + n
  o1 : S'.o1.length ≤ S.o1.length + n
theorem Gr.refl (S : MS) (n : Nat) : Gr S S n := ⟨rfl, rfl, rfl, rfl, rfl, rfl, rfl, rfl, rfl, by omega, by omega, by omega⟩
theorem Gr.trans {S S1 S2 : MS} {n m : Nat} (h : Gr S S1 n) (k : Gr S1 S2 m) : Gr S S2 (n + m) :=
  ⟨k.server.trans h.server, k.rnd.trans h.rnd, k.id.trans h.id, k.sec.trans h.sec, k.par.trans h.par, k.nx.trans h.nx, k.i0.trans h.i0, k.i1.trans h.i1, k.wrong.trans h.wrong,
   by have := h.said; have := k.said; omega, by have := h.o0; have := k.o0; omega, by have := h.o1; have := k.o1; omega⟩
theorem Gr.mono {S S' : MS} {n m : Nat} (h : Gr S S' n) (hm : n ≤ m) : Gr S S' m :=
  ⟨h.server, h.rnd, h.id, h.sec, h.par, h.nx, h.i0, h.i1, h.wrong, by have := h.said; omega, by have := h.o0; omega, by have := h.o1; omega⟩
theorem Gr.app (S : MS) (x : List UInt8) : Gr S { S with said := S.said ++ x } x.length := ⟨rfl, rfl, rfl, rfl, rfl, rfl, rfl, rfl, rfl, by simp, by simp, by simp⟩
theorem Gr.say (lv k : Nat) (p : List UInt8) (S : MS) : Gr S (sayS lv k p S) (4 + p.length) := by
  refine ⟨rfl, rfl, rfl, rfl, rfl, rfl, rfl, rfl, rfl, ?_, ?_, ?_⟩
  · simp only [sayS, List.length_append, gmsg_len]; omega
  · simp only [sayS]; split
    · rw [List.length_append, gmsg_len]; omega
    · omega
  · simp only [sayS]; split
    · omega
    · rw [List.length_append, gmsg_len]; omega
theorem Gr.agree (S : MS) : Gr S (agreeS S) 0 := ⟨rfl, rfl, rfl, rfl, rfl, rfl, rfl, rfl, rfl, Nat.le_refl _, Nat.le_refl _, Nat.le_refl _⟩
theorem Gr.part (S : MS) : Gr S (partS S) 0 := ⟨rfl, rfl, rfl, rfl, rfl, rfl, rfl, rfl, rfl, Nat.le_refl _, Nat.le_refl _, Nat.le_refl _⟩
theorem Gr.fin (S : MS) (whole p : List UInt8) : Gr S (finS S whole p).1 (whole.length + 36) := by
  unfold finS
  by_cases c1 : p.length ≠ 32
  · rw [if_pos c1]; exact Gr.refl _ _
  · rw [if_neg c1]
    by_cases c2 : p ≠ fmF (if S.server then S.k1.c else S.k1.s) S.said
    · rw [if_pos c2]; exact Gr.refl _ _
    · rw [if_neg c2]
      have h1 := Gr.app S whole
      have key : ∀ X : MS, Gr S X (whole.length + 36) → Gr S ({ X with done := true } : MS) (whole.length + 36) := fun X h => ⟨h.server, h.rnd, h.id, h.sec, h.par, h.nx, h.i0, h.i1, h.wrong, h.said, h.o0, h.o1⟩
      refine key _ ?_
      by_cases hsv : S.server = true
      · rw [if_pos hsv]; exact Gr.mono h1 (Nat.le_add_right _ _)
      · rw [if_neg hsv]
        have h2 := h1.trans (Gr.part { S with said := S.said ++ whole })
        have h3 := h2.trans (Gr.say 1 20 (fmF (partS { S with said := S.said ++ whole }).k1.c (partS { S with said := S.said ++ whole }).said) (partS { S with said := S.said ++ whole }))
        have h4 := fmF_len (partS { S with said := S.said ++ whole }).k1.c (partS { S with said := S.said ++ whole }).said
        refine Gr.mono h3 ?_
        rw [h4]
        omega
theorem Gr.term (S : MS) (whole p : List UInt8) : Gr S (termS S whole p).1 whole.length := by
  unfold termS
  split
  · exact Gr.refl _ _
  · split
    · exact Gr.refl _ _
    · exact ⟨rfl, rfl, rfl, rfl, rfl, rfl, rfl, rfl, rfl, by simp, by simp, by simp⟩
theorem Gr.hel (S : MS) (hr : S.rnd.length = 32) (hp : S.par.length ≤ 600) (whole p : List UInt8) : Gr S (helS S whole p).1 (whole.length + 800) := by
  have hR : ∀ t, Gr S (helR S whole t) (whole.length + 800) := by
    intro t
    unfold helR
    dsimp only
    obtain ⟨S0, h0⟩ : ∃ x : MS, { S with peer := t, came := true, said := S.said ++ whole } = x := ⟨_, rfl⟩
    have g0 : Gr S S0 whole.length := by rw [← h0]; exact ⟨rfl, rfl, rfl, rfl, rfl, rfl, rfl, rfl, rfl, by simp, by simp, by simp⟩
    have g1 := g0.trans (Gr.say 0 2 S.rnd S0)
    have g2 := g1.trans (Gr.agree (sayS 0 2 S.rnd S0))
    rw [h0]
    obtain ⟨S3, h3⟩ : ∃ x : MS, agreeS (sayS 0 2 S.rnd S0) = x := ⟨_, rfl⟩
    rw [h3] at g2 ⊢
    have g4 := g2.trans (Gr.say 1 8 (textS S3.par) S3)
    obtain ⟨S4, h4⟩ : ∃ x : MS, sayS 1 8 (textS S3.par) S3 = x := ⟨_, rfl⟩
    rw [h4] at g4 ⊢
    have g5 := g4.trans (Gr.say 1 20 (fmF S4.k1.s S4.said) S4)
    have g6 := g5.trans (Gr.part (sayS 1 20 (fmF S4.k1.s S4.said) S4))
    refine g6.mono ?_
    rw [hr, textS_len, fmF_len, g2.par]
    have := vsz_bd S.par.length
    omega
  unfold helS
  split
  · exact Gr.refl _ _
  · split
    · exact Gr.refl _ _
    · unfold helU
      split
      · exact Gr.refl _ _
      · unfold helT
        split
        · exact Gr.refl _ _
        · split
          · exact Gr.refl _ _
          · split
            · exact Gr.refl _ _
            · exact hR _
theorem Gr.take (S : MS) (hr : S.rnd.length = 32) (hp : S.par.length ≤ 600) (kind : Nat) (whole p : List UInt8) : Gr S (takeM S kind whole p).1 (whole.length + 800) := by
  unfold takeM
  split
  · exact Gr.hel S hr hp whole p
  · split
    · split
      · exact Gr.refl _ _
      · exact ((Gr.app S whole).trans (Gr.agree _)).mono (by omega)
    · split
      · exact (Gr.term S whole p).mono (by omega)
      · exact (Gr.fin S whole p).mono (by omega)
/-- what waits to be read at a level -/
def inS (lv : Nat) (S : MS) : List UInt8 := if lv = 0 then S.i0 else S.i1
def cutI (lv n : Nat) (S : MS) : MS := { S with i0 := if lv = 0 then S.i0.drop n else S.i0, i1 := if lv = 0 then S.i1 else S.i1.drop n }
/-- the length that a message tells -/
def lenG (b : List UInt8) : Nat := (b.getD 1 0).toNat * 65536 + (b.getD 2 0).toNat * 256 + (b.getD 3 0).toNat
def len2 (b : List UInt8) : Nat := 4 + ((b.getD 2 0).toNat * 256 + (b.getD 3 0).toNat)
/-- messages that are whole are taken, one by one -/
noncomputable def readM (lv : Nat) : Nat → MS → MS
  | 0, S => S
  | f + 1, S =>
    if S.wrong ≠ 0 ∨ inS lv S = [] then S else
    if 4 ≤ (inS lv S).length ∧ 1024 < lenG (inS lv S) then { S with wrong := 306 } else
    match S.nx with
    | [] => { S with wrong := 266 }
    | x :: nx => 
      if x ≠ (((inS lv S).getD 0 0).toNat, lv) then { S with wrong := 266 } else
      if (inS lv S).length < 4 then S else
      if (inS lv S).length < len2 (inS lv S) then S else
      let r := takeM (cutI lv (len2 (inS lv S)) { S with nx := nx }) ((inS lv S).getD 0 0).toNat ((inS lv S).take (len2 (inS lv S))) (((inS lv S).take (len2 (inS lv S))).drop 4)
      readM lv f { r.1 with wrong := r.2 }
end Go.Proofs.YtkhcpnmbhbhcgaaDoor

/- what Machine.Out gives away. -/
set_option maxRecDepth 100000
set_option linter.unusedVariables false
namespace Go.Proofs.YtkhcpnmbhbhcgaaDoor
open Go.RowKit Go.Joins
theorem RB.updn {role : Nat → Nat} {r k r' : Nat} {a : Option Addr} (h : RB role r a) (hne : role k ≠ r) : RB (upd role k r') r a := fun ad ha => by
  have := h ad ha
  unfold upd
  rw [if_neg (fun he => hne (by rw [← he]; exact this))]; exact this
theorem OX.updn {w : World} {role : Nat → Nat} {r k r' : Nat} {e : TypeId} {a : Option Addr} {n c : Nat} {vs : List Value} (h : OX w role r e a n c vs) (hne : role k ≠ r) : OX w (upd role k r') r e a n c vs := ⟨h.rs, h.rb.updn hne, h.own⟩
theorem GM.out_o0 {w : World} {role : Nat → Nat} {g : Nat} {S : MS} {A : MA} (h : GM w role g S A) {ad : Addr} (ha : A.o0.a = some ad) :
    ∃ role', GM (w.setCell ⟨g, 37, none⟩ (.slice none 0 0)) role' g { S with o0 := [] } { A with o0 := ⟨none, 0, 0⟩ } ∧ Kpt w (w.setCell ⟨g, 37, none⟩ (.slice none 0 0)) role role' ∧ role' ad.block = 0 ∧ (∀ k, role k = 0 → role' k = 0) := by
  have hg := h.gp.cell 37 (.slice none 0 0)
  have hr := h.gp.o0.rb ad ha
  have k := kpt_cell (w := w) 37 (.slice none 0 0) h.gp.rg h.gp.top
  have h7 : role ad.block ≠ 7 := by rw [hr]; decide
  refine ⟨upd role ad.block 0, ⟨h.row.s_o0 h.ok none 0 0 { S with o0 := [] } rfl, ⟨h.ok.rnd, h.ok.hand, h.ok.k0c, h.ok.k0s, h.ok.k1c, h.ok.k1s, h.ok.k2c, h.ok.k2s⟩,
    ⟨?_, hg.gl, fun j hj => ?_, hg.id, hg.idr.updn h7, hg.sec, hg.secr.updn h7, hg.par, hg.parr.updn h7, hg.pe, hg.per.updn h7, hg.nx, hg.nxr.updn h7, hg.said.updn (by rw [hr]; decide), OX.nil _ _ _ _, hg.o1.updn (by rw [hr]; decide), hg.i0.updn (by rw [hr]; decide), hg.i1.updn (by rw [hr]; decide)⟩⟩,
    ⟨k.os, k.tape, k.output, k.size, fun j hj h0 => ⟨(k.blk j hj h0).1, ?_⟩, fun j hj => ?_⟩, ?_, fun j hj => ?_⟩
  · unfold upd; rw [if_neg (fun he => by rw [← he, h.gp.rg] at hr; omega)]; exact h.gp.rg
  · unfold upd; split
    · rfl
    · exact hg.top j hj
  · unfold upd; split
    · rfl
    · exact h0
  · unfold upd; split
    · rfl
    · exact k.top j hj
  · unfold upd; rw [if_pos rfl]
  · unfold upd; split
    · rfl
    · exact hj
theorem GM.out_o1 {w : World} {role : Nat → Nat} {g : Nat} {S : MS} {A : MA} (h : GM w role g S A) {ad : Addr} (ha : A.o1.a = some ad) :
    ∃ role', GM (w.setCell ⟨g, 38, none⟩ (.slice none 0 0)) role' g { S with o1 := [] } { A with o1 := ⟨none, 0, 0⟩ } ∧ Kpt w (w.setCell ⟨g, 38, none⟩ (.slice none 0 0)) role role' ∧ role' ad.block = 0 ∧ (∀ k, role k = 0 → role' k = 0) := by
  have hg := h.gp.cell 38 (.slice none 0 0)
  have hr := h.gp.o1.rb ad ha
  have k := kpt_cell (w := w) 38 (.slice none 0 0) h.gp.rg h.gp.top
  have h7 : role ad.block ≠ 7 := by rw [hr]; decide
  refine ⟨upd role ad.block 0, ⟨h.row.s_o1 h.ok none 0 0 { S with o1 := [] } rfl, ⟨h.ok.rnd, h.ok.hand, h.ok.k0c, h.ok.k0s, h.ok.k1c, h.ok.k1s, h.ok.k2c, h.ok.k2s⟩,
    ⟨?_, hg.gl, fun j hj => ?_, hg.id, hg.idr.updn h7, hg.sec, hg.secr.updn h7, hg.par, hg.parr.updn h7, hg.pe, hg.per.updn h7, hg.nx, hg.nxr.updn h7, hg.said.updn (by rw [hr]; decide), hg.o0.updn (by rw [hr]; decide), OX.nil _ _ _ _, hg.i0.updn (by rw [hr]; decide), hg.i1.updn (by rw [hr]; decide)⟩⟩,
    ⟨k.os, k.tape, k.output, k.size, fun j hj h0 => ⟨(k.blk j hj h0).1, ?_⟩, fun j hj => ?_⟩, ?_, fun j hj => ?_⟩
  · unfold upd; rw [if_neg (fun he => by rw [← he, h.gp.rg] at hr; omega)]; exact h.gp.rg
  · unfold upd; split
    · rfl
    · exact hg.top j hj
  · unfold upd; split
    · rfl
    · exact h0
  · unfold upd; split
    · rfl
    · exact k.top j hj
  · unfold upd; rw [if_pos rfl]
  · unfold upd; split
    · rfl
    · exact hj
/-- the pieces' cells: a level, and bytes in a block that is nobody's here -/
def PcOf (w : World) (role : Nat → Nat) (b0 : Nat) (r0 : Nat → Nat) : List (Nat × List UInt8) → List Value → Prop
  | [], cs => cs = []
  | (l, b) :: ps, cs => ∃ a n c cs', cs = .int .i64 (l : Int) :: .slice a n c :: cs' ∧ BS w a n c b ∧ RB role 0 a ∧ (∀ ad, a = some ad → ad.block < b0 ∧ r0 ad.block ≠ 0) ∧ PcOf w role b0 r0 ps cs'
theorem PcOf.kpt {w w' : World} {role role' : Nat → Nat} {b0 : Nat} {r0 : Nat → Nat} (hk : Kpt w w' role role') (h0 : b0 ≤ w.heap.size) : ∀ {ps : List (Nat × List UInt8)} {cs : List Value}, PcOf w role b0 r0 ps cs → PcOf w' role' b0 r0 ps cs
  | [], _, h => h
  | (l, b) :: ps, _, ⟨a, n, c, cs', he, hb, hr, hl, ht⟩ => ⟨a, n, c, cs', he, RS.keepb hb (fun ad ha _ => (hk.blk _ (Nat.lt_of_lt_of_le (hl ad ha).1 h0) (hr ad ha)).1), fun ad ha => (hk.blk _ (Nat.lt_of_lt_of_le (hl ad ha).1 h0) (hr ad ha)).2, hl, PcOf.kpt hk h0 ht⟩
theorem PcOf.bel {w w' : World} {role : Nat → Nat} {b0 : Nat} {r0 : Nat → Nat} (hk : Below b0 w w') : ∀ {ps : List (Nat × List UInt8)} {cs : List Value}, PcOf w role b0 r0 ps cs → PcOf w' role b0 r0 ps cs
  | [], _, h => h
  | (l, b) :: ps, _, ⟨a, n, c, cs', he, hb, hr, hl, ht⟩ => ⟨a, n, c, cs', he, RS.keepb hb (fun ad ha _ => hk.block _ (hl ad ha).1), hr, hl, PcOf.bel hk ht⟩
theorem PcOf.app {w : World} {role : Nat → Nat} {b0 : Nat} {r0 : Nat → Nat} {a : Option Addr} {l n c : Nat} {b : List UInt8} (hb : BS w a n c b) (hr : RB role 0 a) (hl : ∀ ad, a = some ad → ad.block < b0 ∧ r0 ad.block ≠ 0) : ∀ {ps : List (Nat × List UInt8)} {cs : List Value}, PcOf w role b0 r0 ps cs → PcOf w role b0 r0 (ps ++ [(l, b)]) (cs ++ [.int .i64 (l : Int), .slice a n c])
  | [], _, h => by
    have h : _ = [] := h
    subst h
    exact ⟨a, n, c, [], rfl, hb, hr, hl, rfl⟩
  | (l', b') :: ps, _, ⟨a', n', c', cs', he, hb', hr', hl', ht⟩ => by
    subst he
    exact ⟨a', n', c', cs' ++ [.int .i64 (l : Int), .slice a n c], rfl, hb', hr', hl', PcOf.app hb hr hl ht⟩
theorem Kpt.bel {w wr w' : World} {role role' : Nat → Nat} (h : Kpt w wr role role') (b : Below w.heap.size wr w') (hz : ∀ k, w.heap.size ≤ k → role' k = 0) : Kpt w w' role role' :=
  ⟨b.os.trans h.os, b.tape.trans h.tape, b.output.trans h.output, Nat.le_trans h.size b.size, fun k hk h0 => ⟨(b.block k hk).trans (h.blk k hk h0).1, (h.blk k hk h0).2⟩, fun k hk => hz k (Nat.le_trans (Nat.le_trans h.size b.size) hk)⟩
theorem GM.bel {w0 w w' : World} {role : Nat → Nat} {g : Nat} {S : MS} {A : MA} (h : GM w role g S A) (b : Below w0.heap.size w w') (hz : ∀ k, w0.heap.size ≤ k → role k = 0) : GM w' role g S A :=
  h.kept b.size (fun k _ hk => b.block k (Nat.lt_of_not_le fun hle => hk (hz k hle)))
theorem RS_two2 (w : World) (e : TypeId) (v1 v2 : Value) (h1 : v1.oneCell' = true) (h2 : v2.oneCell' = true) : RS (w.alloc (.cells #[v1, v2] e)) 2 (some ⟨w.heap.size, 0, none⟩) 1 1 [v1, v2] :=
  (OW_made w 0 e 2 #[v1, v2] 1 (Nat.zero_le _) (by rfl) (by unfold maxLen; omega) (by simp [h1, h2])).rs
theorem tPc : STy Tryd.prog 33 36 (.agg #[.int .i64 0, .slice none 0 0]) 2 32 := ⟨Tryd.underlying33, by kernel_rfl, rfl, by decide⟩
/-- what is to be said at a level, and what stays -/
def out0 (S : MS) : MS × List (Nat × List UInt8) := if S.o0 = [] then (S, []) else ({ S with o0 := [] }, [(0, S.o0)])
def out1 (S : MS) : MS × List (Nat × List UInt8) := if S.o1 = [] then (S, []) else ({ S with o1 := [] }, [(1, S.o1)])
def outM (S : MS) : MS × List (Nat × List UInt8) := ((out1 (out0 S).1).1, (out0 S).2 ++ (out1 (out0 S).1).2)
def outI (i : Nat) (S : MS) : MS × List (Nat × List UInt8) := if i = 0 then (S, []) else if i = 1 then out0 S else outM S
end Go.Proofs.YtkhcpnmbhbhcgaaDoor

/- (*greet.Machine).Out. -/
set_option maxRecDepth 100000
set_option linter.unusedVariables false
namespace Go.Proofs.YtkhcpnmbhbhcgaaDoor
open Go.RowKit Go.Joins
set_option maxHeartbeats 2000000 in
theorem gout_any (w : World) {role : Nat → Nat} {g : Nat} {S : MS} {A : MA} (hM : GM w role g S A) :
    Calls Tryd.prog 11 #[.pointer (some ⟨g, 0, none⟩)] w fun e w' => ∃ a c cs role' A', e = .returned (.slice a (outM S).2.length c) ∧ GM w' role' g (outM S).1 A' ∧ Kpt w w' role role' ∧ OW w' w.heap.size 36 2 a (outM S).2.length c cs ∧ PcOf w' role' w.heap.size role (outM S).2 cs ∧ (∀ k, w.heap.size ≤ k → role' k = 0) := by
  obtain ⟨N, hN⟩ : ∃ x, w.heap.size = x := ⟨_, rfl⟩
  have HSTART := Lib.hid (show ∃ (i : Nat) (role' : Nat → Nat) (S' : MS) (A' : MA) (ps : List (Nat × List UInt8)) (a : Option Addr) (c : Nat) (cs : List Value), i ≤ 2 ∧ Value.int .i64 (0 : Int) = .int .i64 (i : Int) ∧ Value.slice none 0 0 = .slice a (List.length ps) c ∧ GM w role' g S' A' ∧ Kpt w w role role' ∧ OW w w.heap.size 36 2 a (List.length ps) c cs ∧ PcOf w role' w.heap.size role ps cs ∧ (S', ps) = outI i S ∧ (∀ k, w.heap.size ≤ k → role' k = 0) ∧ List.length ps ≤ i from
    ⟨0, role, S, A, [], none, 0, [], by omega, rfl, rfl, hM, Kpt.refl w role hM.gp.top, OW_nil w _ _ 2, rfl, by unfold outI; rw [if_pos rfl], hM.gp.top, by simp⟩)
  clear hM hN
  go_enter Tryd.func11, Tryd.ntmps11
  go_wp2
  go_loopw [7, 3] (fun s7 s3 wr => ∃ (i : Nat) (role' : Nat → Nat) (S' : MS) (A' : MA) (ps : List (Nat × List UInt8)) (a : Option Addr) (c : Nat) (cs : List Value), i ≤ 2 ∧ s7 = .int .i64 (i : Int) ∧ s3 = .slice a (List.length ps) c ∧ GM wr role' g S' A' ∧ Kpt w wr role role' ∧ OW wr w.heap.size 36 2 a (List.length ps) c cs ∧ PcOf wr role' w.heap.size role ps cs ∧ (S', ps) = outI i S ∧ (∀ k, w.heap.size ≤ k → role' k = 0) ∧ List.length ps ≤ i) (fun s7 _ _ => match s7 with | .int _ x => (2 - x).toNat | _ => 0)
  case atStart => exact HSTART.out
  case round =>
    clear HSTART
    obtain ⟨i, role1, S1, A1, ps, a, c, cs, hi, rfl, rfl, hM, hk, hO, hP, hE, hz, hpl⟩ := hrel
    have HM := Lib.hid hM
    have HK := Lib.hid hk
    have hO' := hO
    have HP := Lib.hid hP
    have HE := Lib.hid hE
    obtain ⟨pl, hpl'⟩ : ∃ x, ps.length = x := ⟨_, rfl⟩
    have HPL := Lib.hid hpl'
    rw [hpl'] at hpl hO' ⊢
    have hOk := hM.ok
    have HO := Lib.hid hO'
    clear hM hk hO hO' hP hE hpl'
    by_cases h2 : i = 2
    · subst h2
      go_wp2
      go_ret
      have he := HE.out
      unfold outI at he
      rw [if_neg (by decide), if_neg (by decide)] at he
      rw [← he]
      exact ⟨a, c, cs, role1, A1, by rw [HPL.out]; rfl, HM.out, HK.out, by rw [HPL.out]; exact HO.out, HP.out, hz⟩
    by_cases hI : i = 0
    · subst hI
      have qI : wr.cell? ⟨g, 37, none⟩ = some (.slice A1.o0.a A1.o0.n A1.o0.c) := (HM.out.row.cells hOk).g37
      have fI := HM.out.row.fr 37
      have hfl := HM.out.gp.o0.len
      by_cases h0 : A1.o0.n = 0
      · rw [h0] at qI hfl
        have hfe : S1.o0 = [] := by have := BS.len HM.out.gp.o0.rs; rw [h0] at this; exact List.eq_nil_of_length_eq_zero this
        have hE' : (S1, ps) = outI 1 S := by
          have he := HE.out
          unfold outI at he ⊢
          rw [if_pos rfl] at he
          rw [if_neg (by decide), if_pos rfl]
          injection he with h1 h2
          subst h1 h2
          unfold out0; rw [if_pos hfe]
        have HE2 := Lib.hid hE'
        clear hfe hE' h0 hfl
        go_wp2
        exact ⟨⟨1, role1, S1, A1, ps, a, c, cs, by omega, rfl, by rw [HPL.out], HM.out, HK.out, by rw [HPL.out]; exact HO.out, HP.out, HE2.out, hz, by rw [HPL.out]; omega⟩, by decide⟩
      · have h0' : 0 < (A1.o0.n : Int) := by omega
        clear hfl
        have hsz : w.heap.size ≤ wr.heap.size := HK.out.size
        obtain ⟨ad, had⟩ : ∃ ad, A1.o0.a = some ad := by
          cases h : A1.o0.a with
          | none => have h2 := HM.out.gp.o0.rs; rw [h] at h2; have := h2.nil_inv; omega
          | some ad => exact ⟨ad, rfl⟩
        have HAD := Lib.hid had
        have hrr := HM.out.gp.o0.rb ad had
        have hgl : g < w.heap.size := Nat.lt_of_not_le fun hle => by have h2 := hz _ hle; rw [HM.out.gp.rg] at h2; cases h2
        have hal : ad.block < w.heap.size := Nat.lt_of_not_le fun hle => by have h2 := hz _ hle; rw [hrr] at h2; cases h2
        have hro : role ad.block ≠ 0 := fun h => by have h2 := (HK.out.blk _ hal h).2; rw [hrr] at h2; cases h2
        have hag : ad.block ≠ g := fun he => by rw [he, HM.out.gp.rg] at hrr; cases hrr
        have hne : S1.o0 ≠ [] := fun h => by have h2 := BS.len HM.out.gp.o0.rs; rw [h] at h2; exact h0 h2.symm
        have hl2 := RS_two2 wr 36 (.int .i64 0) (.slice A1.o0.a A1.o0.n A1.o0.c) rfl rfl
        clear had
        go_upto_region 9 with (at_builtin; refine L_append tPc (OW.alloc HO.out _) hl2 _ _ rfl rfl rfl rfl (by omega) (by unfold maxLen; omega) (by simp; omega) ?_; intro a5 c5 w5 ho5 hg5)
        have hB5 : Below w.heap.size wr w5 := ((Below.refl _ wr).alloc hsz _).grown hg5 (by simp; omega) (fun k hk => by
          obtain ⟨x, hx1, hx2⟩ := Option.map_eq_some_iff.1 hk
          rw [← hx2]; exact (HO.out.base_le hx1).1)
        have hm5 := HM.out.bel hB5 hz
        have hk5 := HK.out.bel hB5 hz
        have hP5 := HP.out.bel hB5
        obtain ⟨role6, hm6, hk6, hz6, hzz⟩ := hm5.out_o0 HAD.out
        have hb5 : BS w5 A1.o0.a A1.o0.n A1.o0.c S1.o0 := hm5.gp.o0.rs
        have q5 : w5.cell? ⟨g, 37, none⟩ = some (.slice A1.o0.a A1.o0.n A1.o0.c) := (hm5.row.cells hOk).g37
        have f5 := hm5.row.fr 37
        have hP6 := PcOf.kpt hk6 (Nat.le_trans hsz hB5.size) hP5
        have hb6 : BS (w5.setCell ⟨g, 37, none⟩ (.slice none 0 0)) A1.o0.a A1.o0.n A1.o0.c S1.o0 := RS.grown hb5 (grownBy_setCell w5 ⟨g, 37, none⟩ (.slice none 0 0)) (fun x hx he => by rw [HAD.out] at hx; cases hx; exact hag (by simpa using he))
        have hO6 := OW.setOther ho5 (ad := ⟨g, 37, none⟩) (fun x hx he => by have h1 := (ho5.base_le hx).1; have he : x.block = g := he; omega) (.slice none 0 0)
        have hPP := PcOf.app (l := 0) hb6 (fun x hx => by rw [HAD.out] at hx; cases hx; exact hz6) (fun x hx => by rw [HAD.out] at hx; cases hx; exact ⟨hal, hro⟩) hP6
        have hE' : (({ S1 with o0 := [] } : MS), ps ++ [(0, S1.o0)]) = outI 1 S := by
          have he := HE.out
          unfold outI at he ⊢
          rw [if_pos rfl] at he
          rw [if_neg (by decide), if_pos rfl]
          injection he with h1 h2
          subst h1 h2
          unfold out0; rw [if_neg hne]; rfl
        have HE2 := Lib.hid hE'
        have HM6 := Lib.hid hm6
        have HK6 := Lib.hid (hk5.trans hk6)
        have HO6 := Lib.hid hO6
        have HPP := Lib.hid hPP
        have HZ6 := Lib.hid (fun k (hk : w.heap.size ≤ k) => hzz k (hz k hk))
        clear hE' hm5 hk5 hP5 hm6 hk6 hP6 hb5 hb6 hO6 hPP hB5 hg5 ho5 hne hl2 qI fI
        go_wp2
        exact ⟨⟨1, role6, _, _, ps ++ [(0, S1.o0)], a5, c5, _, by omega, rfl, by rw [List.length_append, HPL.out]; rfl, HM6.out, HK6.out, by rw [List.length_append, HPL.out]; exact HO6.out, HPP.out, HE2.out, HZ6.out, by rw [List.length_append, HPL.out]; simp; omega⟩, by decide⟩
    by_cases hI : i = 1
    · subst hI
      have qI : wr.cell? ⟨g, 38, none⟩ = some (.slice A1.o1.a A1.o1.n A1.o1.c) := (HM.out.row.cells hOk).g38
      have fI := HM.out.row.fr 38
      have hfl := HM.out.gp.o1.len
      by_cases h0 : A1.o1.n = 0
      · rw [h0] at qI hfl
        have hfe : S1.o1 = [] := by have := BS.len HM.out.gp.o1.rs; rw [h0] at this; exact List.eq_nil_of_length_eq_zero this
        have hE' : (S1, ps) = outI 2 S := by
          have he := HE.out
          unfold outI at he ⊢
          rw [if_neg (by decide), if_pos rfl] at he
          rw [if_neg (by decide), if_neg (by decide)]
          unfold outM; rw [← he]; unfold out1; rw [if_pos hfe]; simp
        have HE2 := Lib.hid hE'
        clear hfe hE' h0 hfl
        go_wp2
        exact ⟨⟨2, role1, S1, A1, ps, a, c, cs, by omega, rfl, by rw [HPL.out], HM.out, HK.out, by rw [HPL.out]; exact HO.out, HP.out, HE2.out, hz, by rw [HPL.out]; omega⟩, by decide⟩
      · have h0' : 0 < (A1.o1.n : Int) := by omega
        clear hfl
        have hsz : w.heap.size ≤ wr.heap.size := HK.out.size
        obtain ⟨ad, had⟩ : ∃ ad, A1.o1.a = some ad := by
          cases h : A1.o1.a with
          | none => have h2 := HM.out.gp.o1.rs; rw [h] at h2; have := h2.nil_inv; omega
          | some ad => exact ⟨ad, rfl⟩
        have HAD := Lib.hid had
        have hrr := HM.out.gp.o1.rb ad had
        have hgl : g < w.heap.size := Nat.lt_of_not_le fun hle => by have h2 := hz _ hle; rw [HM.out.gp.rg] at h2; cases h2
        have hal : ad.block < w.heap.size := Nat.lt_of_not_le fun hle => by have h2 := hz _ hle; rw [hrr] at h2; cases h2
        have hro : role ad.block ≠ 0 := fun h => by have h2 := (HK.out.blk _ hal h).2; rw [hrr] at h2; cases h2
        have hag : ad.block ≠ g := fun he => by rw [he, HM.out.gp.rg] at hrr; cases hrr
        have hne : S1.o1 ≠ [] := fun h => by have h2 := BS.len HM.out.gp.o1.rs; rw [h] at h2; exact h0 h2.symm
        have hl2 := RS_two2 wr 36 (.int .i64 1) (.slice A1.o1.a A1.o1.n A1.o1.c) rfl rfl
        clear had
        go_upto_region 9 with (at_builtin; refine L_append tPc (OW.alloc HO.out _) hl2 _ _ rfl rfl rfl rfl (by omega) (by unfold maxLen; omega) (by simp; omega) ?_; intro a5 c5 w5 ho5 hg5)
        have hB5 : Below w.heap.size wr w5 := ((Below.refl _ wr).alloc hsz _).grown hg5 (by simp; omega) (fun k hk => by
          obtain ⟨x, hx1, hx2⟩ := Option.map_eq_some_iff.1 hk
          rw [← hx2]; exact (HO.out.base_le hx1).1)
        have hm5 := HM.out.bel hB5 hz
        have hk5 := HK.out.bel hB5 hz
        have hP5 := HP.out.bel hB5
        obtain ⟨role6, hm6, hk6, hz6, hzz⟩ := hm5.out_o1 HAD.out
        have hb5 : BS w5 A1.o1.a A1.o1.n A1.o1.c S1.o1 := hm5.gp.o1.rs
        have q5 : w5.cell? ⟨g, 38, none⟩ = some (.slice A1.o1.a A1.o1.n A1.o1.c) := (hm5.row.cells hOk).g38
        have f5 := hm5.row.fr 38
        have hP6 := PcOf.kpt hk6 (Nat.le_trans hsz hB5.size) hP5
        have hb6 : BS (w5.setCell ⟨g, 38, none⟩ (.slice none 0 0)) A1.o1.a A1.o1.n A1.o1.c S1.o1 := RS.grown hb5 (grownBy_setCell w5 ⟨g, 38, none⟩ (.slice none 0 0)) (fun x hx he => by rw [HAD.out] at hx; cases hx; exact hag (by simpa using he))
        have hO6 := OW.setOther ho5 (ad := ⟨g, 38, none⟩) (fun x hx he => by have h1 := (ho5.base_le hx).1; have he : x.block = g := he; omega) (.slice none 0 0)
        have hPP := PcOf.app (l := 1) hb6 (fun x hx => by rw [HAD.out] at hx; cases hx; exact hz6) (fun x hx => by rw [HAD.out] at hx; cases hx; exact ⟨hal, hro⟩) hP6
        have hE' : (({ S1 with o1 := [] } : MS), ps ++ [(1, S1.o1)]) = outI 2 S := by
          have he := HE.out
          unfold outI at he ⊢
          rw [if_neg (by decide), if_pos rfl] at he
          rw [if_neg (by decide), if_neg (by decide)]
          unfold outM; rw [← he]; unfold out1; rw [if_neg hne]
        have HE2 := Lib.hid hE'
        have HM6 := Lib.hid hm6
        have HK6 := Lib.hid (hk5.trans hk6)
        have HO6 := Lib.hid hO6
        have HPP := Lib.hid hPP
        have HZ6 := Lib.hid (fun k (hk : w.heap.size ≤ k) => hzz k (hz k hk))
        clear hE' hm5 hk5 hP5 hm6 hk6 hP6 hb5 hb6 hO6 hPP hB5 hg5 ho5 hne hl2 qI fI
        go_wp2
        exact ⟨⟨2, role6, _, _, ps ++ [(1, S1.o1)], a5, c5, _, by omega, rfl, by rw [List.length_append, HPL.out]; rfl, HM6.out, HK6.out, by rw [List.length_append, HPL.out]; exact HO6.out, HPP.out, HE2.out, HZ6.out, by rw [List.length_append, HPL.out]; simp; omega⟩, by decide⟩
    omega
end Go.Proofs.YtkhcpnmbhbhcgaaDoor

/- (*greet.Machine).Done, Peer. -/
set_option maxRecDepth 100000
set_option linter.unusedVariables false
namespace Go.Proofs.YtkhcpnmbhbhcgaaDoor
open Go.RowKit Go.Joins
theorem gdone_any (w : World) {role : Nat → Nat} {g : Nat} {S : MS} {A : MA} (hM : GM w role g S A) :
    Calls Tryd.prog 13 #[.pointer (some ⟨g, 0, none⟩)] w fun e w' => e = .returned (.bool S.done) ∧ w' = w := by
  have q271 : w.cell? ⟨g, 271, none⟩ = some (.bool S.done) := (hM.row.cells hM.ok).g271
  clear hM
  go_enter Tryd.func13, Tryd.ntmps13
  go_wp2
  go_ret
  exact ⟨rfl, rfl⟩
theorem gpeer_any (w : World) {role : Nat → Nat} {g : Nat} {S : MS} {A : MA} (hM : GM w role g S A) (hn : S.peer.length ≤ 140737488355328) :
    Calls Tryd.prog 16 #[.pointer (some ⟨g, 0, none⟩)] w fun e w' => ∃ a' c', e = .returned (.tuple #[.slice a' S.peer.length c', .bool S.came]) ∧ OW w' w.heap.size 5 1 a' S.peer.length c' (S.peer.map B) ∧ Below w.heap.size w w' := by
  have hpn : A.pe.n = S.peer.length := (BS.len hM.gp.pe).symm
  have hmV := hM.drew
  obtain ⟨V, hV⟩ : ∃ x, w.drew = x := ⟨_, rfl⟩
  have hb0 : Below w.heap.size w V := by rw [← hV]; exact (Below.refl _ w).drew
  have hz : w.heap.size = V.heap.size := by rw [← hV]; rfl
  rw [hV] at hmV
  have q269 : V.cell? ⟨g, 269, none⟩ = some (.slice A.pe.a A.pe.n A.pe.c) := (hmV.row.cells hmV.ok).g269
  have q270 : V.cell? ⟨g, 270, none⟩ = some (.bool S.came) := (hmV.row.cells hmV.ok).g270
  have hpe : BS V A.pe.a A.pe.n A.pe.c S.peer := hmV.gp.pe
  have hgl := hmV.gp.gl
  obtain ⟨n, hn'⟩ : ∃ x, S.peer.length = x := ⟨_, rfl⟩
  rw [hn'] at hn hpn ⊢
  rw [hpn] at q269 hpe
  have HPE := Lib.hid hpe
  have HB0 := Lib.hid hb0
  have HZ := Lib.hid hz
  have HV := Lib.hid hV
  have HQ := Lib.hid (And.intro q269 q270)
  clear hM hmV hpe hb0 hz hV q269 q270 hn' hpn
  go_enter Tryd.func16, Tryd.ntmps16
  go_upto_region 3 with (fail)
  refine wp_region_held_drew (S := fun w' => w'.cell? ⟨g, 269, none⟩ = some (.slice A.pe.a n A.pe.c) ∧ w'.cell? ⟨g, 270, none⟩ = some (.bool S.came)) (by kernel_rfl) (by rw [HV.out]; exact HQ.out) (fun hHeld => ?_)
  rw [HV.out] at hHeld ⊢
  refine wpAnyH_take (i := 0) (v := .pointer (some ⟨g, 0, none⟩)) rfl (by kernel_rfl) (by kernel_rfl) (by kernel_rfl) (fun _ _ _ h => h) (Or.inl ⟨by rfl, fun w h => by go_simp⟩) hHeld ?_
  try simp only [Act.put, List.getElem_toArray, List.getElem_cons_zero, List.setIfInBounds_toArray, List.set_cons_zero, List.set_cons_succ]
  refine wpAnyH_take (i := 1) (v := .pointer (some ⟨g, 0, none⟩)) rfl (by kernel_rfl) (by kernel_rfl) (by kernel_rfl) (fun _ _ _ h => h) (Or.inl ⟨by rfl, fun w h => by go_simp⟩) hHeld ?_
  try simp only [Act.put, List.getElem_toArray, List.getElem_cons_succ, List.getElem_cons_zero, List.setIfInBounds_toArray, List.set_cons_zero, List.set_cons_succ]
  refine wpAnyH_take (i := 2) (v := .pointer (some ⟨g, 269, none⟩)) rfl (by kernel_rfl) (by kernel_rfl) (by kernel_rfl) (fun _ _ _ h => h) (Or.inl ⟨by rfl, fun w h => by go_simp⟩) hHeld ?_
  try simp only [Act.put, List.getElem_toArray, List.getElem_cons_succ, List.getElem_cons_zero, List.setIfInBounds_toArray, List.set_cons_zero, List.set_cons_succ]
  refine wpAnyH_take (i := 3) (v := .slice A.pe.a n A.pe.c) rfl (by kernel_rfl) (by kernel_rfl) (by kernel_rfl) (fun _ _ _ h => h) (Or.inl ⟨by rfl, fun w h => by have h2 : w.cell? ⟨g, 269, none⟩ = some (.slice A.pe.a n A.pe.c) := h.1; go_simp⟩) hHeld ?_
  try simp only [Act.put, List.getElem_toArray, List.getElem_cons_succ, List.getElem_cons_zero, List.setIfInBounds_toArray, List.set_cons_zero, List.set_cons_succ]
  refine wpAnyH_take (i := 5) (v := .pointer (some ⟨g, 0, none⟩)) rfl (by kernel_rfl) (by kernel_rfl) (by kernel_rfl) (fun _ _ _ h => h) (Or.inl ⟨by rfl, fun w h => by go_simp⟩) hHeld ?_
  try simp only [Act.put, List.getElem_toArray, List.getElem_cons_succ, List.getElem_cons_zero, List.setIfInBounds_toArray, List.set_cons_zero, List.set_cons_succ]
  refine wpAnyH_take (i := 6) (v := .pointer (some ⟨g, 0, none⟩)) rfl (by kernel_rfl) (by kernel_rfl) (by kernel_rfl) (fun _ _ _ h => h) (Or.inl ⟨by rfl, fun w h => by go_simp⟩) hHeld ?_
  try simp only [Act.put, List.getElem_toArray, List.getElem_cons_succ, List.getElem_cons_zero, List.setIfInBounds_toArray, List.set_cons_zero, List.set_cons_succ]
  refine wpAnyH_take (i := 7) (v := .pointer (some ⟨g, 270, none⟩)) rfl (by kernel_rfl) (by kernel_rfl) (by kernel_rfl) (fun _ _ _ h => h) (Or.inl ⟨by rfl, fun w h => by go_simp⟩) hHeld ?_
  try simp only [Act.put, List.getElem_toArray, List.getElem_cons_succ, List.getElem_cons_zero, List.setIfInBounds_toArray, List.set_cons_zero, List.set_cons_succ]
  refine wpAnyH_take (i := 8) (v := .bool S.came) rfl (by kernel_rfl) (by kernel_rfl) (by kernel_rfl) (fun _ _ _ h => h) (Or.inl ⟨by rfl, fun w h => by have h2 : w.cell? ⟨g, 270, none⟩ = some (.bool S.came) := h.2; go_simp⟩) hHeld ?_
  try simp only [Act.put, List.getElem_toArray, List.getElem_cons_succ, List.getElem_cons_zero, List.setIfInBounds_toArray, List.set_cons_zero, List.set_cons_succ]
  refine wpAnyH_ready (rs := [4]) (by kernel_rfl) (by simp) (AllReadyH.cons rfl (fun K hK => ?_) AllReadyH.nil)
  go_simp
  go_at_call 25
  refine (clone_any V HPE.out (by omega)).mono ?_
  rintro x w2 ⟨a6, c6, rfl, o6, B6⟩
  refine hK.out _ _ (And.intro ((Below.cell B6 (p := ⟨g, 269, none⟩) hgl).trans HQ.out.1) ((Below.cell B6 (p := ⟨g, 270, none⟩) hgl).trans HQ.out.2)) (fun hHeld => ?_)
  clear hK K
  try simp only [Act.put, List.getElem_toArray, List.getElem_cons_succ, List.getElem_cons_zero, List.setIfInBounds_toArray, List.set_cons_zero, List.set_cons_succ]
  have HO := Lib.hid o6
  have HB := Lib.hid B6
  clear o6 B6
  refine wpAnyH_take (i := 9) (v := .slice a6 n c6) rfl (by kernel_rfl) (by kernel_rfl) (by kernel_rfl) (fun _ _ _ h => h) (Or.inl ⟨by rfl, fun w h => by go_simp⟩) hHeld ?_
  try simp only [Act.put, List.getElem_toArray, List.getElem_cons_succ, List.getElem_cons_zero, List.setIfInBounds_toArray, List.set_cons_zero, List.set_cons_succ]
  refine wpAnyH_take (i := 10) (v := .bool S.came) rfl (by kernel_rfl) (by kernel_rfl) (by kernel_rfl) (fun _ _ _ h => h) (Or.inl ⟨by rfl, fun w h => by go_simp⟩) hHeld ?_
  try simp only [Act.put, List.getElem_toArray, List.getElem_cons_succ, List.getElem_cons_zero, List.setIfInBounds_toArray, List.set_cons_zero, List.set_cons_succ]
  refine wpAnyH_done (by kernel_rfl) ?_ _
  try simp only [Act.put, List.getElem_toArray, List.getElem_cons_succ, List.getElem_cons_zero]
  clear hHeld
  go_wp2
  go_ret2
  exact ⟨a6, c6, rfl, by rw [HZ.out]; exact HO.out, HB0.out.trans (by rw [HZ.out]; exact HB.out)⟩
end Go.Proofs.YtkhcpnmbhbhcgaaDoor
