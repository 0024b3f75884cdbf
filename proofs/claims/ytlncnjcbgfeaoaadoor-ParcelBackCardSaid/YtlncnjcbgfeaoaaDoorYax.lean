/- Arrays by value; parcel.label. -/
import Derived.Test.YtlncnjcbgfeaoaaDoorYaw
import Derived.Test.YtlncnjcbgfeaoaaDoorYag
import Derived.Deep.MidRow
import Derived.Deep.RegionHeld3
set_option maxRecDepth 100000
set_option linter.unusedVariables false
namespace Go.Proofs.YtlncnjcbgfeaoaaDoor
open Go.RowKit Go.Joins
theorem BS.range {w : World} {b o n c : Nat} {xs : List UInt8} (h : BS w (some ⟨b, o, none⟩) n c xs) : w.rangeAt b o (xs.map B) := fun j v hv => (h.2.2.2.2.2 ⟨b, o, none⟩ rfl).2 j v hv
theorem AB.range {w : World} {g : Nat} {t : TypeId} {vs : List UInt8} (h : AB w g t vs) : w.rangeAt g 0 (vs.map B) := fun j v hv => by
  rw [List.getElem?_map] at hv
  obtain ⟨x, hx, rfl⟩ := Option.map_eq_some_iff.1 hv
  rw [Nat.zero_add]; exact h.cell j x hx
theorem run_arrayAt {P : Program} {t e : TypeId} {k : Nat} (hu : P.underlying t = some (.array k e)) (a : Option Addr) (n c : Nat) (h : k ≤ n) (w : World) : (Instr.arrayAt t (.slice a n c)).run P w = .ok (.pointer a) w := by
  unfold Instr.arrayAt
  rw [Sem.run_bind, run_underlying hu]
  simp [Result.andThen, Nat.not_lt.2 h]
/-- what is drawn for a label, without a context -/
structure LB (sec nm : List UInt8) (n : Nat) (d : List UInt8) : Prop where
  h : expS sec (labS nm [] n) n = d
  len : d.length = n
theorem LB_ex (sec nm : List UInt8) (n : Nat) : ∃ d, LB sec nm n d := ⟨_, rfl, expS_len _ _ _⟩
theorem i32 : (Tryd.prog.info? 22).map (·.size) = some 32 := by kernel_rfl
theorem i12 : (Tryd.prog.info? 31).map (·.size) = some 12 := by kernel_rfl
theorem len32 {d : List UInt8} (h : d.length = 32) : (Tryd.prog.info? 22).map (·.size) = some (d.map B).length := by rw [List.length_map, h]; exact i32
theorem AB.bel {w w' : World} {g n : Nat} {t : TypeId} {vs : List UInt8} (h : AB w g t vs) (hb : Below n w w') (hg : g < n) : AB w' g t vs := by
  unfold AB at h ⊢
  rw [hb.block g hg]; exact h
theorem AB.bs32 {w : World} {g : Nat} {t : TypeId} {vs : List UInt8} (h : AB w g t vs) (hl : vs.length = 32) : BS w (some ⟨g, 0, none⟩) 32 32 vs := by
  have := h.bs (by rw [hl]; unfold maxLen; omega)
  rw [hl] at this; exact this
theorem label_32 (w : World) {a0 : Option Addr} {n0 c0 : Nat} {key d : List UInt8} (s : ByteArray) (hk : BS w a0 n0 c0 key) (h0 : n0 ≤ 549755813888) (hs : s.size ≤ 249) (hD : LB key s.data.toList 32 d) (hK : KT w) :
    Calls Tryd.prog 31 #[.slice a0 n0 c0, .string s, .slice none 0 0, .int .i64 32] w fun e w' => ∃ a, e = .returned (.tuple #[.slice a 32 32, .int .i64 0]) ∧ BS w' a 32 32 d ∧ Below w.heap.size w w' ∧ ∀ ad, a = some ad → w.heap.size ≤ ad.block := by
  have h := label_new w (ctx := []) s hk (RS_nil w 1) h0 hs (by omega) hK 32 (by omega)
  rw [hD.h] at h
  exact h
theorem refLabel_32 (w : World) {a0 : Option Addr} {n0 c0 : Nat} {key d : List UInt8} (s : ByteArray) (hk : BS w a0 n0 c0 key) (h0 : n0 ≤ 549755813888) (hs : s.size ≤ 249) (hD : LB key s.data.toList 32 d) :
    Calls Tryd.prog 30 #[.slice a0 n0 c0, .string s, .slice none 0 0, .int .i64 32] w fun e w' => ∃ a c, e = .returned (.tuple #[.slice a 32 c, .int .i64 0]) ∧ BS w' a 32 c d ∧ Below w.heap.size w w' ∧ ∀ ad, a = some ad → w.heap.size ≤ ad.block := by
  have h := refLabel_new w (ctx := []) s hk (RS_nil w 1) h0 hs (by omega) 32 (by omega)
  rw [hD.h] at h
  exact h
theorem label_12 (w : World) {a0 : Option Addr} {n0 c0 : Nat} {key d : List UInt8} (s : ByteArray) (hk : BS w a0 n0 c0 key) (h0 : n0 ≤ 549755813888) (hs : s.size ≤ 249) (hD : LB key s.data.toList 12 d) (hK : KT w) :
    Calls Tryd.prog 31 #[.slice a0 n0 c0, .string s, .slice none 0 0, .int .i64 12] w fun e w' => ∃ a, e = .returned (.tuple #[.slice a 12 12, .int .i64 0]) ∧ BS w' a 12 12 d ∧ Below w.heap.size w w' ∧ ∀ ad, a = some ad → w.heap.size ≤ ad.block := by
  have h := label_new w (ctx := []) s hk (RS_nil w 1) h0 hs (by omega) hK 12 (by omega)
  rw [hD.h] at h
  exact h
theorem refLabel_12 (w : World) {a0 : Option Addr} {n0 c0 : Nat} {key d : List UInt8} (s : ByteArray) (hk : BS w a0 n0 c0 key) (h0 : n0 ≤ 549755813888) (hs : s.size ≤ 249) (hD : LB key s.data.toList 12 d) :
    Calls Tryd.prog 30 #[.slice a0 n0 c0, .string s, .slice none 0 0, .int .i64 12] w fun e w' => ∃ a c, e = .returned (.tuple #[.slice a 12 c, .int .i64 0]) ∧ BS w' a 12 c d ∧ Below w.heap.size w w' ∧ ∀ ad, a = some ad → w.heap.size ≤ ad.block := by
  have h := refLabel_new w (ctx := []) s hk (RS_nil w 1) h0 hs (by omega) 12 (by omega)
  rw [hD.h] at h
  exact h
set_option maxHeartbeats 2000000 in
theorem lab_any (w : World) {sec d : List UInt8} (hsl : sec.length = 32) (s : ByteArray) (hs : s.size ≤ 249) (hD : LB sec s.data.toList 32 d) (hK : KT w) :
    Calls Tryd.prog 28 #[.agg (sec.map B).toArray, .string s] w fun e w' => e = .returned (.agg (d.map B).toArray) ∧ Below w.heap.size w w' := by
  have hZ := AB_zeros (w.alloc (.cells (sec.map B).toArray 22)) rfl
  have hA := (AB_box w 22 sec).al (.cells #[.int .u8 0, .int .u8 0, .int .u8 0, .int .u8 0, .int .u8 0, .int .u8 0, .int .u8 0, .int .u8 0, .int .u8 0, .int .u8 0, .int .u8 0, .int .u8 0, .int .u8 0, .int .u8 0, .int .u8 0, .int .u8 0, .int .u8 0, .int .u8 0, .int .u8 0, .int .u8 0, .int .u8 0, .int .u8 0, .int .u8 0, .int .u8 0, .int .u8 0, .int .u8 0, .int .u8 0, .int .u8 0, .int .u8 0, .int .u8 0, .int .u8 0, .int .u8 0] 22)
  have hb : Below w.heap.size w _ := (below_alloc w (.cells (sec.map B).toArray 22)).alloc (by simp) (.cells #[.int .u8 0, .int .u8 0, .int .u8 0, .int .u8 0, .int .u8 0, .int .u8 0, .int .u8 0, .int .u8 0, .int .u8 0, .int .u8 0, .int .u8 0, .int .u8 0, .int .u8 0, .int .u8 0, .int .u8 0, .int .u8 0, .int .u8 0, .int .u8 0, .int .u8 0, .int .u8 0, .int .u8 0, .int .u8 0, .int .u8 0, .int .u8 0, .int .u8 0, .int .u8 0, .int .u8 0, .int .u8 0, .int .u8 0, .int .u8 0, .int .u8 0, .int .u8 0] 22)
  have hz1 : (w.alloc (.cells (sec.map B).toArray 22)).heap.size = w.heap.size + 1 := by simp
  rw [hz1] at hZ
  have HK1 := Lib.hid (hK.below hb (Nat.le_refl _))
  have hi32 := len32 hD.len
  have hi2 : (Tryd.prog.info? 22).map (·.size) = some (d.map B).toArray.size := by rw [List.size_toArray]; exact hi32
  clear hK hz1
  go_enter Tryd.func28, Tryd.ntmps28
  go_upto_region 1 with (fail)
  generalize (World.alloc _ _) = W1 at *
  have hx := hA.bs32 hsl
  have Hi2 := Lib.hid hi2
  have Hi := Lib.hid hi32
  clear hi32 hi2
  go_upto_region 2 with (go_at_call 31; refine (label_32 _ s hx (by omega) hs hD HK1.out).mono ?_; rintro e w2 ⟨a2, rfl, hb2, B2, -⟩)
  have hz2 := B2.size
  have hbw := hb.trans (B2.mono hb.size)
  have hZ2 := hZ.bel B2 hZ.lt
  obtain ⟨bn, on, rfl, -⟩ := hb2.at_ (by omega)
  have hr2 := hb2.range
  have hp2 : ∀ w', (Instr.arrayAt 22 (.slice (some ⟨bn, on, none⟩) 32 32)).run Tryd.prog w' = .ok (.pointer (some ⟨bn, on, none⟩)) w' := run_arrayAt Tryd.underlying22 _ 32 32 (Nat.le_refl _)
  have hdl := hD.len
  clear hb2 hA hx hZ hD
  go_wp2_with (first
    | (refine wpList_load_mid rfl _ _ rfl bn on rfl (d.map B) _ hr2 Tryd.underlying22 rfl Hi.out ?_)
    | (refine L_store32 rfl _ _ rfl rfl rfl hZ2 (by simp) hdl ?_; intro w3 hA3 hg3))
  refine bodyPost_ret_by (results_cell_row rfl _ _ _ _ _ _ _ rfl hA3 Tryd.underlying22 rfl Hi2.out) rfl ⟨rfl, ?_⟩
  exact hbw.grown hg3 hbw.size (fun k hk => by cases hk; omega)
end Go.Proofs.YtlncnjcbgfeaoaaDoor
