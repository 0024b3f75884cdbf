/- texts A0 G1 G2 G0 G3 WD V1 in one. -/
import Derived.Test.YtkhcpnmbhbhcgaaDoorYac
import Derived.Test.YtkhcpnmbhbhcgaaDoorYad
import Derived.Test.YtkhcpnmbhbhcgaaDoorYaa
import Derived.StillTailTactics
import Derived.Deep.DeepCutAuto

/- Arrays of words. -/
set_option maxRecDepth 100000
set_option linter.unusedVariables false
namespace Go.Proofs.YtkhcpnmbhbhcgaaDoor
open Go.RowKit
def U (x : Nat) : Value := .int .u32 (x : Int)
/-- the block g is just the words vs -/
def AR (w : World) (g : Nat) (t : TypeId) (vs : List Nat) : Prop := w.heap[g]? = some (.cells (vs.map U).toArray t (0, 0))
section
variable {w w' : World} {g : Nat} {t : TypeId} {vs : List Nat}
theorem AR.lt (h : AR w g t vs) : g < w.heap.size := (Array.getElem?_eq_some_iff.1 h).1
theorem AR.cell (h : AR w g t vs) (i : Nat) (x : Nat) (hx : vs[i]? = some x) : w.cell? ⟨g, i, none⟩ = some (.int .u32 (x : Int)) := by
  unfold AR at h
  simp [World.cell?, h, hx, U]
theorem AR.fr (h : AR w g t vs) (i : Nat) : w.frozen? ⟨g, i, none⟩ = false := by
  unfold AR at h
  simp [World.frozen?, h]
theorem AR.set_ (h : AR w g t vs) (i : Nat) (x : Nat) : AR (w.setCell ⟨g, i, none⟩ (.int .u32 (x : Int))) g t (vs.set i x) := by
  unfold AR at h ⊢
  simp [World.setCell, Array.getElem?_modify, h, U]
theorem AR.grown {row : Option Nat} (h : AR w g t vs) (hg : w.grownBy w' row) (hb : some g ≠ row) : AR w' g t vs := by
  have := hg.block g h.lt hb
  unfold AR at h ⊢
  rw [this]; exact h
theorem AR.other (h : AR w g t vs) {ad : Addr} (hne : g ≠ ad.block) (v : Value) : AR (w.setCell ad v) g t vs :=
  h.grown (grownBy_setCell w ad v) (by simpa using hne)
theorem AR.drewN (h : AR w g t vs) (k : Nat) : AR (w.drewN k) g t vs := h
theorem AR.drew (h : AR w g t vs) : AR w.drew g t vs := h
theorem AR.new (w : World) (t : TypeId) (vs : List Nat) : AR (w.alloc (.cells (vs.map U).toArray t)) w.heap.size t vs := heap_alloc_new w _
theorem BS.drewN {a : Option Addr} {n c : Nat} {xs : List UInt8} (h : BS w a n c xs) (k : Nat) : BS (w.drewN k) a n c xs := h
end
theorem grown_drewN {w w1 : World} {row : Option Nat} (h : w.grownBy w1 row) (k : Nat) : w.grownBy (w1.drewN k) row := ⟨h.os, h.tape, h.output, h.size, h.block⟩
theorem drop4 (p : List UInt8) (j : Nat) (h : 4 * j + 4 ≤ p.length) : ∃ x0 x1 x2 x3 r, p.drop (4 * j) = x0 :: x1 :: x2 :: x3 :: r := by
  have hl : 4 ≤ (p.drop (4 * j)).length := by rw [List.length_drop]; omega
  match hd : p.drop (4 * j), hl with
  | x0 :: x1 :: x2 :: x3 :: r, _ => exact ⟨x0, x1, x2, x3, r, rfl⟩
theorem grown_new {w w1 w2 : World} {row : Option Nat} {g : Nat} (h1 : w.grownBy w1 row) (h2 : w1.grownBy w2 (some g)) (hg : w.heap.size ≤ g) : w.grownBy w2 row :=
  ⟨h2.os.trans h1.os, h2.tape.trans h1.tape, h2.output.trans h1.output, Nat.le_trans h1.size h2.size, fun k hk hne => (h2.block k (Nat.lt_of_lt_of_le hk h1.size) (by simp; omega)).trans (h1.block k hk hne)⟩
theorem grown_weak {w w1 : World} {row : Option Nat} (h : w.grownBy w1 none) : w.grownBy w1 row := ⟨h.os, h.tape, h.output, h.size, fun k hk _ => h.block k hk (by simp)⟩
theorem grown_set {w w1 : World} {g : Nat} (h : w.grownBy w1 (some g)) (i : Nat) (v : Value) : w.grownBy (w1.setCell ⟨g, i, none⟩ v) (some g) := grown_trans h (grownBy_setCell w1 ⟨g, i, none⟩ v)
theorem ret_u32 {a b : Int} (h : a = b) : Ending.returned (.int .u32 a) = .returned (.int .u32 b) := by rw [h]
theorem rotr_lt (x r : Nat) (hx : x < 4294967296) : rotr x r < 4294967296 := by
  unfold rotr
  refine Nat.or_lt_two_pow (n := 32) ?_ (Nat.mod_lt _ (by decide))
  exact Nat.lt_of_le_of_lt (by rw [Nat.shiftRight_eq_div_pow]; exact Nat.div_le_self _ _) hx
theorem BS.at_ {w : World} {a : Option Addr} {n c : Nat} {xs : List UInt8} (h : BS w a n c xs) (hn : 0 < n) : ∃ b o, a = some ⟨b, o, none⟩ ∧ ∀ j x, xs[j]? = some x → w.cell? ⟨b, o + j, none⟩ = some (.int .u8 (x.toNat : Int)) := by
  cases a with
  | none => have := (RS.nil_inv h).1; omega
  | some ad =>
    obtain ⟨h1, h2⟩ := h.2.2.2.2.2 ad rfl
    have hs := h1 (Nat.lt_of_lt_of_le hn (RS.le h))
    refine ⟨ad.block, ad.off, by cases ad; simp_all, fun j x hx => h2 j (B x) (by rw [List.getElem?_map, hx]; rfl)⟩
def AB (w : World) (g : Nat) (t : TypeId) (vs : List UInt8) : Prop := w.heap[g]? = some (.cells (vs.map B).toArray t (0, 0))
section
variable {w w' : World} {g : Nat} {t : TypeId} {vs : List UInt8}
theorem AB.lt (h : AB w g t vs) : g < w.heap.size := (Array.getElem?_eq_some_iff.1 h).1
theorem AB.cell (h : AB w g t vs) (i : Nat) (x : UInt8) (hx : vs[i]? = some x) : w.cell? ⟨g, i, none⟩ = some (B x) := by
  unfold AB at h
  simp [World.cell?, h, hx]
theorem AB.fr (h : AB w g t vs) (i : Nat) : w.frozen? ⟨g, i, none⟩ = false := by
  unfold AB at h
  simp [World.frozen?, h]
theorem AB.set_ (h : AB w g t vs) (i : Nat) (x : UInt8) : AB (w.setCell ⟨g, i, none⟩ (B x)) g t (vs.set i x) := by
  unfold AB at h ⊢
  simp [World.setCell, Array.getElem?_modify, h]
theorem AB.grown {row : Option Nat} (h : AB w g t vs) (hg : w.grownBy w' row) (hb : some g ≠ row) : AB w' g t vs := by
  have := hg.block g h.lt hb
  unfold AB at h ⊢
  rw [this]; exact h
end
theorem grownBy_setRow (w : World) (g : Nat) (cs : Array Value) : w.grownBy (w.setRow g cs) (some g) := by
  refine ⟨rfl, rfl, rfl, by simp, fun k _ hk => ?_⟩
  have : g ≠ k := fun h => hk (by rw [h])
  simp [World.setRow, Array.getElem?_modify, this]
end Go.Proofs.YtkhcpnmbhbhcgaaDoor

/- Words: turns, four bytes as a word, the digest of nothing. -/
set_option maxRecDepth 100000
set_option linter.unusedVariables false
namespace Go.Proofs.YtkhcpnmbhbhcgaaDoor
open Go.RowKit
theorem rot_7 (w : World) (x : Nat) (hx : x < 4294967296) : Calls Tryd.prog 82 #[.int .u32 (x : Int), .int .i64 (-7)] w fun e w' => e = .returned (.int .u32 ((rotr x 7 : Nat) : Int)) ∧ w = w' := by
  have hb : bits .and .u64 (IntKind.u64.wrap (-7)) 31 = 25 := by decide
  have hv : bits .or .u32 ((x : Int) * 33554432 % 4294967296) ((x : Int) / 128) = ((rotr x 7 : Nat) : Int) := by
    have h := u32_or_nat (x * 33554432 % 4294967296) (x / 128) (by omega) (by omega)
    rw [show ((x * 33554432 % 4294967296 : Nat) : Int) = (x : Int) * 33554432 % 4294967296 by omega, show ((x / 128 : Nat) : Int) = (x : Int) / 128 by omega] at h
    rw [h]
    unfold rotr
    rw [Nat.or_comm, Nat.shiftRight_eq_div_pow, Nat.shiftLeft_eq]
  have HV := Lib.hid hv
  clear hv
  go_enter Tryd.func82, Tryd.ntmps82
  go_wp2
  go_ret
  exact ⟨ret_u32 HV.out, rfl⟩
theorem rot_18 (w : World) (x : Nat) (hx : x < 4294967296) : Calls Tryd.prog 82 #[.int .u32 (x : Int), .int .i64 (-18)] w fun e w' => e = .returned (.int .u32 ((rotr x 18 : Nat) : Int)) ∧ w = w' := by
  have hb : bits .and .u64 (IntKind.u64.wrap (-18)) 31 = 14 := by decide
  have hv : bits .or .u32 ((x : Int) * 16384 % 4294967296) ((x : Int) / 262144) = ((rotr x 18 : Nat) : Int) := by
    have h := u32_or_nat (x * 16384 % 4294967296) (x / 262144) (by omega) (by omega)
    rw [show ((x * 16384 % 4294967296 : Nat) : Int) = (x : Int) * 16384 % 4294967296 by omega, show ((x / 262144 : Nat) : Int) = (x : Int) / 262144 by omega] at h
    rw [h]
    unfold rotr
    rw [Nat.or_comm, Nat.shiftRight_eq_div_pow, Nat.shiftLeft_eq]
  have HV := Lib.hid hv
  clear hv
  go_enter Tryd.func82, Tryd.ntmps82
  go_wp2
  go_ret
  exact ⟨ret_u32 HV.out, rfl⟩
theorem rot_17 (w : World) (x : Nat) (hx : x < 4294967296) : Calls Tryd.prog 82 #[.int .u32 (x : Int), .int .i64 (-17)] w fun e w' => e = .returned (.int .u32 ((rotr x 17 : Nat) : Int)) ∧ w = w' := by
  have hb : bits .and .u64 (IntKind.u64.wrap (-17)) 31 = 15 := by decide
  have hv : bits .or .u32 ((x : Int) * 32768 % 4294967296) ((x : Int) / 131072) = ((rotr x 17 : Nat) : Int) := by
    have h := u32_or_nat (x * 32768 % 4294967296) (x / 131072) (by omega) (by omega)
    rw [show ((x * 32768 % 4294967296 : Nat) : Int) = (x : Int) * 32768 % 4294967296 by omega, show ((x / 131072 : Nat) : Int) = (x : Int) / 131072 by omega] at h
    rw [h]
    unfold rotr
    rw [Nat.or_comm, Nat.shiftRight_eq_div_pow, Nat.shiftLeft_eq]
  have HV := Lib.hid hv
  clear hv
  go_enter Tryd.func82, Tryd.ntmps82
  go_wp2
  go_ret
  exact ⟨ret_u32 HV.out, rfl⟩
theorem rot_19 (w : World) (x : Nat) (hx : x < 4294967296) : Calls Tryd.prog 82 #[.int .u32 (x : Int), .int .i64 (-19)] w fun e w' => e = .returned (.int .u32 ((rotr x 19 : Nat) : Int)) ∧ w = w' := by
  have hb : bits .and .u64 (IntKind.u64.wrap (-19)) 31 = 13 := by decide
  have hv : bits .or .u32 ((x : Int) * 8192 % 4294967296) ((x : Int) / 524288) = ((rotr x 19 : Nat) : Int) := by
    have h := u32_or_nat (x * 8192 % 4294967296) (x / 524288) (by omega) (by omega)
    rw [show ((x * 8192 % 4294967296 : Nat) : Int) = (x : Int) * 8192 % 4294967296 by omega, show ((x / 524288 : Nat) : Int) = (x : Int) / 524288 by omega] at h
    rw [h]
    unfold rotr
    rw [Nat.or_comm, Nat.shiftRight_eq_div_pow, Nat.shiftLeft_eq]
  have HV := Lib.hid hv
  clear hv
  go_enter Tryd.func82, Tryd.ntmps82
  go_wp2
  go_ret
  exact ⟨ret_u32 HV.out, rfl⟩
theorem rot_6 (w : World) (x : Nat) (hx : x < 4294967296) : Calls Tryd.prog 82 #[.int .u32 (x : Int), .int .i64 (-6)] w fun e w' => e = .returned (.int .u32 ((rotr x 6 : Nat) : Int)) ∧ w = w' := by
  have hb : bits .and .u64 (IntKind.u64.wrap (-6)) 31 = 26 := by decide
  have hv : bits .or .u32 ((x : Int) * 67108864 % 4294967296) ((x : Int) / 64) = ((rotr x 6 : Nat) : Int) := by
    have h := u32_or_nat (x * 67108864 % 4294967296) (x / 64) (by omega) (by omega)
    rw [show ((x * 67108864 % 4294967296 : Nat) : Int) = (x : Int) * 67108864 % 4294967296 by omega, show ((x / 64 : Nat) : Int) = (x : Int) / 64 by omega] at h
    rw [h]
    unfold rotr
    rw [Nat.or_comm, Nat.shiftRight_eq_div_pow, Nat.shiftLeft_eq]
  have HV := Lib.hid hv
  clear hv
  go_enter Tryd.func82, Tryd.ntmps82
  go_wp2
  go_ret
  exact ⟨ret_u32 HV.out, rfl⟩
theorem rot_11 (w : World) (x : Nat) (hx : x < 4294967296) : Calls Tryd.prog 82 #[.int .u32 (x : Int), .int .i64 (-11)] w fun e w' => e = .returned (.int .u32 ((rotr x 11 : Nat) : Int)) ∧ w = w' := by
  have hb : bits .and .u64 (IntKind.u64.wrap (-11)) 31 = 21 := by decide
  have hv : bits .or .u32 ((x : Int) * 2097152 % 4294967296) ((x : Int) / 2048) = ((rotr x 11 : Nat) : Int) := by
    have h := u32_or_nat (x * 2097152 % 4294967296) (x / 2048) (by omega) (by omega)
    rw [show ((x * 2097152 % 4294967296 : Nat) : Int) = (x : Int) * 2097152 % 4294967296 by omega, show ((x / 2048 : Nat) : Int) = (x : Int) / 2048 by omega] at h
    rw [h]
    unfold rotr
    rw [Nat.or_comm, Nat.shiftRight_eq_div_pow, Nat.shiftLeft_eq]
  have HV := Lib.hid hv
  clear hv
  go_enter Tryd.func82, Tryd.ntmps82
  go_wp2
  go_ret
  exact ⟨ret_u32 HV.out, rfl⟩
theorem rot_25 (w : World) (x : Nat) (hx : x < 4294967296) : Calls Tryd.prog 82 #[.int .u32 (x : Int), .int .i64 (-25)] w fun e w' => e = .returned (.int .u32 ((rotr x 25 : Nat) : Int)) ∧ w = w' := by
  have hb : bits .and .u64 (IntKind.u64.wrap (-25)) 31 = 7 := by decide
  have hv : bits .or .u32 ((x : Int) * 128 % 4294967296) ((x : Int) / 33554432) = ((rotr x 25 : Nat) : Int) := by
    have h := u32_or_nat (x * 128 % 4294967296) (x / 33554432) (by omega) (by omega)
    rw [show ((x * 128 % 4294967296 : Nat) : Int) = (x : Int) * 128 % 4294967296 by omega, show ((x / 33554432 : Nat) : Int) = (x : Int) / 33554432 by omega] at h
    rw [h]
    unfold rotr
    rw [Nat.or_comm, Nat.shiftRight_eq_div_pow, Nat.shiftLeft_eq]
  have HV := Lib.hid hv
  clear hv
  go_enter Tryd.func82, Tryd.ntmps82
  go_wp2
  go_ret
  exact ⟨ret_u32 HV.out, rfl⟩
theorem rot_2 (w : World) (x : Nat) (hx : x < 4294967296) : Calls Tryd.prog 82 #[.int .u32 (x : Int), .int .i64 (-2)] w fun e w' => e = .returned (.int .u32 ((rotr x 2 : Nat) : Int)) ∧ w = w' := by
  have hb : bits .and .u64 (IntKind.u64.wrap (-2)) 31 = 30 := by decide
  have hv : bits .or .u32 ((x : Int) * 1073741824 % 4294967296) ((x : Int) / 4) = ((rotr x 2 : Nat) : Int) := by
    have h := u32_or_nat (x * 1073741824 % 4294967296) (x / 4) (by omega) (by omega)
    rw [show ((x * 1073741824 % 4294967296 : Nat) : Int) = (x : Int) * 1073741824 % 4294967296 by omega, show ((x / 4 : Nat) : Int) = (x : Int) / 4 by omega] at h
    rw [h]
    unfold rotr
    rw [Nat.or_comm, Nat.shiftRight_eq_div_pow, Nat.shiftLeft_eq]
  have HV := Lib.hid hv
  clear hv
  go_enter Tryd.func82, Tryd.ntmps82
  go_wp2
  go_ret
  exact ⟨ret_u32 HV.out, rfl⟩
theorem rot_13 (w : World) (x : Nat) (hx : x < 4294967296) : Calls Tryd.prog 82 #[.int .u32 (x : Int), .int .i64 (-13)] w fun e w' => e = .returned (.int .u32 ((rotr x 13 : Nat) : Int)) ∧ w = w' := by
  have hb : bits .and .u64 (IntKind.u64.wrap (-13)) 31 = 19 := by decide
  have hv : bits .or .u32 ((x : Int) * 524288 % 4294967296) ((x : Int) / 8192) = ((rotr x 13 : Nat) : Int) := by
    have h := u32_or_nat (x * 524288 % 4294967296) (x / 8192) (by omega) (by omega)
    rw [show ((x * 524288 % 4294967296 : Nat) : Int) = (x : Int) * 524288 % 4294967296 by omega, show ((x / 8192 : Nat) : Int) = (x : Int) / 8192 by omega] at h
    rw [h]
    unfold rotr
    rw [Nat.or_comm, Nat.shiftRight_eq_div_pow, Nat.shiftLeft_eq]
  have HV := Lib.hid hv
  clear hv
  go_enter Tryd.func82, Tryd.ntmps82
  go_wp2
  go_ret
  exact ⟨ret_u32 HV.out, rfl⟩
theorem rot_22 (w : World) (x : Nat) (hx : x < 4294967296) : Calls Tryd.prog 82 #[.int .u32 (x : Int), .int .i64 (-22)] w fun e w' => e = .returned (.int .u32 ((rotr x 22 : Nat) : Int)) ∧ w = w' := by
  have hb : bits .and .u64 (IntKind.u64.wrap (-22)) 31 = 10 := by decide
  have hv : bits .or .u32 ((x : Int) * 1024 % 4294967296) ((x : Int) / 4194304) = ((rotr x 22 : Nat) : Int) := by
    have h := u32_or_nat (x * 1024 % 4294967296) (x / 4194304) (by omega) (by omega)
    rw [show ((x * 1024 % 4294967296 : Nat) : Int) = (x : Int) * 1024 % 4294967296 by omega, show ((x / 4194304 : Nat) : Int) = (x : Int) / 4194304 by omega] at h
    rw [h]
    unfold rotr
    rw [Nat.or_comm, Nat.shiftRight_eq_div_pow, Nat.shiftLeft_eq]
  have HV := Lib.hid hv
  clear hv
  go_enter Tryd.func82, Tryd.ntmps82
  go_wp2
  go_ret
  exact ⟨ret_u32 HV.out, rfl⟩
end Go.Proofs.YtkhcpnmbhbhcgaaDoor

/- ring.four: four bytes as a word. -/
set_option maxRecDepth 100000
set_option linter.unusedVariables false
namespace Go.Proofs.YtkhcpnmbhbhcgaaDoor
open Go.RowKit
theorem or4 (a b c d : Nat) (ha : a < 256) (hb : b < 256) (hc : c < 256) (hd : d < 256) :
    bits .or .u32 (bits .or .u32 (bits .or .u32 ((a : Int) * 16777216) ((b : Int) * 65536)) ((c : Int) * 256)) (d : Int) = ((((a * 256 + b) * 256 + c) * 256 + d : Nat) : Int) := by
  have e1 : bits .or .u32 ((a : Int) * 16777216) ((b : Int) * 65536) = ((a * 16777216 + b * 65536 : Nat) : Int) := by
    rw [show ((a : Int) * 16777216) = ((a * 16777216 : Nat) : Int) by omega, show ((b : Int) * 65536) = ((b * 65536 : Nat) : Int) by omega, u32_or_nat _ _ (by omega) (by omega), show a * 16777216 = a * 2 ^ 24 by omega, nat_join 24 _ _ (by omega) (by omega)]
  have e2 : bits .or .u32 ((a * 16777216 + b * 65536 : Nat) : Int) ((c : Int) * 256) = ((a * 16777216 + b * 65536 + c * 256 : Nat) : Int) := by
    rw [show ((c : Int) * 256) = ((c * 256 : Nat) : Int) by omega, u32_or_nat _ _ (by omega) (by omega), show a * 16777216 + b * 65536 = (a * 256 + b) * 2 ^ 16 by omega, nat_join 16 _ _ (by omega) (by omega)]
  rw [e1, e2, u32_or_nat _ _ (by omega) (by omega), show a * 16777216 + b * 65536 + c * 256 = ((a * 256 + b) * 256 + c) * 2 ^ 8 by omega, nat_join 8 _ _ (by omega) (by omega)]
theorem four_any (w : World) {a : Option Addr} {n c : Nat} {xs : List UInt8} (hx : BS w a n c xs) (x0 x1 x2 x3 : UInt8) (r : List UInt8) (hxs : xs = x0 :: x1 :: x2 :: x3 :: r) :
    Calls Tryd.prog 81 #[.slice a n c] w fun e w' => e = .returned (.int .u32 ((be4 [x0, x1, x2, x3] : Nat) : Int)) ∧ ∃ m, w' = w.drewN m := by
  have hl := BS.len hx
  have hn : 4 ≤ n := by rw [← hl, hxs]; simp
  have hle := RS.le hx
  have hmx := RS.max hx
  unfold maxLen at hmx
  obtain ⟨b, o, rfl, hc⟩ := hx.at_ (by omega)
  have q0 := hc 0 x0 (by rw [hxs]; rfl)
  have q1 := hc 1 x1 (by rw [hxs]; rfl)
  have q2 := hc 2 x2 (by rw [hxs]; rfl)
  have q3 := hc 3 x3 (by rw [hxs]; rfl)
  have t0 := x0.toNat_lt
  have t1 := x1.toNat_lt
  have t2 := x2.toNat_lt
  have t3 := x3.toNat_lt
  rw [Nat.add_zero] at q0
  clear hc hx hxs hl
  go_enter Tryd.func81, Tryd.ntmps81
  go_wp2
  go_quiet (fail)
  go_wp2
  go_ret
  refine ⟨ret_u32 ?_, _, rfl⟩
  rw [or4 _ _ _ _ t0 t1 t2 t3]
  simp [be4]
end Go.Proofs.YtkhcpnmbhbhcgaaDoor

/- Arrays of words; what a block of SHA-256 computes, step by step. -/
set_option maxRecDepth 100000
set_option linter.unusedVariables false
namespace Go.Proofs.YtkhcpnmbhbhcgaaDoor
open Go.RowKit
/-- the first j words, then zeros -/
def filled (p : List UInt8) (j : Nat) : List Nat := (words p).take j ++ List.replicate (64 - j) 0
theorem words_get (p : List UInt8) (j : Nat) (h : j < 16) : (words p)[j]? = some (be4 ((p.drop (4 * j)).take 4)) := by
  unfold words; rw [List.getElem?_map, List.getElem?_range h]; rfl
theorem words_len (p : List UInt8) : (words p).length = 16 := by simp [words]
theorem filled_len (p : List UInt8) (j : Nat) (h : j ≤ 16) : (filled p j).length = 64 := by
  unfold filled; rw [List.length_append, List.length_take, words_len, List.length_replicate]; omega
theorem filled_set (p : List UInt8) (j : Nat) (h : j < 16) : (filled p j).set j (be4 ((p.drop (4 * j)).take 4)) = filled p (j + 1) := by
  unfold filled
  have hl : ((words p).take j).length = j := by rw [List.length_take, words_len]; omega
  rw [List.set_append_right _ _ (by omega), hl, Nat.sub_self, show 64 - j = (64 - (j + 1)) + 1 by omega, List.replicate_succ, List.set_cons_zero]
  have e : (words p).take (j + 1) = (words p).take j ++ [be4 ((p.drop (4 * j)).take 4)] := by rw [List.take_add_one, words_get p j h]; rfl
  rw [e]; simp
theorem iter_succ {α : Type} (f : α → α) (n : Nat) : ∀ x, iter f (n + 1) x = f (iter f n x) := by
  induction n with
  | zero => intro x; rfl
  | succ n ih => intro x; show iter f (n + 1) (f x) = _; rw [ih]; rfl
/-- the block's words, so many of the 48 further ones, and zeros -/
def sched (p : List UInt8) (n : Nat) : List Nat := iter moreW n (words p)
theorem sched_len (p : List UInt8) (n : Nat) : (sched p n).length = 16 + n := by
  unfold sched
  induction n with
  | zero => exact words_len p
  | succ n ih =>
    have e : ∀ w, (moreW w).length = w.length + 1 := by intro w; simp [moreW]
    rw [iter_succ, e, ih]; omega
def grownW (p : List UInt8) (j : Nat) : List Nat := sched p (j - 16) ++ List.replicate (64 - j) 0
theorem grownW_start (p : List UInt8) : filled p 16 = grownW p 16 := by
  unfold filled grownW sched
  rw [List.take_of_length_le (by rw [words_len]; omega)]; rfl
theorem grownW_end (p : List UInt8) : grownW p 64 = schedS p := by unfold grownW schedS sched; simp
theorem grownW_len (p : List UInt8) (j : Nat) (h : 16 ≤ j) (h2 : j ≤ 64) : (grownW p j).length = 64 := by
  unfold grownW; rw [List.length_append, sched_len, List.length_replicate]; omega
theorem grownW_get (p : List UInt8) (j i : Nat) (h : 16 ≤ j) (h2 : i < j) : (grownW p j)[i]? = some ((sched p (j - 16)).getD i 0) := by
  unfold grownW
  have hl := sched_len p (j - 16)
  rw [List.getElem?_append_left (by omega), List.getD_eq_getElem?_getD, List.getElem?_eq_getElem (by omega)]; rfl
theorem grownW_set (p : List UInt8) (j : Nat) (h : 16 ≤ j) (h2 : j < 64) :
    (grownW p j).set j (((sched p (j - 16)).getD (j - 16) 0 + sg0 ((sched p (j - 16)).getD (j - 15) 0) + (sched p (j - 16)).getD (j - 7) 0 + sg1 ((sched p (j - 16)).getD (j - 2) 0)) % 4294967296) = grownW p (j + 1) := by
  have hl := sched_len p (j - 16)
  unfold grownW
  rw [List.set_append_right _ _ (by omega), hl, show j - (16 + (j - 16)) = 0 by omega, show 64 - j = (64 - (j + 1)) + 1 by omega, List.replicate_succ, List.set_cons_zero]
  have e : sched p (j + 1 - 16) = sched p (j - 16) ++ [((sched p (j - 16)).getD (j - 16) 0 + sg0 ((sched p (j - 16)).getD (j - 15) 0) + (sched p (j - 16)).getD (j - 7) 0 + sg1 ((sched p (j - 16)).getD (j - 2) 0)) % 4294967296] := by
    rw [show j + 1 - 16 = (j - 16) + 1 by omega]
    unfold sched
    rw [iter_succ]
    show moreW (sched p (j - 16)) = _
    unfold moreW
    rw [hl, show 16 + (j - 16) - 16 = j - 16 by omega, show 16 + (j - 16) - 15 = j - 15 by omega, show 16 + (j - 16) - 7 = j - 7 by omega, show 16 + (j - 16) - 2 = j - 2 by omega]
    rfl
  rw [e]; simp
theorem be4_lt (x0 x1 x2 x3 : UInt8) : be4 [x0, x1, x2, x3] < 4294967296 := by
  have := x0.toNat_lt; have := x1.toNat_lt; have := x2.toNat_lt; have := x3.toNat_lt
  simp [be4]; omega
theorem words_lt (p : List UInt8) : ∀ x ∈ words p, x < 4294967296 := by
  intro x hx
  obtain ⟨i, _, rfl⟩ := List.mem_map.1 hx
  have h4 : ((p.drop (4 * i)).take 4).length ≤ 4 := by rw [List.length_take]; omega
  generalize (p.drop (4 * i)).take 4 = l at h4
  match l, h4 with
  | [], _ => decide
  | [a], _ => have := a.toNat_lt; simp [be4]; omega
  | [a, b], _ => have := a.toNat_lt; have := b.toNat_lt; simp [be4]; omega
  | [a, b, c], _ => have := a.toNat_lt; have := b.toNat_lt; have := c.toNat_lt; simp [be4]; omega
  | [a, b, c, d], _ => exact be4_lt a b c d
theorem sched_lt (p : List UInt8) (n : Nat) : ∀ x ∈ sched p n, x < 4294967296 := by
  unfold sched
  induction n with
  | zero => exact words_lt p
  | succ n ih =>
    rw [iter_succ]; unfold moreW
    intro x hx
    rcases List.mem_append.1 hx with h | h
    · exact ih x h
    · rw [List.mem_singleton.1 h]; exact Nat.mod_lt _ (by decide)
theorem sched_getD_lt (p : List UInt8) (n i : Nat) : (sched p n).getD i 0 < 4294967296 := by
  rw [List.getD_eq_getElem?_getD]
  cases h : (sched p n)[i]? with
  | none => decide
  | some x => exact sched_lt p n x (List.mem_of_getElem? h)
theorem xor3 (a b c : Nat) (ha : a < 4294967296) (hb : b < 4294967296) (hc : c < 4294967296) : bits .xor .u32 (bits .xor .u32 (a : Int) (b : Int)) (c : Int) = ((a ^^^ b ^^^ c : Nat) : Int) := by
  rw [u32_xor_nat _ _ ha hb, u32_xor_nat _ _ (Nat.xor_lt_two_pow (n := 32) ha hb) hc]
theorem sg0_int (x : Nat) (hx : x < 4294967296) : bits .xor .u32 (bits .xor .u32 ((rotr x 7 : Nat) : Int) ((rotr x 18 : Nat) : Int)) ((x : Int) / 8) = ((sg0 x : Nat) : Int) := by
  rw [show ((x : Int) / 8) = ((x / 8 : Nat) : Int) by omega, xor3 _ _ _ (rotr_lt _ _ hx) (rotr_lt _ _ hx) (by omega)]
  unfold sg0; rw [Nat.shiftRight_eq_div_pow]
theorem sg1_int (x : Nat) (hx : x < 4294967296) : bits .xor .u32 (bits .xor .u32 ((rotr x 17 : Nat) : Int) ((rotr x 19 : Nat) : Int)) ((x : Int) / 1024) = ((sg1 x : Nat) : Int) := by
  rw [show ((x : Int) / 1024) = ((x / 1024 : Nat) : Int) by omega, xor3 _ _ _ (rotr_lt _ _ hx) (rotr_lt _ _ hx) (by omega)]
  unfold sg1; rw [Nat.shiftRight_eq_div_pow]
theorem sg0_lt (x : Nat) (hx : x < 4294967296) : sg0 x < 4294967296 := by
  unfold sg0
  exact Nat.xor_lt_two_pow (n := 32) (Nat.xor_lt_two_pow (rotr_lt _ _ hx) (rotr_lt _ _ hx)) (by rw [Nat.shiftRight_eq_div_pow]; omega)
theorem sg1_lt (x : Nat) (hx : x < 4294967296) : sg1 x < 4294967296 := by
  unfold sg1
  exact Nat.xor_lt_two_pow (n := 32) (Nat.xor_lt_two_pow (rotr_lt _ _ hx) (rotr_lt _ _ hx)) (by rw [Nat.shiftRight_eq_div_pow]; omega)
theorem kS_len : kS.length = 64 := by decide +kernel
theorem schedS_len (p : List UInt8) : (schedS p).length = 64 := sched_len p 48
/-- the state behind so many rounds -/
def RV (p : List UInt8) (ss : List Nat) (j : Nat) : List Nat := roundsS ((kS.zip (schedS p)).take j) ss
structure VR (p : List UInt8) (ss : List Nat) (W3 wr : World) (g9 : Nat) (j : Nat) (vs : List Nat) : Prop where
  hv : RV p ss j = vs
  lt : ∀ x ∈ vs, x < 4294967296
  len : vs.length = 8
  ar : AR wr g9 127 vs
  gr : W3.grownBy wr (some g9)
theorem eight {vs : List Nat} (h : vs.length = 8) : ∃ a b c d e f g i, vs = [a, b, c, d, e, f, g, i] := by
  match vs, h with
  | [a, b, c, d, e, f, g, i], _ => exact ⟨a, b, c, d, e, f, g, i, rfl⟩
theorem u32_not (x : Nat) (hx : x < 4294967296) : (4294967295 - x) < 4294967296 := by omega
theorem RV_zero (p : List UInt8) (ss : List Nat) : RV p ss 0 = ss := by unfold RV; simp [roundsS]
theorem roundsS_snoc (l : List (Nat × Nat)) (k w : Nat) : ∀ v, roundsS (l ++ [(k, w)]) v = roundS k w (roundsS l v) := by
  induction l with
  | nil => intro v; rfl
  | cons x l ih => obtain ⟨a, b⟩ := x; intro v; exact ih _
theorem RV_succ (p : List UInt8) (ss : List Nat) (j k w : Nat) (hk : kS[j]? = some k) (hw : (schedS p)[j]? = some w) : RV p ss (j + 1) = roundS k w (RV p ss j) := by
  unfold RV
  have h : (kS.zip (schedS p))[j]? = some (k, w) := by rw [List.getElem?_zip_eq_some]; exact ⟨hk, hw⟩
  rw [List.take_add_one, h]
  exact roundsS_snoc _ _ _ _
theorem RV_all (p : List UInt8) (ss : List Nat) : RV p ss 64 = roundsS (kS.zip (schedS p)) ss := by
  unfold RV
  rw [List.take_of_length_le (by rw [List.length_zip, kS_len, schedS_len]; omega)]
/-- the first j words with those of v added -/
def mixW (ss vs : List Nat) (j : Nat) : List Nat := ((ss.zip vs).map fun x => (x.1 + x.2) % 4294967296).take j ++ ss.drop j
theorem mixW_zero (ss vs : List Nat) : mixW ss vs 0 = ss := by simp [mixW]
theorem mixW_get (ss vs : List Nat) (j : Nat) (h : ss.length = vs.length) (hj : j ≤ ss.length) : (mixW ss vs j)[j]? = ss[j]? := by
  unfold mixW
  have hl : (((ss.zip vs).map fun x => (x.1 + x.2) % 4294967296).take j).length = j := by
    rw [List.length_take, List.length_map, List.length_zip]; omega
  rw [List.getElem?_append_right (by omega), hl, Nat.sub_self, List.getElem?_drop]; rfl
theorem mixW_set (ss vs : List Nat) (j a b : Nat) (h : ss.length = vs.length) (ha : ss[j]? = some a) (hb : vs[j]? = some b) : (mixW ss vs j).set j ((a + b) % 4294967296) = mixW ss vs (j + 1) := by
  unfold mixW
  have hj : j < ss.length := (List.getElem?_eq_some_iff.1 ha).1
  have hl : (((ss.zip vs).map fun x => (x.1 + x.2) % 4294967296).take j).length = j := by
    rw [List.length_take, List.length_map, List.length_zip]; omega
  have hz : (ss.zip vs)[j]? = some (a, b) := by rw [List.getElem?_zip_eq_some]; exact ⟨ha, hb⟩
  rw [List.set_append_right _ _ (by omega), hl, Nat.sub_self, List.take_add_one, List.getElem?_map, hz]
  have hd : ss.drop j = a :: ss.drop (j + 1) := by
    obtain ⟨h1, h2⟩ := List.getElem?_eq_some_iff.1 ha
    rw [List.drop_eq_getElem_cons h1, h2]
  rw [hd]; simp
theorem mixW_all (ss vs : List Nat) (n : Nat) (h : ss.length = n) (h2 : vs.length = n) : mixW ss vs n = (ss.zip vs).map fun x => (x.1 + x.2) % 4294967296 := by
  unfold mixW
  rw [List.take_of_length_le (by rw [List.length_map, List.length_zip]; omega), List.drop_eq_nil_of_le (by omega), List.append_nil]
theorem mixW_len (ss vs : List Nat) (j : Nat) (h : ss.length = vs.length) : (mixW ss vs j).length = ss.length := by
  unfold mixW
  rw [List.length_append, List.length_take, List.length_map, List.length_zip, List.length_drop]; omega
theorem Sg1_int (x : Nat) (hx : x < 4294967296) : bits .xor .u32 (bits .xor .u32 ((rotr x 6 : Nat) : Int) ((rotr x 11 : Nat) : Int)) ((rotr x 25 : Nat) : Int) = ((Sg1 x : Nat) : Int) :=
  xor3 _ _ _ (rotr_lt _ _ hx) (rotr_lt _ _ hx) (rotr_lt _ _ hx)
theorem Sg0_int (x : Nat) (hx : x < 4294967296) : bits .xor .u32 (bits .xor .u32 ((rotr x 2 : Nat) : Int) ((rotr x 13 : Nat) : Int)) ((rotr x 22 : Nat) : Int) = ((Sg0 x : Nat) : Int) :=
  xor3 _ _ _ (rotr_lt _ _ hx) (rotr_lt _ _ hx) (rotr_lt _ _ hx)
theorem Sg1_lt (x : Nat) (hx : x < 4294967296) : Sg1 x < 4294967296 := Nat.xor_lt_two_pow (n := 32) (Nat.xor_lt_two_pow (rotr_lt _ _ hx) (rotr_lt _ _ hx)) (rotr_lt _ _ hx)
theorem Sg0_lt (x : Nat) (hx : x < 4294967296) : Sg0 x < 4294967296 := Nat.xor_lt_two_pow (n := 32) (Nat.xor_lt_two_pow (rotr_lt _ _ hx) (rotr_lt _ _ hx)) (rotr_lt _ _ hx)
theorem and_lt32 (a b : Nat) (ha : a < 4294967296) : a &&& b < 4294967296 := Nat.lt_of_le_of_lt Nat.and_le_left ha
theorem maj_int (a b c : Nat) (ha : a < 4294967296) (hb : b < 4294967296) (hc : c < 4294967296) : bits .xor .u32 (bits .xor .u32 (bits .and .u32 (a : Int) (b : Int)) (bits .and .u32 (a : Int) (c : Int))) (bits .and .u32 (b : Int) (c : Int)) = ((majS a b c : Nat) : Int) := by
  rw [u32_and_nat _ _ ha hb, u32_and_nat _ _ ha hc, u32_and_nat _ _ hb hc]
  exact xor3 _ _ _ (and_lt32 _ _ ha) (and_lt32 _ _ ha) (and_lt32 _ _ hb)
theorem maj_lt (a b c : Nat) (ha : a < 4294967296) (hb : b < 4294967296) (hc : c < 4294967296) : majS a b c < 4294967296 :=
  Nat.xor_lt_two_pow (n := 32) (Nat.xor_lt_two_pow (and_lt32 _ _ ha) (and_lt32 _ _ ha)) (and_lt32 _ _ hb)
theorem ch_lt (a b c : Nat) (ha : a < 4294967296) (hb : b < 4294967296) (hc : c < 4294967296) : chS a b c < 4294967296 :=
  Nat.xor_lt_two_pow (n := 32) (and_lt32 _ _ ha) (and_lt32 _ _ (by omega))
theorem ch_int (a b c : Nat) (ha : a < 4294967296) (hb : b < 4294967296) (hc : c < 4294967296) : bits .xor .u32 (bits .and .u32 (a : Int) (b : Int)) (bits .and .u32 (4294967295 - (a : Int)) (c : Int)) = ((chS a b c : Nat) : Int) := by
  rw [show (4294967295 - (a : Int)) = ((4294967295 - a : Nat) : Int) by omega, u32_and_nat _ _ ha hb, u32_and_nat _ _ (by omega) hc, u32_xor_nat _ _ (and_lt32 _ _ ha) (and_lt32 _ _ (by omega))]
  rfl
theorem not32 (a : Nat) (ha : a < 4294967296) : 4294967295 ^^^ a = 4294967295 - a := by
  apply Nat.eq_of_testBit_eq
  intro i
  rw [Nat.testBit_xor, show 4294967295 - a = 2 ^ 32 - (a + 1) by omega, Nat.testBit_two_pow_sub_succ (x := a) (n := 32) (by omega), show 4294967295 = 2 ^ 32 - 1 by rfl, Nat.testBit_two_pow_sub_one]
  by_cases hi : i < 32
  · simp [hi]
  · have : a.testBit i = false := Nat.testBit_lt_two_pow (Nat.lt_of_lt_of_le ha (by have h := Nat.pow_le_pow_right (show 0 < 2 by omega) (show 32 ≤ i by omega); exact h))
    simp [hi, this]
theorem ch_int2 (a b c : Nat) (ha : a < 4294967296) (hb : b < 4294967296) (hc : c < 4294967296) : bits .xor .u32 (bits .and .u32 (a : Int) (b : Int)) (bits .and .u32 (bits .xor .u32 (if IntKind.u32.signed = true then -1 else IntKind.u32.max) (a : Int)) (c : Int)) = ((chS a b c : Nat) : Int) := by
  rw [if_neg (by decide), show IntKind.u32.max = ((4294967295 : Nat) : Int) from rfl, u32_xor_nat _ _ (by omega) ha, not32 a ha, show ((4294967295 - a : Nat) : Int) = 4294967295 - (a : Int) by omega]
  exact ch_int a b c ha hb hc
theorem blockS_eq (ss : List Nat) (p : List UInt8) (vs : List Nat) (h : RV p ss 64 = vs) : blockS ss p = (ss.zip vs).map fun x => (x.1 + x.2) % 4294967296 := by
  rw [← h, RV_all]; rfl
end Go.Proofs.YtkhcpnmbhbhcgaaDoor

/- (*ring.state).block: one more block. -/
set_option maxRecDepth 100000
set_option linter.unusedVariables false
namespace Go.Proofs.YtkhcpnmbhbhcgaaDoor
open Go.RowKit
set_option maxHeartbeats 4000000 in
theorem block_any (w : World) {sb : Nat} {st : TypeId} {s0 s1 s2 s3 s4 s5 s6 s7 : Nat} {a : Option Addr} {c : Nat} {p : List UInt8} (hs : AR w sb st [s0, s1, s2, s3, s4, s5, s6, s7]) (hb8 : ∀ x ∈ [s0, s1, s2, s3, s4, s5, s6, s7], x < 4294967296) (hp : BS w a 64 c p) (hK : ∀ (j x : Nat), kS[j]? = some x → w.cell? ⟨3, j, none⟩ = some (.int .u32 (x : Int))) :
    Calls Tryd.prog 78 #[.pointer (some ⟨sb, 0, none⟩), .slice a 64 c] w fun e w' => (∃ v, e = .returned v) ∧ AR w' sb st (blockS [s0, s1, s2, s3, s4, s5, s6, s7] p) ∧ w.grownBy w' (some sb) := by
  have HK := Lib.hid hK
  clear hK
  have hpl := BS.len hp
  have hpc := RS.le hp
  have hpm := RS.max hp
  unfold maxLen at hpm
  go_enter Tryd.func78, Tryd.ntmps78
  go_wp2
  generalize hW : w.alloc _ = W
  have hA0 : AR W w.heap.size 135 (filled p 0) := by rw [← hW]; exact heap_alloc_new w _
  have hg0 : w.grownBy W none := by rw [← hW]; exact World.grownBy_alloc w _ _
  clear hW
  have hsz := hg0.size
  have hlt0 := hA0.lt
  have hs0 := hs.grown hg0 (by simp)
  have hp0 : BS W a 64 c p := RS.grown hp hg0 (by simp)
  have hsb := hs.lt
  go_loopw [16] (fun i wr => ∃ j : Nat, j ≤ 16 ∧ i = .int .i64 (j : Int) ∧ AR wr w.heap.size 135 (filled p j) ∧ W.grownBy wr (some w.heap.size)) (fun i _ => 16 - (intOf i).toNat)
  case atStart => exact ⟨0, by omega, rfl, hA0, World.grownBy.refl W _⟩
  case round =>
    obtain ⟨j, hj, rfl, hA, hg⟩ := hrel
    by_cases hlt : j < 16
    · have hpr : BS wr a 64 c p := by
        refine RS.keepb hp0 fun ad ha hb => hg.block _ hb ?_
        intro he
        obtain ⟨b, o, h1, h2⟩ := hp.at_ (by omega)
        have hx := (hp.2.2.2.2.2 ad ha)
        have := RS.block_lt hp ha (by omega) (by omega)
        simp at he; omega
      obtain ⟨x0, x1, x2, x3, r, hd⟩ := drop4 p j (by omega)
      have hset := filled_set p j hlt
      rw [hd] at hset
      have hlen := filled_len p j hj
      obtain ⟨v, hv⟩ : ∃ v, (filled p j)[j]? = some v := ⟨_, List.getElem?_eq_getElem (by omega)⟩
      have q1 := hA.cell j v hv
      have q2 := hA.fr j
      have HS := Lib.hid hset
      have HD := Lib.hid hd
      clear hset hd hv
      go_wp2_with (first
        | (refine LB_slice_l tB hpr (4 * j) _ _ rfl rfl _ _ rfl rfl (by omega) (by omega) ?_; intro a' hx1)
        | (go_at_call 81; refine (four_any _ hx1 x0 x1 x2 x3 r HD.out).mono ?_; rintro e w2 ⟨rfl, mm, rfl⟩))
      have hA2 := (hA.drewN mm).set_ j (be4 [x0, x1, x2, x3])
      rw [show (filled p j).set j (be4 [x0, x1, x2, x3]) = filled p (j + 1) from HS.out] at hA2
      exact ⟨⟨j + 1, by omega, by go_num, hA2, grown_trans (grown_drewN hg mm) (grownBy_setCell _ _ _)⟩, by simp [intOf]; omega⟩
    · obtain rfl : j = 16 := by omega
      rw [show ((16 : Nat) : Int) = 16 from rfl]
      rw [grownW_start] at hA
      obtain ⟨W1, rfl⟩ : ∃ W1, W1 = wr := ⟨wr, rfl⟩
      go_wp2
      go_loopw [6] (fun i wr => ∃ j : Nat, 16 ≤ j ∧ j ≤ 64 ∧ i = .int .i64 (j : Int) ∧ AR wr w.heap.size 135 (grownW p j) ∧ W.grownBy wr (some w.heap.size)) (fun i _ => 64 - (intOf i).toNat)
      case atStart => exact ⟨16, by omega, by omega, rfl, hA, hg⟩
      case round =>
        obtain ⟨j, hj16, hj, rfl, hA, hg⟩ := hrel
        by_cases hlt : j < 64
        · have g16 := hA.cell _ _ (grownW_get p j (j - 16) hj16 (by omega))
          have g15 := hA.cell _ _ (grownW_get p j (j - 15) hj16 (by omega))
          have g7 := hA.cell _ _ (grownW_get p j (j - 7) hj16 (by omega))
          have g2 := hA.cell _ _ (grownW_get p j (j - 2) hj16 (by omega))
          have hset := grownW_set p j hj16 hlt
          have l16 := sched_getD_lt p (j - 16) (j - 16)
          have l15 := sched_getD_lt p (j - 16) (j - 15)
          have l7 := sched_getD_lt p (j - 16) (j - 7)
          have l2 := sched_getD_lt p (j - 16) (j - 2)
          have hlen := grownW_len p j hj16 (by omega)
          obtain ⟨v, hv⟩ : ∃ v, (grownW p j)[j]? = some v := ⟨_, List.getElem?_eq_getElem (by omega)⟩
          have q1 := hA.cell j v hv
          have q2 := hA.fr j
          generalize (sched p (j - 16)).getD (j - 16) 0 = x16 at *
          generalize (sched p (j - 16)).getD (j - 15) 0 = x15 at *
          generalize (sched p (j - 16)).getD (j - 7) 0 = x7 at *
          generalize (sched p (j - 16)).getD (j - 2) 0 = x2 at *
          have HS := Lib.hid hset
          clear hset hv hlen
          have i15 : ((j : Int) - 15) = ((j - 15 : Nat) : Int) := by omega
          have i16 : ((j : Int) - 16) = ((j - 16 : Nat) : Int) := by omega
          have i7 : ((j : Int) - 7) = ((j - 7 : Nat) : Int) := by omega
          have i2 : ((j : Int) - 2) = ((j - 2 : Nat) : Int) := by omega
          go_wp2
          go_quiet (fail)
          have e0 := sg0_int x15 l15
          have e1 := sg1_int x2 l2
          have m0 := sg0_lt x15 l15
          have m1 := sg1_lt x2 l2
          go_wp2_with (first
            | (go_at_call 82; (with_reducible refine (rot_7 _ x15 l15).mono ?_); rintro e w' ⟨rfl, rfl⟩)
            | (go_at_call 82; (with_reducible refine (rot_18 _ x15 l15).mono ?_); rintro e w' ⟨rfl, rfl⟩)
            | (go_at_call 82; (with_reducible refine (rot_17 _ x2 l2).mono ?_); rintro e w' ⟨rfl, rfl⟩)
            | (go_at_call 82; (with_reducible refine (rot_19 _ x2 l2).mono ?_); rintro e w' ⟨rfl, rfl⟩))
          go_region
          have hval : (((x16 + sg0 x15 + x7 + sg1 x2) % 4294967296 : Nat) : Int) = ((x16 : Int) + (sg0 x15 : Int) + (x7 : Int) + (sg1 x2 : Int)) % 4294967296 := by omega
          have hA2 := (hA.drewN (nq + 1)).set_ j ((x16 + sg0 x15 + x7 + sg1 x2) % 4294967296)
          rw [HS.out, hval] at hA2
          have hg2 := grown_trans (grown_drewN hg (nq + 1)) (grownBy_setCell (wr.drewN (nq + 1)) ⟨w.heap.size, j, none⟩ (.int .u32 (((x16 : Int) + (sg0 x15 : Int) + (x7 : Int) + (sg1 x2 : Int)) % 4294967296)))
          clear hval q1 q2 g16 g15 g7 g2 hA
          go_wp2
          go_roundw
          case rel => exact ⟨j + 1, by omega, by omega, by go_num, hA2, hg2⟩
          case measure => simp [intOf]; omega
        · obtain rfl : j = 64 := by omega
          rw [show ((64 : Nat) : Int) = 64 from rfl]
          rw [grownW_end] at hA
          obtain ⟨W2, rfl⟩ : ∃ W2, W2 = wr := ⟨wr, rfl⟩
          have hs2 : AR W2 sb st [s0, s1, s2, s3, s4, s5, s6, s7] := hs0.grown hg (by simp; omega)
          have hz2 := hg.size
          have y0 := hs2.cell 0 _ rfl
          have y1 := hs2.cell 1 _ rfl
          have y2 := hs2.cell 2 _ rfl
          have y3 := hs2.cell 3 _ rfl
          have y4 := hs2.cell 4 _ rfl
          have y5 := hs2.cell 5 _ rfl
          have y6 := hs2.cell 6 _ rfl
          have y7 := hs2.cell 7 _ rfl
          go_wp2
          generalize hW3 : W2.alloc _ = W3
          have hV0 : AR W3 W2.heap.size 127 [s0, s1, s2, s3, s4, s5, s6, s7] := by rw [← hW3]; exact heap_alloc_new W2 _
          have hg3 : W2.grownBy W3 none := by rw [← hW3]; exact World.grownBy_alloc W2 _ _
          clear hW3 y0 y1 y2 y3 y4 y5 y6 y7
          have hw2 := hA.lt
          have hA3 := hA.grown hg3 (by simp)
          have hs3 := hs2.grown hg3 (by simp)
          have hK3' : ∀ (j x : Nat), kS[j]? = some x → W3.cell? ⟨3, j, none⟩ = some (.int .u32 (x : Int)) := fun j x hx =>
            hg3.cell (hg.cell (hg0.cell (HK.out j x hx) (by simp)) (by have := World.block_lt_of_cell? w _ (HK.out j x hx); simp at this ⊢; omega)) (by simp)
          have HK3 := Lib.hid hK3'
          clear hK3'
          obtain ⟨g9, hg9⟩ : ∃ g9, W2.heap.size = g9 := ⟨_, rfl⟩
          rw [hg9] at hV0
          rw [hg9]
          go_loopw [73] (fun i wr => ∃ (j : Nat) (vs : List Nat), j ≤ 64 ∧ i = .int .i64 (j : Int) ∧ VR p [s0, s1, s2, s3, s4, s5, s6, s7] W3 wr g9 j vs) (fun i _ => 64 - (intOf i).toNat)
          case atStart => exact ⟨0, _, by omega, rfl, ⟨rfl, hb8, rfl, hV0, World.grownBy.refl W3 _⟩⟩
          case round =>
            obtain ⟨j, vs, hj, rfl, HVR⟩ := hrel
            by_cases hlt : j < 64
            · obtain ⟨v0, v1, v2, v3, v4, v5, v6, v7, rfl⟩ := eight HVR.len
              have hV := HVR.ar
              have hg4 := HVR.gr
              have y0 := hV.cell 0 _ rfl
              have y4 := hV.cell 4 _ rfl
              go_wp2
              go_quiet (fail)
              go_wp2
              have b0 := HVR.lt v0 (by simp)
              have b4 := HVR.lt v4 (by simp)
              have b1 := HVR.lt v1 (by simp)
              have b2 := HVR.lt v2 (by simp)
              have b3 := HVR.lt v3 (by simp)
              have b5 := HVR.lt v5 (by simp)
              have b6 := HVR.lt v6 (by simp)
              have b7 := HVR.lt v7 (by simp)
              obtain ⟨kj, hkj⟩ : ∃ x, kS[j]? = some x := ⟨_, List.getElem?_eq_getElem (by rw [kS_len]; omega)⟩
              obtain ⟨wj, hwj⟩ : ∃ x, (schedS p)[j]? = some x := ⟨_, List.getElem?_eq_getElem (by rw [schedS_len]; omega)⟩
              have yk := hg4.cell (HK3.out j kj hkj) (by have := World.block_lt_of_cell? w _ (HK.out j kj hkj); simp at this ⊢; omega)
              have yw := hg4.cell (hA3.cell j wj hwj) (by simp; omega)
              have Hkj := Lib.hid hkj
              have Hwj := Lib.hid hwj
              clear hkj hwj
              clear y0 y4
              have hV5 := hV.drewN nq
              have hg5 := grown_drewN hg4 nq
              have yk5 := Eq.trans (show (wr.drewN nq).cell? _ = wr.cell? _ from rfl) yk
              have yw5 := Eq.trans (show (wr.drewN nq).cell? _ = wr.cell? _ from rfl) yw
              clear yk yw
              generalize wr.drewN nq = W5 at *
              have y0 := hV5.cell 0 _ rfl
              have y1 := hV5.cell 1 _ rfl
              have y2 := hV5.cell 2 _ rfl
              have y3 := hV5.cell 3 _ rfl
              have y4 := hV5.cell 4 _ rfl
              have y5 := hV5.cell 5 _ rfl
              have y6 := hV5.cell 6 _ rfl
              have y7 := hV5.cell 7 _ rfl
              go_quiet (first
                | (go_at_call 82; with_reducible exact Calls.quiet_of_same ((rot_6 _ v4 b4).mono fun e w' h => ⟨h.1, h.2.symm⟩))
                | (go_at_call 82; with_reducible exact Calls.quiet_of_same ((rot_11 _ v4 b4).mono fun e w' h => ⟨h.1, h.2.symm⟩))
                | (go_at_call 82; with_reducible exact Calls.quiet_of_same ((rot_25 _ v4 b4).mono fun e w' h => ⟨h.1, h.2.symm⟩)))
              rw [Sg1_int v4 b4, ch_int2 v4 v5 v6 b4 b5 b6]
              obtain ⟨X, hX⟩ : ∃ X, (v7 + Sg1 v4 + chS v4 v5 v6 + kj + wj) % 4294967296 = X := ⟨_, rfl⟩
              have hXi : ((((v7 : Int) + ((Sg1 v4 : Nat) : Int) + ((chS v4 v5 v6 : Nat) : Int) + (kj : Int)) % 4294967296 + (wj : Int)) % 4294967296) = (X : Int) := by omega
              rw [hXi]
              have HX := Lib.hid hX
              clear hX hXi yk5 yw5 y4 y5 y6 y7
              clear y0 y1 y2 y3
              have hV6 := hV5.drewN nq
              have hg6 := grown_drewN hg5 nq
              generalize W5.drewN nq = W6 at *
              have y0 := hV6.cell 0 _ rfl
              have y1 := hV6.cell 1 _ rfl
              have y2 := hV6.cell 2 _ rfl
              have y3 := hV6.cell 3 _ rfl
              have y4 := hV6.cell 4 _ rfl
              have y5 := hV6.cell 5 _ rfl
              have y6 := hV6.cell 6 _ rfl
              have y7 := hV6.cell 7 _ rfl
              go_upto_region 19 with (fail)
              go_quiet (first
                | (go_at_call 82; with_reducible exact Calls.quiet_of_same ((rot_2 _ v0 b0).mono fun e w' h => ⟨h.1, h.2.symm⟩))
                | (go_at_call 82; with_reducible exact Calls.quiet_of_same ((rot_13 _ v0 b0).mono fun e w' h => ⟨h.1, h.2.symm⟩))
                | (go_at_call 82; with_reducible exact Calls.quiet_of_same ((rot_22 _ v0 b0).mono fun e w' h => ⟨h.1, h.2.symm⟩)))
              rw [Sg0_int v0 b0, maj_int v0 v1 v2 b0 b1 b2]
              obtain ⟨Y, hY⟩ : ∃ Y, (Sg0 v0 + majS v0 v1 v2) % 4294967296 = Y := ⟨_, rfl⟩
              have hYi : ((((Sg0 v0 : Nat) : Int) + ((majS v0 v1 v2 : Nat) : Int)) % 4294967296) = (Y : Int) := by omega
              rw [hYi]
              have HY := Lib.hid hY
              clear hY hYi y0 y1 y2 y3 y4 y5 y6 y7
              have hV7 := hV6.drewN nq
              have hg7 := grown_drewN hg6 nq
              generalize W6.drewN nq = W7 at *
              have y0 := hV7.cell 0 _ rfl
              have y1 := hV7.cell 1 _ rfl
              have y2 := hV7.cell 2 _ rfl
              have y3 := hV7.cell 3 _ rfl
              have y4 := hV7.cell 4 _ rfl
              have y5 := hV7.cell 5 _ rfl
              have y6 := hV7.cell 6 _ rfl
              have y7 := hV7.cell 7 _ rfl
              have z0 := hV7.fr 0
              have z1 := hV7.fr 1
              have z2 := hV7.fr 2
              have z3 := hV7.fr 3
              have z4 := hV7.fr 4
              have z5 := hV7.fr 5
              have z6 := hV7.fr 6
              have z7 := hV7.fr 7
              go_wp2
              have e1 : (((X + Y) % 4294967296 : Nat) : Int) = ((X : Int) + (Y : Int)) % 4294967296 := by omega
              have e2 : (((v3 + X) % 4294967296 : Nat) : Int) = ((v3 : Int) + (X : Int)) % 4294967296 := by omega
              have h8 := (((((((hV7.set_ 0 ((X + Y) % 4294967296)).set_ 1 v0).set_ 2 v1).set_ 3 v2).set_ 4 ((v3 + X) % 4294967296)).set_ 5 v4).set_ 6 v5).set_ 7 v6
              rw [e1, e2] at h8
              refine ⟨⟨j + 1, [(X + Y) % 4294967296, v0, v1, v2, (v3 + X) % 4294967296, v4, v5, v6], by omega, by go_num, ⟨?_, ?_, rfl, h8, ?_⟩⟩, by simp [intOf]; omega⟩
              · rw [RV_succ p _ j kj wj Hkj.out Hwj.out, HVR.hv, ← HX.out, ← HY.out]; rfl
              · intro x hx
                simp only [List.mem_cons, List.not_mem_nil, or_false] at hx
                rcases hx with rfl | rfl | rfl | rfl | rfl | rfl | rfl | rfl <;> first | assumption | omega
              · exact grown_set (grown_set (grown_set (grown_set (grown_set (grown_set (grown_set (grown_set hg7 0 _) 1 _) 2 _) 3 _) 4 _) 5 _) 6 _) 7 _
            · obtain rfl : j = 64 := by omega
              rw [show ((64 : Nat) : Int) = 64 from rfl]
              obtain ⟨hv, hlt8, hlen8, hV, hg4⟩ := HVR
              obtain ⟨W4, rfl⟩ : ∃ W4, W4 = wr := ⟨wr, rfl⟩
              have hs4 := hs3.grown hg4 (by simp; omega)
              have HB := Lib.hid (blockS_eq _ _ _ hv)
              have Hv8 := Lib.hid hlt8
              have Hb8 := Lib.hid hb8
              clear hlt8 hb8 hv
              obtain ⟨ss, hss⟩ : ∃ ss, [s0, s1, s2, s3, s4, s5, s6, s7] = ss := ⟨_, rfl⟩
              have hssl : ss.length = 8 := by rw [← hss]; rfl
              have Hss := Lib.hid hss
              rw [hss] at hs4 Hb8
              have hgA : w.grownBy W4 (some sb) := grown_new (grown_trans (grown_new (grown_weak hg0) hg (by omega)) (grown_weak hg3)) hg4 (by omega)
              clear hss
              go_wp2
              go_loopw [155] (fun i wr => ∃ j : Nat, j ≤ 8 ∧ i = .int .i64 (j : Int) ∧ AR wr sb st (mixW ss vs j) ∧ W4.grownBy wr (some sb)) (fun i _ => 8 - (intOf i).toNat)
              case atStart => exact ⟨0, by omega, rfl, by rw [mixW_zero]; exact hs4, World.grownBy.refl W4 _⟩
              case round =>
                obtain ⟨j, hj, rfl, hA, hgr⟩ := hrel
                by_cases hlt : j < 8
                · obtain ⟨x, hx⟩ : ∃ x, ss[j]? = some x := ⟨_, List.getElem?_eq_getElem (by omega)⟩
                  obtain ⟨y, hy⟩ : ∃ y, vs[j]? = some y := ⟨_, List.getElem?_eq_getElem (by omega)⟩
                  have q1 := hA.cell j x (by rw [mixW_get _ _ _ (by omega) (by omega)]; exact hx)
                  have q2 := hA.fr j
                  have q3 := (hV.grown hgr (by simp; omega)).cell j y hy
                  have hset := mixW_set ss vs j x y (by omega) hx hy
                  have HS := Lib.hid hset
                  have HL := Lib.hid hlen8
                  have HL2 := Lib.hid hssl
                  clear hset hx hy hlen8 hssl
                  have HA := Lib.hid hA
                  have Hgr := Lib.hid hgr
                  clear hgA HB Hv8 Hb8 Hss HL HL2 hgr hA hs4 hV hg4 hA3 hs3 hg3 HK HK3 hs2
                  go_upto_region 25 with (fail)
                  go_region
                  have hval : (((x + y) % 4294967296 : Nat) : Int) = ((x : Int) + (y : Int)) % 4294967296 := by omega
                  have hA2 := (HA.out.set_ j ((x + y) % 4294967296)).drew
                  rw [HS.out, hval] at hA2
                  have hg2 := grown_drew (grown_set Hgr.out j (.int .u32 (((x : Int) + (y : Int)) % 4294967296)))
                  clear hval q1 q2 q3
                  have HA2 := Lib.hid hA2
                  have Hg2 := Lib.hid hg2
                  clear hA2 hg2
                  go_wp2
                  go_roundw
                  case rel => exact ⟨j + 1, by omega, by go_num, HA2.out, Hg2.out⟩
                  case measure => simp [intOf]; omega
                · obtain rfl : j = 8 := by omega
                  rw [show ((8 : Nat) : Int) = 8 from rfl]
                  rw [mixW_all ss vs 8 hssl hlen8] at hA
                  have HF := Lib.hid (show AR wr sb st (blockS [s0, s1, s2, s3, s4, s5, s6, s7] p) ∧ w.grownBy wr (some sb) from ⟨by rw [HB.out, Hss.out]; exact hA, grown_trans hgA hgr⟩)
                  clear hgA HB Hv8 Hb8 Hss hgr hA hs4 hV hg4 hA3 hs3 hg3 HK HK3 hs2
                  go_wp2
                  go_end0
                  exact ⟨⟨_, rfl⟩, HF.out⟩
end Go.Proofs.YtkhcpnmbhbhcgaaDoor

/- greet.message. -/
set_option maxRecDepth 100000
set_option linter.unusedVariables false
namespace Go.Proofs.YtkhcpnmbhbhcgaaDoor
open Go.RowKit
/-- a message: its kind, its length, what it carries -/
def gmsg (kind : Nat) (p : List UInt8) : List UInt8 := [UInt8.ofNat kind, UInt8.ofNat (p.length / 65536), UInt8.ofNat (p.length / 256), UInt8.ofNat p.length] ++ p
theorem gmsg_len (kind : Nat) (p : List UInt8) : (gmsg kind p).length = 4 + p.length := by simp [gmsg]; omega
theorem B_ofNat (k : Nat) : B (UInt8.ofNat k) = .int .u8 ((k : Int) % 256) := by
  unfold B
  rw [UInt8.toNat_ofNat']
  congr 1
theorem message_any (w : World) {a : Option Addr} {n c : Nat} {p : List UInt8} (kind : Nat) (hk : kind < 256) (hx : BS w a n c p) (hn : n ≤ 1099511627776) :
    Calls Tryd.prog 44 #[.int .u8 (kind : Int), .slice a n c] w fun e w' => ∃ a' c', e = .returned (.slice a' (4 + n) c') ∧ OW w' w.heap.size 5 1 a' (4 + n) c' ((gmsg kind p).map B) ∧ Below w.heap.size w w' := by
  have hl := BS.len hx
  have hO := OW_made w w.heap.size 5 1 #[.int .u8 (kind : Int), .int .u8 ((n : Int) / 65536 % 256), .int .u8 ((n : Int) / 256 % 256), .int .u8 ((n : Int) % 256)] 4 (Nat.le_refl _) rfl (by unfold maxLen; omega) (by simp [Value.oneCell'])
  have hx1 := RS.alloc hx (.cells #[.int .u8 (kind : Int), .int .u8 ((n : Int) / 65536 % 256), .int .u8 ((n : Int) / 256 % 256), .int .u8 ((n : Int) % 256)] 5)
  have hb := below_alloc w (.cells #[.int .u8 (kind : Int), .int .u8 ((n : Int) / 65536 % 256), .int .u8 ((n : Int) / 256 % 256), .int .u8 ((n : Int) % 256)] 5)
  have hc : (#[Value.int .u8 (kind : Int), .int .u8 ((n : Int) / 65536 % 256), .int .u8 ((n : Int) / 256 % 256), .int .u8 ((n : Int) % 256)] : Array Value).toList ++ p.map B = (gmsg kind p).map B := by
    unfold gmsg
    rw [List.map_append, hl]
    congr 1
    simp only [List.map_cons, List.map_nil, B_ofNat]
    rw [show (kind : Int) % 256 = kind by omega]
    simp
  have HC := Lib.hid hc
  clear hx hc
  go_enter Tryd.func44, Tryd.ntmps44
  go_wp2_with (at_builtin; refine L_append tB hO hx1 _ _ rfl rfl rfl rfl (by omega) (by unfold maxLen; omega) (by simp) ?_; intro a' c' w' o' g')
  go_ret
  refine ⟨a', c', rfl, ?_, below_own hb hO g' (Nat.le_refl _) (by simp)⟩
  rw [← HC.out]; exact o'
end Go.Proofs.YtkhcpnmbhbhcgaaDoor

/- vint: Size, Wide, Num of small numbers; Text of short texts. -/
set_option maxRecDepth 100000
set_option linter.unusedVariables false
namespace Go.Proofs.YtkhcpnmbhbhcgaaDoor
open Go.RowKit
/-- a number below 16384, in its least form -/
def numS (n : Nat) : List UInt8 := if n < 64 then [UInt8.ofNat n] else [UInt8.ofNat (n / 256 + 64), UInt8.ofNat n]
def vsz (n : Nat) : Nat := if n < 64 then 1 else 2
theorem numS_len (n : Nat) : (numS n).length = vsz n := by unfold numS vsz; split <;> rfl
def textS (t : List UInt8) : List UInt8 := numS t.length ++ t
theorem textS_len (t : List UInt8) : (textS t).length = vsz t.length + t.length := by rw [textS, List.length_append, numS_len]
theorem vsz_bd (n : Nat) : 1 ≤ vsz n ∧ vsz n ≤ 2 := by unfold vsz; split <;> omega
theorem vsize_any (w : World) (n : Nat) (hn : n < 16384) :
    Calls Tryd.prog 53 #[.int .u64 (n : Int)] w fun e w' => e = .returned (.int .i64 (vsz n : Int)) ∧ w = w' := by
  unfold vsz
  by_cases h1 : n < 64
  · rw [if_pos h1]
    have q : ((n : Int) / 64 == 0) = true := by simp; omega
    go_enter Tryd.func53, Tryd.ntmps53
    go_wp2
    refine wp_loop_rounds 2 ?_
    rw [rounds_succ]
    go_wp2
    go_ret
    exact ⟨rfl, rfl⟩
  · rw [if_neg h1]
    have q : ((n : Int) / 64 == 0) = false := by simp; omega
    have q2 : ((n : Int) / 16384 == 0) = true := by simp; omega
    go_enter Tryd.func53, Tryd.ntmps53
    go_wp2
    refine wp_loop_rounds 3 ?_
    rw [rounds_succ]
    go_wp2
    rw [rounds_succ]
    go_wp2
    go_ret
    exact ⟨rfl, rfl⟩
theorem or_64v (m : Nat) (h : m < 64) : bits .or .u8 (m : Int) 64 = (m : Int) + 64 := by
  have h1 : ∀ m : Fin 64, bits .or .u8 ((m.val : Nat) : Int) 64 = ((m.val : Nat) : Int) + 64 := by decide
  exact h1 ⟨m, h⟩
theorem or_0v (m : Nat) (h : m < 64) : bits .or .u8 (m : Int) 0 = (m : Int) := by
  have h1 : ∀ m : Fin 64, bits .or .u8 ((m.val : Nat) : Int) 0 = ((m.val : Nat) : Int) := by decide
  exact h1 ⟨m, h⟩
theorem vwide1 (w : World) (n : Nat) (hn : n < 64) :
    Calls Tryd.prog 54 #[.int .u64 (n : Int), .int .i64 1] w fun e w' => ∃ a c, e = .returned (.tuple #[.slice a 1 c, .int .i64 0]) ∧ OW w' w.heap.size 5 1 a 1 c ((numS n).map B) ∧ Below w.heap.size w w' := by
  have hs := vsize_any w n (by omega)
  rw [show vsz n = 1 by unfold vsz; rw [if_pos hn]] at hs
  have T := Lib.hid hs
  have hv : (numS n).map B = [.int .u8 (n : Int)] := by
    unfold numS; rw [if_pos hn]
    simp only [List.map_cons, List.map_nil, B, UInt8.toNat_ofNat']
    rw [show ((n % 2 ^ 8 : Nat) : Int) = (n : Int) by omega]
  have Hv := Lib.hid hv
  have ho := or_0v n hn
  have hm : (n : Int) % 256 = (n : Int) := by omega
  clear hv hs
  go_enter Tryd.func54, Tryd.ntmps54
  go_wp2
  refine wp_loop_rounds 5 ?_
  rw [rounds_succ]
  go_wp2
  rw [rounds_succ]
  go_wp2
  rw [rounds_succ]
  go_wp2
  rw [rounds_succ]
  go_wp2
  rw [rounds_succ]
  go_wp2_with (first | (refine L_make tB w.heap.size 1 rfl rfl _ _ rfl rfl _ _ _ _ rfl rfl rfl rfl (by omega) (by unfold maxLen; omega) (Nat.le_refl _) ?_; intro w1 o1 g1) | (go_at_call 53; refine T.out.mono ?_; rintro e w' ⟨rfl, rfl⟩))
  have b1 := below_none (Below.refl w.heap.size w) g1 (Nat.le_refl _)
  have c0 := o1.cell 0 _ rfl
  have d0 := o1.frozen 0
  refine wp_loop_rounds 2 ?_
  rw [rounds_succ]
  go_wp2
  have o3 := o1.setCell 0 (.int .u8 (n : Int)) rfl
  have h0 := o3.cell 0 _ rfl
  have i0 := o3.frozen 0
  rw [rounds_succ]
  go_wp2
  go_ret2
  have o4 := o3.setCell 0 (.int .u8 (n : Int)) rfl
  refine ⟨_, _, rfl, ?_, (b1.setCell (Nat.le_refl _) _).setCell (Nat.le_refl _) _⟩
  rw [Hv.out]
  exact o4
theorem vwide2 (w : World) (n : Nat) (hn : n < 16384) (h0 : 64 ≤ n) :
    Calls Tryd.prog 54 #[.int .u64 (n : Int), .int .i64 2] w fun e w' => ∃ a c, e = .returned (.tuple #[.slice a 2 c, .int .i64 0]) ∧ OW w' w.heap.size 5 1 a 2 c ((numS n).map B) ∧ Below w.heap.size w w' := by
  have hs := vsize_any w n hn
  rw [show vsz n = 2 by unfold vsz; rw [if_neg (by omega)]] at hs
  have T := Lib.hid hs
  have hv : (numS n).map B = [.int .u8 ((n : Int) / 256 % 256 + 64), .int .u8 ((n : Int) % 256)] := by
    unfold numS; rw [if_neg (by omega)]
    simp only [List.map_cons, List.map_nil, B, UInt8.toNat_ofNat']
    rw [show (((n / 256 + 64) % 2 ^ 8 : Nat) : Int) = (n : Int) / 256 % 256 + 64 by omega, show ((n % 2 ^ 8 : Nat) : Int) = (n : Int) % 256 by omega]
  have Hv := Lib.hid hv
  clear hv hs
  go_enter Tryd.func54, Tryd.ntmps54
  go_wp2
  refine wp_loop_rounds 5 ?_
  rw [rounds_succ]
  go_wp2
  rw [rounds_succ]
  go_wp2
  rw [rounds_succ]
  go_wp2
  rw [rounds_succ]
  go_wp2
  rw [rounds_succ]
  go_wp2_with (first | (refine L_make tB w.heap.size 2 rfl rfl _ _ rfl rfl _ _ _ _ rfl rfl rfl rfl (by omega) (by unfold maxLen; omega) (Nat.le_refl _) ?_; intro w1 o1 g1) | (go_at_call 53; refine T.out.mono ?_; rintro e w' ⟨rfl, rfl⟩))
  have b1 := below_none (Below.refl w.heap.size w) g1 (Nat.le_refl _)
  have c0 := o1.cell 0 _ rfl
  have c1 := o1.cell 1 _ rfl
  have d0 := o1.frozen 0
  have d1 := o1.frozen 1
  refine wp_loop_rounds 3 ?_
  rw [rounds_succ]
  go_wp2
  have o2 := o1.setCell 1 (.int .u8 ((n : Int) % 256)) rfl
  have e0 := o2.cell 0 _ rfl
  have e1 := o2.cell 1 _ rfl
  have f0 := o2.frozen 0
  have f1 := o2.frozen 1
  rw [rounds_succ]
  go_wp2
  have o3 := o2.setCell 0 (.int .u8 ((n : Int) / 256)) rfl
  have h0 := o3.cell 0 _ rfl
  have i0 := o3.frozen 0
  rw [rounds_succ]
  go_wp2
  go_ret2
  have hor : bits .or .u8 ((n : Int) / 256) 64 = (n : Int) / 256 + 64 := by
    have := or_64v (n / 256) (by omega)
    rwa [show ((n / 256 : Nat) : Int) = (n : Int) / 256 by omega] at this
  rw [hor]
  have o4 := o3.setCell 0 (.int .u8 ((n : Int) / 256 + 64)) rfl
  refine ⟨_, _, rfl, ?_, ((b1.setCell (Nat.le_refl _) _).setCell (Nat.le_refl _) _).setCell (Nat.le_refl _) _⟩
  rw [Hv.out, show (n : Int) / 256 % 256 = (n : Int) / 256 by omega]
  exact o4
theorem vnum_any (w : World) (n : Nat) (hn : n < 16384) :
    Calls Tryd.prog 40 #[.int .u64 (n : Int)] w fun e w' => ∃ a c, e = .returned (.tuple #[.slice a (vsz n) c, .int .i64 0]) ∧ OW w' w.heap.size 5 1 a (vsz n) c ((numS n).map B) ∧ Below w.heap.size w w' := by
  have hs := vsize_any w n hn
  by_cases h : n < 64
  · have e : vsz n = 1 := by unfold vsz; rw [if_pos h]
    rw [e] at hs ⊢
    have T := Lib.hid hs
    have T2 := Lib.hid (vwide1 w n h)
    clear hs e
    go_enter Tryd.func40, Tryd.ntmps40
    go_wp2_with (first | (go_at_call 53; refine T.out.mono ?_; rintro e w' ⟨rfl, rfl⟩) | (go_at_call 54; refine T2.out.mono ?_; rintro e w2 ⟨a, c, rfl, h1, h2⟩))
    go_ret2
    exact ⟨a, c, rfl, h1, h2⟩
  · have e : vsz n = 2 := by unfold vsz; rw [if_neg h]
    rw [e] at hs ⊢
    have T := Lib.hid hs
    have T2 := Lib.hid (vwide2 w n hn (by omega))
    clear hs e
    go_enter Tryd.func40, Tryd.ntmps40
    go_wp2_with (first | (go_at_call 53; refine T.out.mono ?_; rintro e w' ⟨rfl, rfl⟩) | (go_at_call 54; refine T2.out.mono ?_; rintro e w2 ⟨a, c, rfl, h1, h2⟩))
    go_ret2
    exact ⟨a, c, rfl, h1, h2⟩
theorem vtext_any (w : World) {a : Option Addr} {n c : Nat} {t : List UInt8} (hx : BS w a n c t) (hn : n < 16384) :
    Calls Tryd.prog 41 #[.slice a n c] w fun e w' => ∃ a' c', e = .returned (.slice a' (vsz n + n) c') ∧ OW w' w.heap.size 5 1 a' (vsz n + n) c' ((textS t).map B) ∧ Below w.heap.size w w' := by
  have T := Lib.hid (vnum_any w n hn)
  have hl := BS.len hx
  have HX := Lib.hid hx
  have e : textS t = numS n ++ t := by unfold textS; rw [hl]
  have HE := Lib.hid e
  have hv := vsz_bd n
  clear hx e
  go_enter Tryd.func41, Tryd.ntmps41
  go_wp2_with (first
    | (go_at_call 40; refine T.out.mono ?_; rintro x w1 ⟨a1, c1, rfl, o1, B1⟩; have hx1 := RS.below HX.out B1 (Nat.le_refl _))
    | (at_builtin; refine L_append tB o1 hx1 _ _ rfl rfl rfl rfl (by omega) (by unfold maxLen; omega) B1.size ?_; intro a2 c2 w2 o2 g2))
  go_ret
  refine ⟨a2, c2, rfl, ?_, below_own B1 o1 g2 (Nat.le_refl _) B1.size⟩
  rw [HE.out, List.map_append]; exact o2
end Go.Proofs.YtkhcpnmbhbhcgaaDoor
