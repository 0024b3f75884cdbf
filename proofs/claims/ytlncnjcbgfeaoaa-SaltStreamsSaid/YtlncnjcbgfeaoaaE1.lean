/- Stream by all lengths, the program's and the reference's. -/
import Derived.Test.YtlncnjcbgfeaoaaDG
import Derived.Test.YtlncnjcbgfeaoaaC5
set_option maxRecDepth 100000
set_option linter.unusedVariables false
namespace Go.Proofs.Ytlncnjcbgfeaoaa
open Go.RowKit
/-- what Stream answers -/
structure SR (key nonce : List UInt8) (fr : Nat) (N : Int) (d : List UInt8) (M k : Nat) : Prop where
  h : N < 0 ∧ d = [] ∧ M = 0 ∧ k = 1 ∨ 65536 < N ∧ d = [] ∧ M = 0 ∧ k = 3 ∨ 0 ≤ N ∧ N ≤ 65536 ∧ SM key nonce fr N.toNat d ∧ M = N.toNat ∧ k = 0
theorem SR_ex (key nonce : List UInt8) (fr : Nat) (N : Int) : ∃ d M k, SR key nonce fr N d M k := by
  by_cases h1 : N < 0
  · exact ⟨_, _, _, ⟨.inl ⟨h1, rfl, rfl, rfl⟩⟩⟩
  · by_cases h2 : 65536 < N
    · exact ⟨_, _, _, ⟨.inr (.inl ⟨h2, rfl, rfl, rfl⟩)⟩⟩
    · obtain ⟨d, hd⟩ := SM_ex key nonce fr N.toNat
      exact ⟨d, _, _, ⟨.inr (.inr ⟨by omega, by omega, hd, rfl, rfl⟩)⟩⟩
theorem stream_all (w : World) {key nonce d : List UInt8} {M k : Nat} (hkl : key.length = 32) (hnl : nonce.length = 12) (fr : Nat) (hfr : fr < 4294967296) (N : Int) (hD : SR key nonce fr N d M k) :
    Calls Try.prog 19 #[.agg (key.map B).toArray, .agg (nonce.map B).toArray, .int .u32 (fr : Int), .int .i64 N] w fun e w' => ∃ a c, e = .returned (.tuple #[.slice a M c, .int .i64 (k : Int)]) ∧ OW w' w.heap.size 5 1 a M c (d.map B) ∧ Below w.heap.size w w' := by
  rcases hD.h with ⟨h, rfl, rfl, rfl⟩ | ⟨h, rfl, rfl, rfl⟩ | ⟨h0, h1, hd, rfl, rfl⟩
  · exact (stream_neg w key nonce _ N h).mono fun e w' g => ⟨none, 0, g.1, OW_nil _ _ _ _, g.2⟩
  · exact (stream_big w key nonce _ N h).mono fun e w' g => ⟨none, 0, g.1, OW_nil _ _ _ _, g.2⟩
  · have := stream_any w hkl hnl fr hfr N.toNat (by omega) hd
    rw [Int.toNat_of_nonneg h0] at this
    exact this
theorem rstream_all (w : World) {a b : Option Addr} {n c m e M k : Nat} {key nonce d : List UInt8} (hk : BS w a n c key) (hn : BS w b m e nonce) (hkl : key.length = 32) (hnl : nonce.length = 12) (fr : Nat) (hfr : fr < 4294967296) (N : Int) (hD : SR key nonce fr N d M k) :
    Calls Try.prog 20 #[.slice a n c, .slice b m e, .int .u32 (fr : Int), .int .i64 N] w fun x w' => ∃ a c, x = .returned (.tuple #[.slice a M c, .int .i64 (k : Int)]) ∧ OW w' w.heap.size 5 1 a M c (d.map B) ∧ Below w.heap.size w w' := by
  rcases hD.h with ⟨h, rfl, rfl, rfl⟩ | ⟨h, rfl, rfl, rfl⟩ | ⟨h0, h1, hd, rfl, rfl⟩
  · exact (rstream_neg w _ _ _ N h).mono fun e w' g => ⟨none, 0, g.1, OW_nil _ _ _ _, g.2⟩
  · exact (rstream_big w _ _ _ N h).mono fun e w' g => ⟨none, 0, g.1, OW_nil _ _ _ _, g.2⟩
  · have := rstream_any w hk hn hkl hnl fr hfr N.toNat (by omega) hd
    rw [Int.toNat_of_nonneg h0] at this
    exact this
end Go.Proofs.Ytlncnjcbgfeaoaa
