/- HeadBytes: both walks in one. -/
import Derived.Test.YtdfachjgnhljfaaDoorH14
set_option maxRecDepth 100000
set_option linter.unusedVariables false
namespace Go.Proofs.YtdfachjgnhljfaaDoor
open Go.RowKit
theorem headBytes_walk (w : World) (l : Bool) (lv : Int) (ph : Bool) {a b : Option Addr} {n c m k : Nat} {t f : List UInt8} (ht : BS w a n c t) (hf : BS w b m k f) (pn : Nat) (hp : pn < 18446744073709551616) (size left : Int) (hl63 : left ≤ 9223372036854775807) (hk : KG w) :
    Calls Tryd.prog 12 #[.agg #[.bool l, .int .i64 lv, .bool ph, .slice a n c, .slice b m k], .int .u64 (pn : Int), .int .i64 size, .int .i64 left] w fun e w' => e = .returned (.bool true) ∧ Below w.heap.size w w' := by
  by_cases hA : size < 1 ∨ 4 < size ∨ left < 0
  · exact headBytes_err w l lv ph ht hf pn size left hk 1 (by decide) (fun W a3 a4 c3 c4 => pb_arg hA) (fun W a3 a4 c3 c4 => rb_arg hA)
  · obtain ⟨S, hS⟩ := Int.eq_ofNat_of_zero_le (show 0 ≤ size by omega)
    obtain ⟨L, hL⟩ := Int.eq_ofNat_of_zero_le (show 0 ≤ left by omega)
    subst hS hL
    have h1 : 1 ≤ S := by omega
    have h4 : S ≤ 4 := by omega
    by_cases hB : l = true ∧ 16383 - (S : Int) < (L : Int)
    · obtain ⟨rfl, hB⟩ := hB
      exact headBytes_err w true lv ph ht hf pn S L hk 3 (by decide) (fun W a3 a4 c3 c4 => pb_longE (by omega) (by omega) (by omega) hB) (fun W a3 a4 c3 c4 => rb_longE (by omega) (by omega) (by omega) hB)
    · have hB' : l = true → (L : Int) ≤ 16383 - (S : Int) := fun h => by
        rcases Int.lt_or_le (16383 - (S : Int)) (L : Int) with h2 | h2
        · exact absurd ⟨h, h2⟩ hB
        · exact h2
      cases hC : rightS l lv ph (min n 30) (min m 30) with
      | false => exact headBytes_err w l lv ph ht hf pn S L hk 4 (by decide) (fun W a3 a4 c3 c4 => pb_form (by omega) (by omega) (by omega) hB' hC) (fun W a3 a4 c3 c4 => rb_form (by omega) (by omega) (by omega) hB' hC)
      | true =>
        have hnl := BS.len ht
        have hml := BS.len hf
        have htl : (t.take (min n 30)).length = min n 30 := by rw [List.length_take]; omega
        have hfl : (f.take (min m 30)).length = min m 30 := by rw [List.length_take]; omega
        cases l with
        | false =>
          have hr2 : lv = 2 ∧ min n 30 = 8 ∧ min m 30 = 0 := by simpa [rightS] using hC
          obtain ⟨rfl, hn8, hm0⟩ := hr2
          have hf0 : f.take (min m 30) = [] := by rw [hm0]; rfl
          have hxl : (bytesShort ph (t.take (min n 30)) S pn).length = 9 + S := by unfold bytesShort; rw [List.length_cons, List.length_append, beB_len, htl, hn8]; omega
          refine headBytes_ok w false 2 ph ht hf pn S L hk (at_ := 9) (NX := 9 + S) (N1 := 8) (M1 := 0) rfl hf0 hn8 hm0 h1 h4 hxl rfl (by omega) (by omega) (fun _ h20 => readS_again_short ph _ S pn L (by rw [htl, hn8]) h1 h4 h20) (fun W a3 a4 c3 c4 q1 q2 q3 => ?_) (fun W a3 a4 c3 c4 q1 q2 => ?_)
          · have := pb_short (w := W) (left := L) (lv := 2) (ph := ph) hp S h1 h4 (by omega) (by simp [rightS]) q1 q2 (by omega)
            exact this
          · have := rb_short (w := W) (left := L) (lv := 2) (ph := ph) hp S h1 h4 (by omega) (by simp [rightS]) q1 q2 (by omega)
            exact this
        | true =>
          have hr2 : 0 ≤ lv ∧ lv ≤ 1 ∧ min n 30 < 21 ∧ min m 30 < 21 ∧ ph = false := by simpa only [rightS, if_true, decide_eq_true_eq] using hC
          obtain ⟨r1, r2, r3, r4, rfl⟩ := hr2
          obtain ⟨lvn, rfl⟩ := Int.eq_ofNat_of_zero_le r1
          have hLL := hB' rfl
          have hL50 : lenL lvn (t.take (min n 30)) (f.take (min m 30)) ≤ 60 := by unfold lenL; split <;> omega
          refine headBytes_ok w true lvn false ht hf pn S L hk (at_ := lenL lvn (t.take (min n 30)) (f.take (min m 30))) (NX := lenL lvn (t.take (min n 30)) (f.take (min m 30)) + S) rfl rfl rfl rfl h1 h4 (bytesLong_len lvn _ _ S L pn) rfl hL50 (by omega) (fun _ h20 => readS_again_long lvn (by omega) _ _ S pn L (by omega) (by omega) h1 h4 h20 (by omega)) (fun W a3 a4 c3 c4 q1 q2 q3 => ?_) (fun W a3 a4 c3 c4 q1 q2 => rb_long lvn (by omega) hp S L h1 h4 (by omega) r3 r4 q1 q2)
          obtain rfl | rfl : lvn = 0 ∨ lvn = 1 := by omega
          · refine (pb_long0 (w := W) hp S L h1 h4 (by omega) r3 r4 q1 q2 q3).mono ?_
            rintro e w' ⟨a', c', rfl, o, hb⟩
            exact ⟨a', c', rfl, .inl o, hb⟩
          · refine (pb_long1 (w := W) hp S L h1 h4 (by omega) r3 r4 q1 q2 q3).mono ?_
            rintro e w' ⟨a', c', rfl, o, hb⟩
            exact ⟨a', c', rfl, .inl o, hb⟩
end Go.Proofs.YtdfachjgnhljfaaDoor
