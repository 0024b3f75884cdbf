/- head's reader: id: what it hands back. -/
import Derived.Test.YtdfachjgnhljfaaDoorR5
set_option maxRecDepth 100000
namespace Go.Proofs.YtdfachjgnhljfaaDoor
open Go.RowKit
def IdPost (w : World) (r : Nat) (a : Option Addr) (n c at_ : Nat) (xs : List UInt8) (e : Ending) (w' : World) : Prop :=
  ∃ a' m c', e = .returned (.tuple #[.slice a' m c', .int .i64 (idS (xs.drop at_)).1]) ∧ w.grownBy w' (some r) ∧ OW w' w.heap.size 5 1 a' m c' ((idS (xs.drop at_)).2.map B) ∧
    ((idS (xs.drop at_)).1 = 0 → RD w' r a n c (at_ + 1 + m))
theorem id_any (w : World) {r : Nat} {a : Option Addr} {n c at_ : Nat} {xs : List UInt8} (h : RD w r a n c at_) (hx : BS w a n c xs) (hat : at_ ≤ n) (hn : n ≤ 140737488355328) (hrb : ∀ ad, a = some ad → ad.block ≠ r) :
    Calls Tryd.prog 61 #[.pointer (some ⟨r, 0, none⟩)] w (IdPost w r a n c at_ xs) := by
  have hl := hx.len
  by_cases h1 : at_ = n
  · have hd : xs.drop at_ = [] := List.drop_eq_nil_of_le (by omega)
    have Hd := Lib.hid hd
    clear hd hl
    subst h1
    go_enter Tryd.func61, Tryd.ntmps61
    go_wp2_with (go_at_call 60; refine (take_no _ h 1 (by omega) (by omega) (by omega)).mono ?_; rintro e w' ⟨rfl, h1, h2⟩)
    go_ret2
    unfold IdPost
    rw [Hd.out, idS_nil]
    exact ⟨none, 0, 0, rfl, h2, OW_nil _ _ _ _, by simp⟩
  · obtain ⟨b, hb⟩ := hx.get at_ (by omega)
    have hd : xs.drop at_ = b :: xs.drop (at_ + 1) := by
      rw [List.drop_eq_getElem_cons (by omega)]
      have := (List.getElem?_eq_some_iff.1 hb).2
      rw [this]
    have hd1 : (xs.drop at_).take 1 = [b] := by rw [hd]; rfl
    have hdl : (xs.drop (at_ + 1)).length = n - at_ - 1 := by rw [List.length_drop]; omega
    have hb8 := u8_lt b
    have hi := idS_cons b (xs.drop (at_ + 1))
    rw [hdl, ← hd] at hi
    have t1 : ∀ w, RD w r a n c at_ → BS w a n c xs → Calls Tryd.prog 60 #[.pointer (some ⟨r, 0, none⟩), .int .i64 ((1 : Nat) : Int)] w fun e w' => ∃ a' c', e = .returned (.tuple #[.slice a' 1 c', .bool true]) ∧ OW w' w.heap.size 5 1 a' 1 c' ([b].map B) ∧ RD w' r a n c (at_ + 1) ∧ w.grownBy w' (some r) := by
      intro w h hx
      have := take_yes w h hx 1 (by omega) hn (by omega) hrb
      rwa [hd1] at this
    have T1 := Lib.hid (t1 w h hx)
    clear hd1 t1 hb
    by_cases h2 : 20 < b.toNat
    · rw [if_pos h2] at hi
      have Hi := Lib.hid hi
      clear hi hd hl hdl
      go_enter Tryd.func61, Tryd.ntmps61
      go_wp2_with (first | (go_at_call 60; refine T1.out.mono ?_; rintro e w1 ⟨a1, c1, rfl, g1, g2, g3⟩) | (refine LB_index tB (xs := [b]) g1.rs b _ _ rfl rfl _ _ rfl rfl (by omega) (by omega) rfl ?_; intro q hq))
      go_ret2
      unfold IdPost
      rw [Hi.out]
      exact ⟨none, 0, 0, rfl, g3, OW_nil _ _ _ _, by simp⟩
    · rw [if_neg h2] at hi
      by_cases h3 : n - at_ - 1 < b.toNat
      · rw [if_pos h3] at hi
        have Hi := Lib.hid hi
        clear hi hd hl hdl
        go_enter Tryd.func61, Tryd.ntmps61
        go_wp2_with (first | (go_at_call 60; refine T1.out.mono ?_; rintro e w1 ⟨a1, c1, rfl, g1, g2, g3⟩; clear T1) | (refine LB_index tB (xs := [b]) g1.rs b _ _ rfl rfl _ _ rfl rfl (by omega) (by omega) rfl ?_; intro q hq) | (go_at_call 60; refine (take_no _ g2 _ (by omega) (by omega) (by omega)).mono ?_; rintro e w2 ⟨rfl, g4, g5⟩))
        go_ret2
        unfold IdPost
        rw [Hi.out]
        exact ⟨none, 0, 0, rfl, grown_trans g3 g5, OW_nil _ _ _ _, by simp⟩
      · rw [if_neg h3] at hi
        have hm : ((xs.drop (at_ + 1)).take b.toNat) = (idS (xs.drop at_)).2 := by rw [hi]
        have Hi := Lib.hid hi
        have Hm := Lib.hid hm
        clear hi hd hl hdl hm
        go_enter Tryd.func61, Tryd.ntmps61
        go_wp2_with (first | (go_at_call 60; refine T1.out.mono ?_; rintro e w1 ⟨a1, c1, rfl, g1, g2, g3⟩; clear T1; have hx1 := RS.grown hx g3 (fun ad ha he => hrb ad ha (by simpa using he))) | (refine LB_index tB (xs := [b]) g1.rs b _ _ rfl rfl _ _ rfl rfl (by omega) (by omega) rfl ?_; intro q hq) | (go_at_call 60; refine (take_yes _ g2 hx1 _ (by omega) (by omega) (by omega) hrb).mono ?_; rintro e w2 ⟨a2, c2, rfl, g4, g5, g6⟩))
        go_ret2
        unfold IdPost
        rw [Hm.out] at g4
        refine ⟨a2, b.toNat, c2, by rw [Hi.out]; rfl, grown_trans g3 g6, g4.mono g3.size, fun _ => g5⟩
end Go.Proofs.YtdfachjgnhljfaaDoor
