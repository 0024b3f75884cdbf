/- texts R5 R6 R7 R8 R9 R10 R15 R13 R14 in one. -/
import Derived.Test.YtlncnjcbgfeaoaaDoorYac
import Derived.Test.YtlncnjcbgfeaoaaDoorYad
import Derived.RegionTactic
import Derived.Deep.RegionWith
import Derived.Deep.RegionHeld3
import Derived.StillTailTactics

/- head's reader: take, id, num: what they hand back. -/
set_option maxRecDepth 100000
namespace Go.Proofs.YtlncnjcbgfeaoaaDoor
open Go.RowKit
/-- a reader in memory: its bytes, and how far they are read -/
def RD (w : World) (r : Nat) (a : Option Addr) (n c : Nat) (at_ : Nat) : Prop := w.heap[r]? = some (.cells #[.slice a n c, .int .i64 (at_ : Int)] 116 (0, 0))
theorem RD.c0 {w : World} {r : Nat} {a : Option Addr} {n c at_ : Nat} (h : RD w r a n c at_) : w.cell? ⟨r, 0, none⟩ = some (.slice a n c) := by
  unfold RD at h; simp [World.cell?, h]
theorem RD.c1 {w : World} {r : Nat} {a : Option Addr} {n c at_ : Nat} (h : RD w r a n c at_) : w.cell? ⟨r, 1, none⟩ = some (.int .i64 (at_ : Int)) := by
  unfold RD at h; simp [World.cell?, h]
theorem RD.fr {w : World} {r : Nat} {a : Option Addr} {n c at_ : Nat} (h : RD w r a n c at_) (i : Nat) : w.frozen? ⟨r, i, none⟩ = false := by
  unfold RD at h; simp [World.frozen?, h]
theorem RD.lt {w : World} {r : Nat} {a : Option Addr} {n c at_ : Nat} (h : RD w r a n c at_) : r < w.heap.size := (Array.getElem?_eq_some_iff.1 h).1
theorem RD.set {w : World} {r : Nat} {a : Option Addr} {n c at_ : Nat} (h : RD w r a n c at_) (k : Nat) : RD (w.setCell ⟨r, 1, none⟩ (.int .i64 (k : Int))) r a n c k := by
  unfold RD at h ⊢
  simp [World.setCell, Array.getElem?_modify, h]
theorem RD.below {w w' : World} {r : Nat} {a : Option Addr} {n c at_ : Nat} (h : RD w r a n c at_) (hb : Below w.heap.size w w') : RD w' r a n c at_ := by
  have := h.lt
  unfold RD at h ⊢
  rw [hb.block r this]; exact h
theorem take_no (w : World) {r : Nat} {a : Option Addr} {n c at_ : Nat} (h : RD w r a n c at_) (k : Nat) (hat : at_ ≤ n) (hk : n - at_ < k) (hk2 : k ≤ 140737488355328) :
    Calls Tryd.prog 87 #[.pointer (some ⟨r, 0, none⟩), .int .i64 (k : Int)] w fun e w' => e = .returned (.tuple #[.slice none 0 0, .bool false]) ∧ RD w' r a n c at_ ∧ w.grownBy w' (some r) := by
  have h0 := h.c0
  have h1 := h.c1
  have h2 := h.fr 1
  have ht : ((n : Int) - (at_ : Int) < (k : Int)) := by omega
  go_enter Tryd.func87, Tryd.ntmps87
  go_wp2_with fail
  go_quiet (fail)
  go_wp2_with fail
  go_ret2
  exact ⟨rfl, h, ⟨rfl, rfl, rfl, Nat.le_refl _, fun _ _ _ => rfl⟩⟩
theorem take_yes (w : World) {r : Nat} {a : Option Addr} {n c at_ : Nat} {xs : List UInt8} (h : RD w r a n c at_) (hx : BS w a n c xs) (k : Nat) (hat : at_ ≤ n) (hn : n ≤ 140737488355328) (hk : k ≤ n - at_) (hrb : ∀ ad, a = some ad → ad.block ≠ r) :
    Calls Tryd.prog 87 #[.pointer (some ⟨r, 0, none⟩), .int .i64 (k : Int)] w fun e w' => ∃ a' c', e = .returned (.tuple #[.slice a' k c', .bool true]) ∧ OW w' w.heap.size 5 1 a' k c' (((xs.drop at_).take k).map B) ∧ RD w' r a n c (at_ + k) ∧ w.grownBy w' (some r) := by
  have h0 := h.c0
  have h1 := h.c1
  have h2 := h.fr 1
  have ht : ¬ ((n : Int) - (at_ : Int) < (k : Int)) := by omega
  go_enter Tryd.func87, Tryd.ntmps87
  go_wp2_with fail
  go_quiet (fail)
  go_wp2_with fail
  obtain ⟨W, hW⟩ : ∃ W, W = (w.drewN nq).setCell ⟨r, 1, none⟩ (.int .i64 ((at_ : Int) + (k : Int))) := ⟨_, rfl⟩
  rw [← hW]
  have hR : RD W r a n c (at_ + k) := by
    rw [hW]; have := RD.set (w := w.drewN nq) h (at_ + k); simpa using this
  have hG : w.grownBy W (some r) := by rw [hW]; have g := grownBy_setCell (w.drewN nq) ⟨r, 1, none⟩ (.int .i64 ((at_ : Int) + (k : Int))); exact ⟨g.os, g.tape, g.output, g.size, g.block⟩
  have hz : w.heap.size ≤ W.heap.size := hG.size
  have hxW : BS W a n c xs := hx.grown hG (fun ad ha he => hrb ad ha (by simpa using he))
  clear hW h0 h1 h2
  have h0 := hR.c0
  have h1 := hR.c1
  have hw0 : IntKind.i64.wrap (at_ : Int) = at_ := IntWalk.i64_in _ (by omega)
  go_still_tail 14, (by kernel_rfl)
  clear hw0
  change wpList _ _ _ _ _ W.drew
  have hxW2 : BS W.drew a n c xs := hxW
  go_wp2_with (first | (refine LB_slice_lh tB hxW2 at_ (at_ + k) _ _ _ rfl rfl _ _ _ _ rfl rfl rfl rfl rfl (by omega) (by omega) ?_; rw [Nat.add_sub_cancel_left]; intro a1 hx1) | (go_at_call 38; refine (clone_any _ hx1 (by omega)).mono ?_; rintro e w' ⟨a', c', rfl, h1, h2⟩))
  go_ret2
  have hR2 := RD.below (w := W.drew) hR h2
  refine ⟨a', c', rfl, h1.mono (by simpa using hz), hR2, ?_⟩
  exact ⟨h2.os.trans hG.os, h2.tape.trans hG.tape, h2.output.trans hG.output, Nat.le_trans hz h2.size, fun b hb hbr => (h2.block b (by simp; omega)).trans (hG.block b hb hbr)⟩
end Go.Proofs.YtlncnjcbgfeaoaaDoor

/- head's reader: id: what it hands back. -/
set_option maxRecDepth 100000
namespace Go.Proofs.YtlncnjcbgfeaoaaDoor
open Go.RowKit
def IdPost (w : World) (r : Nat) (a : Option Addr) (n c at_ : Nat) (xs : List UInt8) (e : Ending) (w' : World) : Prop :=
  ∃ a' m c', e = .returned (.tuple #[.slice a' m c', .int .i64 (idS (xs.drop at_)).1]) ∧ w.grownBy w' (some r) ∧ OW w' w.heap.size 5 1 a' m c' ((idS (xs.drop at_)).2.map B) ∧
    ((idS (xs.drop at_)).1 = 0 → RD w' r a n c (at_ + 1 + m))
theorem id_any (w : World) {r : Nat} {a : Option Addr} {n c at_ : Nat} {xs : List UInt8} (h : RD w r a n c at_) (hx : BS w a n c xs) (hat : at_ ≤ n) (hn : n ≤ 140737488355328) (hrb : ∀ ad, a = some ad → ad.block ≠ r) :
    Calls Tryd.prog 88 #[.pointer (some ⟨r, 0, none⟩)] w (IdPost w r a n c at_ xs) := by
  have hl := hx.len
  by_cases h1 : at_ = n
  · have hd : xs.drop at_ = [] := List.drop_eq_nil_of_le (by omega)
    have Hd := Lib.hid hd
    clear hd hl
    subst h1
    go_enter Tryd.func88, Tryd.ntmps88
    go_wp2_with (go_at_call 87; refine (take_no _ h 1 (by omega) (by omega) (by omega)).mono ?_; rintro e w' ⟨rfl, h1, h2⟩)
    go_ret2
    unfold IdPost
    rw [Hd.out, idS_nil]
    exact ⟨none, 0, 0, rfl, h2, OW_nil _ _ _ _, by simp⟩
  · obtain ⟨b, hb⟩ := hx.get at_ (by omega)
    have hd : xs.drop at_ = b :: xs.drop (at_ + 1) := by
      rw [List.drop_eq_getElem_cons (by omega)]
      have := (List.getElem?_eq_some_iff.1 hb).2
      rw [this]
    have hd1 : (xs.drop at_).take 1 = [b] := by rw [hd]; rfl
    have hdl : (xs.drop (at_ + 1)).length = n - at_ - 1 := by rw [List.length_drop]; omega
    have hb8 := u8_lt b
    have hi := idS_cons b (xs.drop (at_ + 1))
    rw [hdl, ← hd] at hi
    have t1 : ∀ w, RD w r a n c at_ → BS w a n c xs → Calls Tryd.prog 87 #[.pointer (some ⟨r, 0, none⟩), .int .i64 ((1 : Nat) : Int)] w fun e w' => ∃ a' c', e = .returned (.tuple #[.slice a' 1 c', .bool true]) ∧ OW w' w.heap.size 5 1 a' 1 c' ([b].map B) ∧ RD w' r a n c (at_ + 1) ∧ w.grownBy w' (some r) := by
      intro w h hx
      have := take_yes w h hx 1 (by omega) hn (by omega) hrb
      rwa [hd1] at this
    have T1 := Lib.hid (t1 w h hx)
    clear hd1 t1 hb
    by_cases h2 : 20 < b.toNat
    · rw [if_pos h2] at hi
      have Hi := Lib.hid hi
      clear hi hd hl hdl
      go_enter Tryd.func88, Tryd.ntmps88
      go_wp2_with (first | (go_at_call 87; refine T1.out.mono ?_; rintro e w1 ⟨a1, c1, rfl, g1, g2, g3⟩) | (refine LB_index tB (xs := [b]) g1.rs b _ _ rfl rfl _ _ rfl rfl (by omega) (by omega) rfl ?_; intro q hq))
      go_ret2
      unfold IdPost
      rw [Hi.out]
      exact ⟨none, 0, 0, rfl, g3, OW_nil _ _ _ _, by simp⟩
    · rw [if_neg h2] at hi
      by_cases h3 : n - at_ - 1 < b.toNat
      · rw [if_pos h3] at hi
        have Hi := Lib.hid hi
        clear hi hd hl hdl
        go_enter Tryd.func88, Tryd.ntmps88
        go_wp2_with (first | (go_at_call 87; refine T1.out.mono ?_; rintro e w1 ⟨a1, c1, rfl, g1, g2, g3⟩; clear T1) | (refine LB_index tB (xs := [b]) g1.rs b _ _ rfl rfl _ _ rfl rfl (by omega) (by omega) rfl ?_; intro q hq) | (go_at_call 87; refine (take_no _ g2 _ (by omega) (by omega) (by omega)).mono ?_; rintro e w2 ⟨rfl, g4, g5⟩))
        go_ret2
        unfold IdPost
        rw [Hi.out]
        exact ⟨none, 0, 0, rfl, grown_trans g3 g5, OW_nil _ _ _ _, by simp⟩
      · rw [if_neg h3] at hi
        have hm : ((xs.drop (at_ + 1)).take b.toNat) = (idS (xs.drop at_)).2 := by rw [hi]
        have Hi := Lib.hid hi
        have Hm := Lib.hid hm
        clear hi hd hl hdl hm
        go_enter Tryd.func88, Tryd.ntmps88
        go_wp2_with (first | (go_at_call 87; refine T1.out.mono ?_; rintro e w1 ⟨a1, c1, rfl, g1, g2, g3⟩; clear T1; have hx1 := RS.grown hx g3 (fun ad ha he => hrb ad ha (by simpa using he))) | (refine LB_index tB (xs := [b]) g1.rs b _ _ rfl rfl _ _ rfl rfl (by omega) (by omega) rfl ?_; intro q hq) | (go_at_call 87; refine (take_yes _ g2 hx1 _ (by omega) (by omega) (by omega) hrb).mono ?_; rintro e w2 ⟨a2, c2, rfl, g4, g5, g6⟩))
        go_ret2
        unfold IdPost
        rw [Hm.out] at g4
        refine ⟨a2, b.toNat, c2, by rw [Hi.out]; rfl, grown_trans g3 g6, g4.mono g3.size, fun _ => g5⟩
end Go.Proofs.YtlncnjcbgfeaoaaDoor

/- head's reader: num: what it hands back. -/
set_option maxRecDepth 100000
namespace Go.Proofs.YtlncnjcbgfeaoaaDoor
open Go.RowKit
def NumPost (w : World) (r : Nat) (a : Option Addr) (n c at_ : Nat) (xs : List UInt8) (e : Ending) (w' : World) : Prop :=
  match takeS (xs.drop at_) with
  | none => e = .returned (.tuple #[.int .u64 0, .int .i64 2]) ∧ w.grownBy w' (some r)
  | some (v, ys) => e = .returned (.tuple #[.int .u64 (v : Int), .int .i64 0]) ∧ w.grownBy w' (some r) ∧ RD w' r a n c (n - ys.length)
theorem takeS_len {p : List UInt8} {v : Nat} {ys : List UInt8} (h : takeS p = some (v, ys)) : ys.length ≤ p.length := by
  cases p with
  | nil => cases h
  | cons b bs =>
    rw [takeS_cons] at h
    split at h
    · cases h
    · simp only [Option.some.injEq, Prod.mk.injEq] at h
      rw [← h.2, List.length_drop]; exact Nat.sub_le _ _
theorem num_none (w : World) {r : Nat} {a : Option Addr} {n c at_ : Nat} {xs : List UInt8} (h : RD w r a n c at_) (hx : BS w a n c xs) (hat : at_ ≤ n) (hn : n ≤ 140737488355328) (ht : takeS (xs.drop at_) = none) :
    Calls Tryd.prog 89 #[.pointer (some ⟨r, 0, none⟩)] w (NumPost w r a n c at_ xs) := by
  have hl := hx.len
  have h0 := h.c0
  have h1 := h.c1
  have hxc : BS w.drew (if c = at_ then a else Option.map (fun x => x.add at_) a) (n - at_) (c - at_) (xs.drop at_) := by
    have h2 := RS.cut (w := w.drew) hx at_ n c hat (Nat.le_refl _) hx.le (Nat.le_refl _)
    simp only [Nat.mul_one] at h2
    rw [List.take_of_length_le (by rw [List.length_drop, List.length_map]; omega), ← List.map_drop] at h2
    exact h2
  have hlt := h.lt
  obtain ⟨A, hA⟩ : ∃ A, (if c = at_ then a else Option.map (fun x => x.add at_) a) = A := ⟨_, rfl⟩
  rw [hA] at hxc
  have hp : ∀ w1 a1, BS w1 a1 (n - at_) (c - at_) (xs.drop at_) → Calls Tryd.prog 101 #[.slice a1 (n - at_) (c - at_)] w1 (TakePost w1 (xs.drop at_)) := fun w1 a1 h => takep_any w1 _ h (by omega)
  have hp2 : ∀ w1 a1, BS w1 a1 (n - at_) (c - at_) (xs.drop at_) → Calls Tryd.prog 101 #[.slice a1 (n - at_) (c - at_)] w1 fun e w' => e = .returned (.tuple #[.int .u64 0, .slice none 0 0, .int .i64 2]) ∧ Below w1.heap.size w1 w' := by
    intro w1 a1 h
    refine (hp w1 a1 h).mono fun e w' h => ?_
    unfold TakePost at h; rw [ht] at h; exact h
  have T := Lib.hid (hp2 w.drew _ hxc)
  have Ht := Lib.hid ht
  clear hp hp2 ht hl hxc
  go_enter Tryd.func89, Tryd.ntmps89
  go_wp2_with fail
  go_region_with (go_at_call 101; clear hA; refine T.out.mono ?_; rintro e w1 ⟨rfl, h2⟩)
  all_goals
    go_wp2_with fail
    go_ret2
    unfold NumPost
    rw [Ht.out]
    exact ⟨rfl, grown_of_below (below_undrew h2)⟩
theorem num_some (w : World) {r : Nat} {a : Option Addr} {n c at_ : Nat} {xs : List UInt8} (h : RD w r a n c at_) (hx : BS w a n c xs) (hat : at_ ≤ n) (hn : n ≤ 140737488355328) (v : Nat) (ys : List UInt8) (ht : takeS (xs.drop at_) = some (v, ys)) :
    Calls Tryd.prog 89 #[.pointer (some ⟨r, 0, none⟩)] w (NumPost w r a n c at_ xs) := by
  have hl := hx.len
  have h0 := h.c0
  have h1 := h.c1
  have hxc : BS w.drew (if c = at_ then a else Option.map (fun x => x.add at_) a) (n - at_) (c - at_) (xs.drop at_) := by
    have h2 := RS.cut (w := w.drew) hx at_ n c hat (Nat.le_refl _) hx.le (Nat.le_refl _)
    simp only [Nat.mul_one] at h2
    rw [List.take_of_length_le (by rw [List.length_drop, List.length_map]; omega), ← List.map_drop] at h2
    exact h2
  have hlt := h.lt
  obtain ⟨A, hA⟩ : ∃ A, (if c = at_ then a else Option.map (fun x => x.add at_) a) = A := ⟨_, rfl⟩
  rw [hA] at hxc
  have hp : ∀ w1 a1, BS w1 a1 (n - at_) (c - at_) (xs.drop at_) → Calls Tryd.prog 101 #[.slice a1 (n - at_) (c - at_)] w1 (TakePost w1 (xs.drop at_)) := fun w1 a1 h => takep_any w1 _ h (by omega)
  have hyl := takeS_len ht
  rw [List.length_drop, hl] at hyl
  obtain ⟨m, hm⟩ : ∃ m, m = ys.length := ⟨_, rfl⟩
  rw [← hm] at hyl
  have hp2 : ∀ w1 a1, BS w1 a1 (n - at_) (c - at_) (xs.drop at_) → Calls Tryd.prog 101 #[.slice a1 (n - at_) (c - at_)] w1 fun e w' => ∃ a' c', e = .returned (.tuple #[.int .u64 (v : Int), .slice a' m c', .int .i64 0]) ∧ Below w1.heap.size w1 w' := by
    intro w1 a1 h
    refine (hp w1 a1 h).mono fun e w' h => ?_
    unfold TakePost at h; rw [ht] at h
    obtain ⟨a', c', h1, h2, h3⟩ := h
    exact ⟨a', c', by rw [hm]; exact h1, h3⟩
  have T := Lib.hid (hp2 w.drew _ hxc)
  have Ht := Lib.hid ht
  have Hm := Lib.hid hm
  clear hp hp2 ht hl hm hxc
  go_enter Tryd.func89, Tryd.ntmps89
  go_wp2_with fail
  go_region_with (go_at_call 101; clear hA; refine T.out.mono ?_; rintro e w1 ⟨a2, c2, rfl, h2⟩; have hR := RD.below (w := w.drew) h h2; have g0 := hR.c0; have g1 := hR.c1; have g2 := hR.fr 1)
  all_goals
    go_wp2_with fail
    go_ret2
    unfold NumPost
    rw [Ht.out]
    have hG : w.grownBy w1 (some r) := grown_of_below (below_undrew h2)
    refine ⟨rfl, grown_trans hG (grownBy_setCell w1 ⟨r, 1, none⟩ _), ?_⟩
    have := hR.set (n - m)
    rw [Hm.out] at this
    rw [show ((n : Int) - (m : Int)) = ((n - ys.length : Nat) : Int) by rw [← Hm.out]; omega]
    exact this
theorem num_any (w : World) {r : Nat} {a : Option Addr} {n c at_ : Nat} {xs : List UInt8} (h : RD w r a n c at_) (hx : BS w a n c xs) (hat : at_ ≤ n) (hn : n ≤ 140737488355328) :
    Calls Tryd.prog 89 #[.pointer (some ⟨r, 0, none⟩)] w (NumPost w r a n c at_ xs) := by
  cases ht : takeS (xs.drop at_) with
  | none => exact num_none w h hx hat hn ht
  | some vy => exact num_some w h hx hat hn vy.1 vy.2 ht
end Go.Proofs.YtlncnjcbgfeaoaaDoor

/- head.short: a number's lowest bytes. -/
set_option maxRecDepth 100000
namespace Go.Proofs.YtlncnjcbgfeaoaaDoor
open Go.RowKit
theorem B_ofNat (n : Nat) : B (UInt8.ofNat n) = .int .u8 ((n : Int) % 256) := by
  unfold B; rw [UInt8.toNat_ofNat']; rfl
theorem short_1 (w : World) (pn : Nat) :
    Calls Tryd.prog 63 #[.int .u64 (pn : Int), .int .i64 1] w (Made w 1 ((beB 1 pn).map B)) := by
  have hv : (beB 1 pn).map B = [.int .u8 ((pn : Int) % 256)] := by
    simp only [beB, List.nil_append, List.map_cons, List.map_nil, B_ofNat]
  rw [hv]
  clear hv
  go_enter Tryd.func63, Tryd.ntmps63
  go_wp2
  refine wp_loop_rounds 2 ?_
  rw [rounds_succ]
  go_wp2_with (at_builtin; refine L_append tB (OW_nil _ w.heap.size _ _) (RS_one _ _ _ rfl) _ _ rfl rfl rfl rfl (by omega) (by unfold maxLen; omega) (by simp) ?_; intro a1 c1 w1 o1 g1)
  have b1 := below_none (below_alloc w _) g1 (by simp)
  rw [rounds_succ]
  go_wp2
  go_ret
  exact ⟨a1, c1, rfl, by simpa using o1, b1⟩
theorem short_2 (w : World) (pn : Nat) :
    Calls Tryd.prog 63 #[.int .u64 (pn : Int), .int .i64 2] w (Made w 2 ((beB 2 pn).map B)) := by
  have hv : (beB 2 pn).map B = [.int .u8 ((pn : Int) / 256 % 256), .int .u8 ((pn : Int) % 256)] := by
    simp only [beB, List.nil_append, List.cons_append, List.map_cons, List.map_nil, B_ofNat]
    simp
    try omega
  rw [hv]
  clear hv
  go_enter Tryd.func63, Tryd.ntmps63
  go_wp2
  refine wp_loop_rounds 3 ?_
  rw [rounds_succ]
  go_wp2_with (at_builtin; refine L_append tB (OW_nil _ w.heap.size _ _) (RS_one _ _ _ rfl) _ _ rfl rfl rfl rfl (by omega) (by unfold maxLen; omega) (by simp) ?_; intro a1 c1 w1 o1 g1)
  have b1 := below_none (below_alloc w _) g1 (by simp)
  rw [rounds_succ]
  go_wp2_with (at_builtin; refine L_append tB (o1.alloc _) (RS_one _ _ _ rfl) _ _ rfl rfl rfl rfl (by omega) (by unfold maxLen; omega) (by have := b1.size; simp; omega) ?_; intro a2 c2 w2 o2 g2)
  have b2 := below_own (b1.alloc b1.size _) (o1.alloc _) g2 (Nat.le_refl _) (by have := b1.size; simp; omega)
  rw [rounds_succ]
  go_wp2
  go_ret
  exact ⟨a2, c2, rfl, by simpa using o2, b2⟩
theorem short_3 (w : World) (pn : Nat) :
    Calls Tryd.prog 63 #[.int .u64 (pn : Int), .int .i64 3] w (Made w 3 ((beB 3 pn).map B)) := by
  have hv : (beB 3 pn).map B = [.int .u8 ((pn : Int) / 65536 % 256), .int .u8 ((pn : Int) / 256 % 256), .int .u8 ((pn : Int) % 256)] := by
    simp only [beB, List.nil_append, List.cons_append, List.map_cons, List.map_nil, B_ofNat]
    simp
    try omega
  rw [hv]
  clear hv
  go_enter Tryd.func63, Tryd.ntmps63
  go_wp2
  refine wp_loop_rounds 4 ?_
  rw [rounds_succ]
  go_wp2_with (at_builtin; refine L_append tB (OW_nil _ w.heap.size _ _) (RS_one _ _ _ rfl) _ _ rfl rfl rfl rfl (by omega) (by unfold maxLen; omega) (by simp) ?_; intro a1 c1 w1 o1 g1)
  have b1 := below_none (below_alloc w _) g1 (by simp)
  rw [rounds_succ]
  go_wp2_with (at_builtin; refine L_append tB (o1.alloc _) (RS_one _ _ _ rfl) _ _ rfl rfl rfl rfl (by omega) (by unfold maxLen; omega) (by have := b1.size; simp; omega) ?_; intro a2 c2 w2 o2 g2)
  have b2 := below_own (b1.alloc b1.size _) (o1.alloc _) g2 (Nat.le_refl _) (by have := b1.size; simp; omega)
  rw [rounds_succ]
  go_wp2_with (at_builtin; refine L_append tB (o2.alloc _) (RS_one _ _ _ rfl) _ _ rfl rfl rfl rfl (by omega) (by unfold maxLen; omega) (by have := b2.size; simp; omega) ?_; intro a3 c3 w3 o3 g3)
  have b3 := below_own (b2.alloc b2.size _) (o2.alloc _) g3 (Nat.le_refl _) (by have := b2.size; simp; omega)
  rw [rounds_succ]
  go_wp2
  go_ret
  exact ⟨a3, c3, rfl, by simpa using o3, b3⟩
theorem short_4 (w : World) (pn : Nat) :
    Calls Tryd.prog 63 #[.int .u64 (pn : Int), .int .i64 4] w (Made w 4 ((beB 4 pn).map B)) := by
  have hv : (beB 4 pn).map B = [.int .u8 ((pn : Int) / 16777216 % 256), .int .u8 ((pn : Int) / 65536 % 256), .int .u8 ((pn : Int) / 256 % 256), .int .u8 ((pn : Int) % 256)] := by
    simp only [beB, List.nil_append, List.cons_append, List.map_cons, List.map_nil, B_ofNat]
    simp
    try omega
  rw [hv]
  clear hv
  go_enter Tryd.func63, Tryd.ntmps63
  go_wp2
  refine wp_loop_rounds 5 ?_
  rw [rounds_succ]
  go_wp2_with (at_builtin; refine L_append tB (OW_nil _ w.heap.size _ _) (RS_one _ _ _ rfl) _ _ rfl rfl rfl rfl (by omega) (by unfold maxLen; omega) (by simp) ?_; intro a1 c1 w1 o1 g1)
  have b1 := below_none (below_alloc w _) g1 (by simp)
  rw [rounds_succ]
  go_wp2_with (at_builtin; refine L_append tB (o1.alloc _) (RS_one _ _ _ rfl) _ _ rfl rfl rfl rfl (by omega) (by unfold maxLen; omega) (by have := b1.size; simp; omega) ?_; intro a2 c2 w2 o2 g2)
  have b2 := below_own (b1.alloc b1.size _) (o1.alloc _) g2 (Nat.le_refl _) (by have := b1.size; simp; omega)
  rw [rounds_succ]
  go_wp2_with (at_builtin; refine L_append tB (o2.alloc _) (RS_one _ _ _ rfl) _ _ rfl rfl rfl rfl (by omega) (by unfold maxLen; omega) (by have := b2.size; simp; omega) ?_; intro a3 c3 w3 o3 g3)
  have b3 := below_own (b2.alloc b2.size _) (o2.alloc _) g3 (Nat.le_refl _) (by have := b2.size; simp; omega)
  rw [rounds_succ]
  go_wp2_with (at_builtin; refine L_append tB (o3.alloc _) (RS_one _ _ _ rfl) _ _ rfl rfl rfl rfl (by omega) (by unfold maxLen; omega) (by have := b3.size; simp; omega) ?_; intro a4 c4 w4 o4 g4)
  have b4 := below_own (b3.alloc b3.size _) (o3.alloc _) g4 (Nat.le_refl _) (by have := b3.size; simp; omega)
  rw [rounds_succ]
  go_wp2
  go_ret
  exact ⟨a4, c4, rfl, by simpa using o4, b4⟩
theorem short_any (w : World) (pn : Nat) (k : Int) (h1 : 1 ≤ k) (h4 : k ≤ 4) :
    Calls Tryd.prog 63 #[.int .u64 (pn : Int), .int .i64 k] w (Made w k.toNat ((beB k.toNat pn).map B)) := by
  rcases (by omega : k = 1 ∨ k = 2 ∨ k = 3 ∨ k = 4) with rfl | rfl | rfl | rfl
  · exact short_1 w pn
  · exact short_2 w pn
  · exact short_3 w pn
  · exact short_4 w pn
end Go.Proofs.YtlncnjcbgfeaoaaDoor

/- head.read: what it hands back. -/
set_option maxRecDepth 100000
set_option linter.unusedVariables false
namespace Go.Proofs.YtlncnjcbgfeaoaaDoor
open Go.RowKit
/-- a head in memory -/
def HB (w : World) (b : Nat) (l : Bool) (lv : Int) (ph : Bool) (t f : Value) : Prop := w.heap[b]? = some (.cells #[.bool l, .int .i64 lv, .bool ph, t, f] 43 (0, 0))
section hb
variable {w : World} {b : Nat} {l : Bool} {lv : Int} {ph : Bool} {t f : Value}
theorem HB.lt (h : HB w b l lv ph t f) : b < w.heap.size := (Array.getElem?_eq_some_iff.1 h).1
theorem HB.cells (h : HB w b l lv ph t f) : w.cell? ⟨b, 0, none⟩ = some (.bool l) ∧ w.cell? ⟨b, 1, none⟩ = some (.int .i64 lv) ∧ w.cell? ⟨b, 2, none⟩ = some (.bool ph) ∧ w.cell? ⟨b, 3, none⟩ = some t ∧ w.cell? ⟨b, 4, none⟩ = some f := by
  unfold HB at h
  simp [World.cell?, h]
theorem HB.fr (h : HB w b l lv ph t f) : w.frozen? ⟨b, 0, none⟩ = false ∧ w.frozen? ⟨b, 1, none⟩ = false ∧ w.frozen? ⟨b, 2, none⟩ = false ∧ w.frozen? ⟨b, 3, none⟩ = false ∧ w.frozen? ⟨b, 4, none⟩ = false := by
  unfold HB at h
  simp [World.frozen?, h]
theorem HB.set0 (h : HB w b l lv ph t f) (v : Bool) : HB (w.setCell ⟨b, 0, none⟩ (.bool v)) b v lv ph t f := by
  unfold HB at h ⊢; simp [World.setCell, Array.getElem?_modify, h]
theorem HB.set1 (h : HB w b l lv ph t f) (v : Int) : HB (w.setCell ⟨b, 1, none⟩ (.int .i64 v)) b l v ph t f := by
  unfold HB at h ⊢; simp [World.setCell, Array.getElem?_modify, h]
theorem HB.set3 (h : HB w b l lv ph t f) (v : Value) : HB (w.setCell ⟨b, 3, none⟩ v) b l lv ph v f := by
  unfold HB at h ⊢; simp [World.setCell, Array.getElem?_modify, h]
theorem HB.set4 (h : HB w b l lv ph t f) (v : Value) : HB (w.setCell ⟨b, 4, none⟩ v) b l lv ph t v := by
  unfold HB at h ⊢; simp [World.setCell, Array.getElem?_modify, h]
theorem HB.grown {w' : World} {row : Option Nat} (h : HB w b l lv ph t f) (hg : w.grownBy w' row) (hb : some b ≠ row) : HB w' b l lv ph t f := by
  have := h.lt
  unfold HB at h ⊢
  rw [hg.block b this hb]; exact h
theorem HB_new (w : World) : HB (w.alloc (.cells #[.bool false, .int .i64 0, .bool false, .slice none 0 0, .slice none 0 0] 43)) w.heap.size false 0 false (.slice none 0 0) (.slice none 0 0) := heap_alloc_new w _
end hb
theorem RD.other {w : World} {r : Nat} {a : Option Addr} {n c at_ : Nat} (h : RD w r a n c at_) {b i : Nat} {v : Value} (hb : b ≠ r) : RD (w.setCell ⟨b, i, none⟩ v) r a n c at_ := by
  unfold RD at h ⊢
  rw [Below.heap_setCell _ _ _ _ (fun h => hb h.symm)]; exact h
/-- a head as a value -/
def HV (w : World) (hv : Value) (hd : Hd) : Prop :=
  ∃ ta tn tc fa fn fc, hv = .agg #[.bool hd.long, .int .i64 hd.level, .bool false, .slice ta tn tc, .slice fa fn fc] ∧ BS w ta tn tc hd.to ∧ BS w fa fn fc hd.frm
def ReadPost (w : World) (r : Nat) (xs : List UInt8) (e : Ending) (w' : World) : Prop :=
  ∃ (l : Bool) (lv : Int) (a1 : Option Addr) (n1 c1 : Nat) (a2 : Option Addr) (n2 c2 : Nat) (at_ en : Int), e = .returned (.tuple #[.agg #[.bool l, .int .i64 lv, .bool false, .slice a1 n1 c1, .slice a2 n2 c2], .int .i64 at_, .int .i64 en, .int .i64 (readP xs).1]) ∧ w.grownBy w' (some r) ∧
    ((readP xs).1 = 0 → HV w' (.agg #[.bool l, .int .i64 lv, .bool false, .slice a1 n1 c1, .slice a2 n2 c2]) (readP xs).2.1 ∧ at_ = ((readP xs).2.2.1 : Nat) ∧ en = ((readP xs).2.2.2 : Nat))
/-- the kinds of long heads, as the package lays them -/
def KG (w : World) : Prop := w.cell? ⟨1, 0, none⟩ = some (.int .u8 0) ∧ w.cell? ⟨1, 1, none⟩ = some (.int .u8 2)
theorem KG.lt {w : World} (h : KG w) : 1 < w.heap.size := World.block_lt_of_cell? w _ h.1
theorem KG.grown {w w' : World} {row : Option Nat} (h : KG w) (hg : w.grownBy w' row) (hne : some 1 ≠ row) : KG w' :=
  ⟨hg.cell h.1 hne, hg.cell h.2 hne⟩
theorem KG.below {w w' : World} (h : KG w) (hg : Below w.heap.size w w') : KG w' := h.grown (grown_of_below (row := none) hg) (by simp)
theorem KG.setOther {w : World} (h : KG w) {ad : Addr} (hne : ad.block ≠ 1) (v : Value) : KG (w.setCell ad v) :=
  h.grown (grownBy_setCell w ad v) (by simp; omega)
abbrev hobj : Obj := .cells #[.bool false, .int .i64 0, .bool false, .slice none 0 0, .slice none 0 0] 43
theorem and64 (b : UInt8) : bits .and .u8 (b.toNat : Int) 64 = ((b.toNat / 64 % 2 * 64 : Nat) : Int) := by
  rw [show (64 : Int) = ((64 : Nat) : Int) from rfl, u8_and_nat _ _ (u8_lt b) (by omega), show (64 : Nat) = 2 ^ 6 from rfl, nat_bit 6]
theorem and128 (b : UInt8) : bits .and .u8 (b.toNat : Int) 128 = ((b.toNat / 128 % 2 * 128 : Nat) : Int) := by
  rw [show (128 : Int) = ((128 : Nat) : Int) from rfl, u8_and_nat _ _ (u8_lt b) (by omega), show (128 : Nat) = 2 ^ 7 from rfl, nat_bit 7]
theorem and3 (b : UInt8) : bits .and .u8 ((b.toNat : Int) / 16) 3 = ((b.toNat / 16 % 4 : Nat) : Int) := by
  have := u8_lt b
  rw [show (3 : Int) = ((3 : Nat) : Int) from rfl, show ((b.toNat : Int) / 16) = ((b.toNat / 16 : Nat) : Int) from rfl, u8_and_nat _ _ (by omega) (by omega), nat_mask2]
theorem gr5 {w w1 : World} {r : Nat} (h : w.grownBy w1 (some r)) (b : Nat) (hb : w.heap.size ≤ b) (v0 v1 v2 v3 v4 : Value) :
    w.grownBy (((((w1.setCell ⟨b, 0, none⟩ v0).setCell ⟨b, 1, none⟩ v1).setCell ⟨b, 2, none⟩ v2).setCell ⟨b, 3, none⟩ v3).setCell ⟨b, 4, none⟩ v4) (some r) :=
  grown_setNew (grown_setNew (grown_setNew (grown_setNew (grown_setNew h hb _) hb _) hb _) hb _) hb _
theorem rs5 {w1 : World} {z : Nat} {a : Option Addr} {n c : Nat} {vs : List Value} (h : RS w1 z a n c vs) (b : Nat) (hb : ∀ x, a = some x → x.block ≠ b) (v0 v1 v2 v3 v4 : Value) :
    RS (((((w1.setCell ⟨b, 0, none⟩ v0).setCell ⟨b, 1, none⟩ v1).setCell ⟨b, 2, none⟩ v2).setCell ⟨b, 3, none⟩ v3).setCell ⟨b, 4, none⟩ v4) z a n c vs :=
  ((((h.setOther hb _).setOther hb _).setOther hb _).setOther hb _).setOther hb _
theorem read_nil (w : World) {r : Nat} {a : Option Addr} {c : Nat} (h : RD w r a 0 c 0) (hx : BS w a 0 c []) :
    Calls Tryd.prog 72 #[.pointer (some ⟨r, 0, none⟩)] w (ReadPost w r []) := by
  have hR := h.below (below_alloc w hobj)
  have hH := HB_new w
  have hlt := h.lt
  go_enter Tryd.func72, Tryd.ntmps72
  go_wp2_with (go_at_call 87; refine (take_no _ hR 1 (by omega) (by omega) (by omega)).mono ?_; rintro e w1 ⟨rfl, g1, g2⟩; have q1 := (hH.grown g2 (by simp; omega)).cells; have q2 := (hH.grown g2 (by simp; omega)).fr)
  refine bodyPost_ret (v := .tuple #[.agg #[.bool false, .int .i64 0, .bool false, .slice none 0 0, .slice none 0 0], .int .i64 0, .int .i64 0, .int .i64 2]) (by simp [results, Tryd.results72, go_sem, q1]) rfl ?_
  exact ⟨_, _, _, _, _, _, _, _, _, _, rfl, gr5 (grown_trans (World.grownBy_alloc w _ (some r)) g2) _ (Nat.le_refl _) _ _ _ _ _, by simp [readP, errR]⟩
section more
variable {w : World} {r : Nat} {a : Option Addr} {n c : Nat}
theorem read_form (b : UInt8) (bs : List UInt8) (h : RD w r a n c 0) (hx : BS w a n c (b :: bs)) (hn : n ≤ 140737488355328) (hrb : ∀ ad, a = some ad → ad.block ≠ r) (h6 : b.toNat / 64 % 2 = 0) :
    Calls Tryd.prog 72 #[.pointer (some ⟨r, 0, none⟩)] w (ReadPost w r (b :: bs)) := by
  have hl := hx.len
  have hn1 : 1 ≤ n := by simp at hl; omega
  have hb8 := u8_lt b
  have hR := h.below (below_alloc w hobj)
  have hX := hx.alloc hobj
  have hH := HB_new w
  have hlt := h.lt
  have T1 := Lib.hid (take_yes _ hR hX 1 (by omega) hn (by omega) hrb)
  have h64 := and64 b
  rw [h6] at h64
  have Hp := Lib.hid (show readP (b :: bs) = errR 4 by simp [readP, h6])
  clear h6 hl
  go_enter Tryd.func72, Tryd.ntmps72
  go_wp2_with (first | (go_at_call 87; refine T1.out.mono ?_; rintro e w1 ⟨a1, c1, rfl, g1, g2, g3⟩; clear T1; have q1 := (hH.grown g3 (by simp; omega)).cells; have q2 := (hH.grown g3 (by simp; omega)).fr) | (refine LB_index tB (xs := [b]) g1.rs b _ _ rfl rfl _ _ rfl rfl (by omega) (by omega) rfl ?_; intro q hq))
  refine bodyPost_ret (v := .tuple #[.agg #[.bool false, .int .i64 0, .bool false, .slice none 0 0, .slice none 0 0], .int .i64 0, .int .i64 0, .int .i64 4]) (by simp [results, Tryd.results72, go_sem, q1]) rfl ?_
  refine ⟨_, _, _, _, _, _, _, _, _, _, by rw [Hp.out]; rfl, gr5 (grown_trans (World.grownBy_alloc w _ (some r)) g3) _ (Nat.le_refl _) _ _ _ _ _, by rw [Hp.out]; simp [errR]⟩
theorem read_short (b : UInt8) (bs : List UInt8) (h : RD w r a n c 0) (hx : BS w a n c (b :: bs)) (hn : n ≤ 140737488355328) (hrb : ∀ ad, a = some ad → ad.block ≠ r) (h6 : b.toNat / 64 % 2 ≠ 0) (h7 : b.toNat < 128) (hs : n < 9) :
    Calls Tryd.prog 72 #[.pointer (some ⟨r, 0, none⟩)] w (ReadPost w r (b :: bs)) := by
  have hl := hx.len
  have hn1 : 1 ≤ n := by simp at hl; omega
  have hb8 := u8_lt b
  have hR := h.below (below_alloc w hobj)
  have hX := hx.alloc hobj
  have hH := HB_new w
  have hlt := h.lt
  have T1 := Lib.hid (take_yes _ hR hX 1 (by omega) hn (by omega) hrb)
  have h64 := and64 b
  rw [show b.toNat / 64 % 2 = 1 by omega] at h64
  have h128 := and128 b
  rw [show b.toNat / 128 % 2 = 0 by omega] at h128
  have Hp := Lib.hid (show readP (b :: bs) = errR 2 by rw [readP, if_neg h6, if_pos h7, if_pos (by omega)])
  clear h6 hl h7
  go_enter Tryd.func72, Tryd.ntmps72
  go_wp2_with (first | (go_at_call 87; refine T1.out.mono ?_; rintro e w1 ⟨a1, c1, rfl, g1, g2, g3⟩; clear T1; have q1 := (hH.grown g3 (by simp; omega)).cells; have q2 := (hH.grown g3 (by simp; omega)).fr) | (refine LB_index tB (xs := [b]) g1.rs b _ _ rfl rfl _ _ rfl rfl (by omega) (by omega) rfl ?_; intro q hq) | (go_at_call 87; refine (take_no _ (RD.other g2 (by omega)) 8 (by omega) (by omega) (by omega)).mono ?_; rintro e w2 ⟨rfl, k1, k2⟩; have q3 := (((hH.grown g3 (by simp; omega)).set1 2).grown k2 (by simp; omega)).cells; have q4 := (((hH.grown g3 (by simp; omega)).set1 2).grown k2 (by simp; omega)).fr))
  refine bodyPost_ret (v := .tuple #[.agg #[.bool false, .int .i64 2, .bool false, .slice none 0 0, .slice none 0 0], .int .i64 0, .int .i64 0, .int .i64 2]) (by simp [results, Tryd.results72, go_sem, q3]) rfl ?_
  refine ⟨_, _, _, _, _, _, _, _, _, _, by rw [Hp.out]; rfl, ?_, by rw [Hp.out]; simp [errR]⟩
  exact gr5 (grown_setNew (grown_trans (grown_setNew (grown_trans (World.grownBy_alloc w _ (some r)) g3) (Nat.le_refl _) _) k2) (Nat.le_refl _) _) _ (Nat.le_refl _) _ _ _ _ _
theorem read_app (b : UInt8) (bs : List UInt8) (h : RD w r a n c 0) (hx : BS w a n c (b :: bs)) (hn : n ≤ 140737488355328) (hrb : ∀ ad, a = some ad → ad.block ≠ r) (h6 : b.toNat / 64 % 2 ≠ 0) (h7 : b.toNat < 128) (hs : 9 ≤ n) :
    Calls Tryd.prog 72 #[.pointer (some ⟨r, 0, none⟩)] w (ReadPost w r (b :: bs)) := by
  have hl := hx.len
  have hn1 : 1 ≤ n := by simp at hl; omega
  have hb8 := u8_lt b
  have hR := h.below (below_alloc w hobj)
  have hX := hx.alloc hobj
  have hH := HB_new w
  have hlt := h.lt
  have T1 := Lib.hid (take_yes _ hR hX 1 (by omega) hn (by omega) hrb)
  have h64 := and64 b
  rw [show b.toNat / 64 % 2 = 1 by omega] at h64
  have h128 := and128 b
  rw [show b.toNat / 128 % 2 = 0 by omega] at h128
  have hb0 : ∀ x, a = some x → x.block ≠ w.heap.size := fun x hxa => by have := hx.block_lt hxa (by omega) (by omega); omega
  have Hp := Lib.hid (show readP (b :: bs) = (0, ⟨false, 2, ((b :: bs).drop 1).take 8, []⟩, 9, n) by rw [readP, if_neg h6, if_pos h7, if_neg (by omega), hl])
  clear h6 hl h7
  go_enter Tryd.func72, Tryd.ntmps72
  go_wp2_with (first | (go_at_call 87; refine T1.out.mono ?_; rintro e w1 ⟨a1, c1, rfl, g1, g2, g3⟩; clear T1; have q1 := (hH.grown g3 (by simp; omega)).cells; have q2 := (hH.grown g3 (by simp; omega)).fr; have hX1 : BS w1 a n c (b :: bs) := RS.grown hX g3 (fun ad ha he => hrb ad ha (by simpa using he))) | (refine LB_index tB (xs := [b]) g1.rs b _ _ rfl rfl _ _ rfl rfl (by omega) (by omega) rfl ?_; intro q hq) | (go_at_call 87; refine (take_yes _ (RD.other g2 (by omega)) (RS.setOther hX1 hb0 _) 8 (by omega) hn (by omega) hrb).mono ?_; rintro e w2 ⟨a2, c2, rfl, k1, k2, k3⟩; have q3 := (((hH.grown g3 (by simp; omega)).set1 2).grown k3 (by simp; omega)).cells; have q4 := (((hH.grown g3 (by simp; omega)).set1 2).grown k3 (by simp; omega)).fr))
  have r0 := k2.c0
  have r1 := k2.c1
  go_region
  go_wp2
  refine bodyPost_ret (v := .tuple #[.agg #[.bool false, .int .i64 2, .bool false, .slice a2 8 c2, .slice none 0 0], .int .i64 9, .int .i64 n, .int .i64 0]) (by simp [results, Tryd.results72, go_sem, q3]) rfl ?_
  have e2 : ∀ x, a2 = some x → x.block ≠ w.heap.size := fun x hxa => by
    have h1 := (k1.base_le hxa).1
    have h2 := g3.size
    simp at h1 h2
    omega
  have hG := gr5 (grown_setNew (grown_trans (grown_setNew (grown_trans (World.grownBy_alloc w hobj (some r)) g3) (Nat.le_refl _) (.int .i64 2)) k3) (Nat.le_refl _) (.slice a2 8 c2) : w.grownBy (w2.setCell ⟨w.heap.size, 3, none⟩ (.slice a2 8 c2)) (some r)) _ (Nat.le_refl _) (.bool false) (.int .i64 2) (.bool false) (.slice a2 8 c2) (.slice none 0 0)
  refine ⟨_, _, _, _, _, _, _, _, _, _, by rw [Hp.out], grown_drew hG, fun _ => ?_⟩
  rw [Hp.out]
  refine ⟨⟨a2, 8, c2, none, 0, 0, rfl, ?_, RS_nil _ _⟩, rfl, rfl⟩
  exact RS.drew (rs5 (RS.setOther k1.rs e2 _) _ e2 _ _ _ _ _)
end more
end Go.Proofs.YtlncnjcbgfeaoaaDoor

/- head.read: long heads. -/
set_option maxRecDepth 100000
set_option linter.unusedVariables false
namespace Go.Proofs.YtlncnjcbgfeaoaaDoor
open Go.RowKit
section more
variable {w : World} {r : Nat} {a : Option Addr} {n c : Nat}
theorem read_kind (b : UInt8) (bs : List UInt8) (h : RD w r a n c 0) (hx : BS w a n c (b :: bs)) (hk : KG w) (hkr : r ≠ 1) (hn : n ≤ 140737488355328) (hrb : ∀ ad, a = some ad → ad.block ≠ r) (h6 : b.toNat / 64 % 2 ≠ 0) (h7 : ¬ b.toNat < 128) (ht0 : b.toNat / 16 % 4 ≠ 0) (ht2 : b.toNat / 16 % 4 ≠ 2) :
    Calls Tryd.prog 72 #[.pointer (some ⟨r, 0, none⟩)] w (ReadPost w r (b :: bs)) := by
  have hl := hx.len
  have hn1 : 1 ≤ n := by simp at hl; omega
  have hb8 := u8_lt b
  have hR := h.below (below_alloc w hobj)
  have hX := hx.alloc hobj
  have hH := HB_new w
  have hlt := h.lt
  have hkl := hk.lt
  have T1 := Lib.hid (take_yes _ hR hX 1 (by omega) hn (by omega) hrb)
  have h64 := and64 b
  rw [show b.toNat / 64 % 2 = 1 by omega] at h64
  have h128 := and128 b
  rw [show b.toNat / 128 % 2 = 1 by omega] at h128
  have hA3 := and3 b
  have hx0 : (((b.toNat / 16 % 4 : Nat) : Int) == 0) = false := by simp; omega
  have hx2 : (((b.toNat / 16 % 4 : Nat) : Int) == 2) = false := by simp; omega
  have Hp := Lib.hid (show readP (b :: bs) = errR 4 by rw [readP, if_neg h6, if_neg h7, if_neg ht0, if_neg ht2])
  generalize b.toNat / 16 % 4 = t at *
  clear h6 hl h7 ht0 ht2
  go_enter Tryd.func72, Tryd.ntmps72
  go_wp2_with (first | (go_at_call 87; refine T1.out.mono ?_; rintro e w1 ⟨a1, c1, rfl, g1, g2, g3⟩; clear T1; have q1 := (hH.grown g3 (by simp; omega)).cells; have q2 := (hH.grown g3 (by simp; omega)).fr; have q3 := ((hk.below (below_alloc w hobj)).grown g3 (by simp; omega)).1; have q4 := ((hk.below (below_alloc w hobj)).grown g3 (by simp; omega)).2) | (refine LB_index tB (xs := [b]) (RS.setOther (g1.rs) (by intro x hx; have h1 := (g1.base_le hx).1; simp at h1 ⊢; omega) _) b _ _ rfl rfl _ _ rfl rfl (by omega) (by omega) rfl ?_; intro q hq) | (refine LB_index tB (xs := [b]) g1.rs b _ _ rfl rfl _ _ rfl rfl (by omega) (by omega) rfl ?_; intro q hq))
  refine bodyPost_ret (v := .tuple #[.agg #[.bool true, .int .i64 0, .bool false, .slice none 0 0, .slice none 0 0], .int .i64 0, .int .i64 0, .int .i64 4]) (by simp [results, Tryd.results72, go_sem, q1]) rfl ?_
  refine ⟨_, _, _, _, _, _, _, _, _, _, by rw [Hp.out]; rfl, gr5 (grown_setNew (grown_trans (World.grownBy_alloc w _ (some r)) g3) (Nat.le_refl _) _) _ (Nat.le_refl _) _ _ _ _ _, by rw [Hp.out]; simp [errR]⟩
end more
end Go.Proofs.YtlncnjcbgfeaoaaDoor

/- the reference's Read: all but the long heads. -/
set_option maxRecDepth 100000
set_option linter.unusedVariables false
namespace Go.Proofs.YtlncnjcbgfeaoaaDoor
open Go.RowKit
/-- what a reader of heads hands back -/
def ReadSPost (w : World) (xs : List UInt8) (e : Ending) (w' : World) : Prop :=
  ∃ (l : Bool) (lv : Int) (a1 : Option Addr) (n1 c1 : Nat) (a2 : Option Addr) (n2 c2 : Nat), e = .returned (.tuple #[.agg #[.bool l, .int .i64 lv, .bool false, .slice a1 n1 c1, .slice a2 n2 c2], .int .i64 ((readS xs).2.2.1 : Nat), .int .i64 ((readS xs).2.2.2 : Nat), .int .i64 (readS xs).1]) ∧
    HV w' (.agg #[.bool l, .int .i64 lv, .bool false, .slice a1 n1 c1, .slice a2 n2 c2]) (readS xs).2.1 ∧ Below w.heap.size w w'
theorem HV0 (w : World) : HV w (.agg #[.bool false, .int .i64 0, .bool false, .slice none 0 0, .slice none 0 0]) hd0 :=
  ⟨none, 0, 0, none, 0, 0, rfl, RS_nil _ _, RS_nil _ _⟩
theorem readS_err {p : List UInt8} {e : Int} (h : readP p = errR e) (he : e ≠ 0) : readS p = errR e := by
  unfold readS; rw [h]; exact if_pos he
section rr
variable {w : World} {a : Option Addr} {n c : Nat}
theorem ReadSPost_err {w w' : World} {xs : List UInt8} {e : Int} (h : readS xs = errR e) (hb : Below w.heap.size w w') :
    ReadSPost w xs (.returned (.tuple #[.agg #[.bool false, .int .i64 0, .bool false, .slice none 0 0, .slice none 0 0], .int .i64 0, .int .i64 0, .int .i64 e])) w' := by
  refine ⟨false, 0, none, 0, 0, none, 0, 0, by rw [h]; rfl, by rw [h]; exact HV0 w', hb⟩
theorem rr_nil (hx : BS w a 0 c []) : Calls Tryd.prog 39 #[.slice a 0 c] w (ReadSPost w []) := by
  have Hp := Lib.hid (readS_err (p := []) (e := 2) rfl (by decide))
  go_enter Tryd.func39, Tryd.ntmps39
  go_wp2_with fail
  refine bodyPost_ret (v := .tuple #[.agg #[.bool false, .int .i64 0, .bool false, .slice none 0 0, .slice none 0 0], .int .i64 0, .int .i64 0, .int .i64 2]) (by simp [results, Tryd.results39, go_sem]) rfl (ReadSPost_err Hp.out ?_)
  go_grown
theorem rr_form (b : UInt8) (bs : List UInt8) (hx : BS w a n c (b :: bs)) (h6 : b.toNat / 64 % 2 = 0) : Calls Tryd.prog 39 #[.slice a n c] w (ReadSPost w (b :: bs)) := by
  have hl := hx.len
  have h0 : ((n : Int) == 0) = false := by simp at hl ⊢; omega
  have hn1 : 1 ≤ n := by simp at hl; omega
  have hb8 := u8_lt b
  have hq : (b.toNat : Int) / 64 % 2 = 0 := by omega
  have Hp := Lib.hid (readS_err (p := b :: bs) (e := 4) (by simp [readP, h6]) (by decide))
  have hx1 := (hx.alloc hobj).alloc hobj
  clear h6 hl
  go_enter Tryd.func39, Tryd.ntmps39
  go_wp2_with (refine LB_index tB hx1 b _ _ rfl rfl _ _ rfl rfl (by omega) (by omega) rfl ?_; intro q hq)
  refine bodyPost_ret (v := .tuple #[.agg #[.bool false, .int .i64 0, .bool false, .slice none 0 0, .slice none 0 0], .int .i64 0, .int .i64 0, .int .i64 4]) (by simp [results, Tryd.results39, go_sem]) rfl (ReadSPost_err Hp.out ?_)
  go_grown
theorem rr_short2 (b : UInt8) (bs : List UInt8) (hx : BS w a n c (b :: bs)) (h6 : b.toNat / 64 % 2 ≠ 0) (h7 : b.toNat < 128) (hs : n < 9) : Calls Tryd.prog 39 #[.slice a n c] w (ReadSPost w (b :: bs)) := by
  have hl := hx.len
  have h0 : ((n : Int) == 0) = false := by simp at hl ⊢; omega
  have hn1 : 1 ≤ n := by simp at hl; omega
  have hb8 := u8_lt b
  have hq : (b.toNat : Int) / 64 % 2 = 1 := by omega
  have h7' : (b.toNat : Int) < 128 := by omega
  have Hp := Lib.hid (readS_err (p := b :: bs) (e := 2) (by rw [readP, if_neg h6, if_pos h7, if_pos (by omega)]) (by decide))
  have hx1 := (hx.alloc hobj).alloc hobj
  clear h6 hl h7
  go_enter Tryd.func39, Tryd.ntmps39
  go_wp2_with (refine LB_index tB hx1 b _ _ rfl rfl _ _ rfl rfl (by omega) (by omega) rfl ?_; intro q hq)
  refine bodyPost_ret (v := .tuple #[.agg #[.bool false, .int .i64 0, .bool false, .slice none 0 0, .slice none 0 0], .int .i64 0, .int .i64 0, .int .i64 2]) (by simp [results, Tryd.results39, go_sem]) rfl (ReadSPost_err Hp.out ?_)
  go_grown
theorem rr_short4 (b : UInt8) (bs : List UInt8) (hx : BS w a n c (b :: bs)) (h6 : b.toNat / 64 % 2 ≠ 0) (h7 : b.toNat < 128) (hs : ¬ n < 9) (hs2 : n < 29) : Calls Tryd.prog 39 #[.slice a n c] w (ReadSPost w (b :: bs)) := by
  have hl := hx.len
  have h0 : ((n : Int) == 0) = false := by simp at hl ⊢; omega
  have hn1 : 1 ≤ n := by simp at hl; omega
  have hb8 := u8_lt b
  have hq : (b.toNat : Int) / 64 % 2 = 1 := by omega
  have h7' : (b.toNat : Int) < 128 := by omega
  have Hp := Lib.hid (show readS (b :: bs) = errR 4 by
    have h : readP (b :: bs) = (0, ⟨false, 2, ((b :: bs).drop 1).take 8, []⟩, 9, n) := by rw [readP, if_neg h6, if_pos h7, if_neg (by omega), hl]
    unfold readS
    rw [h, if_neg (by simp), if_pos (by dsimp only; omega)])
  have hx1 := (hx.alloc hobj).alloc hobj
  clear h6 hl h7
  go_enter Tryd.func39, Tryd.ntmps39
  go_wp2_with (refine LB_index tB hx1 b _ _ rfl rfl _ _ rfl rfl (by omega) (by omega) rfl ?_; intro q hq)
  refine bodyPost_ret (v := .tuple #[.agg #[.bool false, .int .i64 0, .bool false, .slice none 0 0, .slice none 0 0], .int .i64 0, .int .i64 0, .int .i64 4]) (by simp [results, Tryd.results39, go_sem]) rfl (ReadSPost_err Hp.out ?_)
  go_grown
theorem rr_kind (b : UInt8) (bs : List UInt8) (hx : BS w a n c (b :: bs)) (h6 : b.toNat / 64 % 2 ≠ 0) (h7 : ¬ b.toNat < 128) (ht0 : b.toNat / 16 % 4 ≠ 0) (ht2 : b.toNat / 16 % 4 ≠ 2) : Calls Tryd.prog 39 #[.slice a n c] w (ReadSPost w (b :: bs)) := by
  have hl := hx.len
  have h0 : ((n : Int) == 0) = false := by simp at hl ⊢; omega
  have hn1 : 1 ≤ n := by simp at hl; omega
  have hb8 := u8_lt b
  have hq : (b.toNat : Int) / 64 % 2 = 1 := by omega
  have h7' : ¬ (b.toNat : Int) < 128 := by omega
  have Hp := Lib.hid (readS_err (p := b :: bs) (e := 4) (by rw [readP, if_neg h6, if_neg h7, if_neg ht0, if_neg ht2]) (by decide))
  have hx1 := (hx.alloc hobj).alloc hobj
  have t0 : ((b.toNat : Int) / 16 % 4 == 0) = false := by simp; omega
  have t2 : ((b.toNat : Int) / 16 % 4 == 2) = false := by simp; omega
  clear h6 hl h7 ht0 ht2
  go_enter Tryd.func39, Tryd.ntmps39
  go_wp2_with (refine LB_index tB hx1 b _ _ rfl rfl _ _ rfl rfl (by omega) (by omega) rfl ?_; intro q hq)
  refine bodyPost_ret (v := .tuple #[.agg #[.bool false, .int .i64 0, .bool false, .slice none 0 0, .slice none 0 0], .int .i64 0, .int .i64 0, .int .i64 4]) (by simp [results, Tryd.results39, go_sem]) rfl (ReadSPost_err Hp.out ?_)
  go_grown
theorem rr_app (b : UInt8) (bs : List UInt8) (hx : BS w a n c (b :: bs)) (hn : n ≤ 140737488355328) (h6 : b.toNat / 64 % 2 ≠ 0) (h7 : b.toNat < 128) (hs2 : ¬ n < 29) : Calls Tryd.prog 39 #[.slice a n c] w (ReadSPost w (b :: bs)) := by
  have hl := hx.len
  have h0 : ((n : Int) == 0) = false := by simp at hl ⊢; omega
  have hn1 : 1 ≤ n := by simp at hl; omega
  have hb8 := u8_lt b
  have hq : (b.toNat : Int) / 64 % 2 = 1 := by omega
  have h7' : (b.toNat : Int) < 128 := by omega
  have Hp := Lib.hid (show readS (b :: bs) = (0, ⟨false, 2, ((b :: bs).drop 1).take 8, []⟩, 9, n) by
    have h : readP (b :: bs) = (0, ⟨false, 2, ((b :: bs).drop 1).take 8, []⟩, 9, n) := by rw [readP, if_neg h6, if_pos h7, if_neg (by omega), hl]
    unfold readS
    rw [h, if_neg (by simp), if_neg (by dsimp only; omega)])
  have hx1 := (hx.alloc hobj).alloc hobj
  have hH : HB ((w.alloc hobj).alloc hobj) w.heap.size false 0 false (.slice none 0 0) (.slice none 0 0) := by
    unfold HB
    rw [Below.heap_alloc (w.alloc hobj) hobj w.heap.size (by simp)]
    exact heap_alloc_new w _
  have hb := ((below_alloc w hobj).alloc (by simp) hobj)
  clear h6 hl h7
  go_enter Tryd.func39, Tryd.ntmps39
  go_wp2_with (first | (refine LB_index tB hx1 b _ _ rfl rfl _ _ rfl rfl (by omega) (by omega) rfl ?_; intro q hq) | (refine LB_slice_lh tB hx1 1 9 _ _ _ rfl rfl _ _ _ _ rfl rfl rfl rfl rfl (by decide) (by omega) ?_; intro a1 hx2) | (go_at_call 18; refine (copy_any _ hx2 (by omega)).mono ?_; rintro e w1 ⟨a2, c2, rfl, g1, g2⟩; have z := (hH.grown (grown_of_below (row := none) g2) (by simp)).cells; have z2 := (hH.grown (grown_of_below (row := none) g2) (by simp)).fr))
  refine bodyPost_ret (v := .tuple #[.agg #[.bool false, .int .i64 2, .bool false, .slice a2 8 c2, .slice none 0 0], .int .i64 9, .int .i64 n, .int .i64 0]) (by simp [results, Tryd.results39, go_sem, z]) rfl ?_
  have e2 : ∀ x, a2 = some x → x.block ≠ w.heap.size := fun x hx => by have := (g1.base_le hx).1; simp at this; omega
  refine ⟨false, 2, a2, 8, c2, none, 0, 0, by rw [Hp.out]; rfl, ?_, ?_⟩
  · rw [Hp.out]
    exact ⟨a2, 8, c2, none, 0, 0, rfl, rs5 g1.rs _ e2 _ _ _ _ _, RS_nil _ _⟩
  · have hB : Below w.heap.size w w1 := hb.trans (g2.mono (by simp; omega))
    exact ((((hB.setCell (by simp) _).setCell (by simp) _).setCell (by simp) _).setCell (by simp) _).setCell (by simp) _
end rr
end Go.Proofs.YtlncnjcbgfeaoaaDoor

/- the reference's Same and Few of heads. -/
set_option maxRecDepth 100000
set_option linter.unusedVariables false
namespace Go.Proofs.YtlncnjcbgfeaoaaDoor
open Go.RowKit
/-- Same: all alike -/
theorem hsame_any (w : World) (l1 : Bool) (v1 : Int) (p1 : Bool) (l2 : Bool) (v2 : Int) (p2 : Bool) {a b d e : Option Addr} {n c m k n2 c2 m2 k2 : Nat} {t1 f1 t2 f2 : List UInt8}
    (h1 : BS w a n c t1) (h2 : BS w b m k f1) (h3 : BS w d n2 c2 t2) (h4 : BS w e m2 k2 f2)
    (hl : l1 = l2) (hv : v1 = v2) (hp : p1 = p2) (ht : t1 = t2) (hf : f1 = f2) :
    Calls Tryd.prog 21 #[.agg #[.bool l1, .int .i64 v1, .bool p1, .slice a n c, .slice b m k], .agg #[.bool l2, .int .i64 v2, .bool p2, .slice d n2 c2, .slice e m2 k2]] w
      fun e' w' => e' = .returned (.bool true) ∧ Below w.heap.size w w' := by
  subst hl hv hp ht hf
  obtain ⟨o1, ho1⟩ : ∃ o1 : Obj, o1 = .cells #[.bool l1, .int .i64 v1, .bool p1, .slice a n c, .slice b m k] 43 := ⟨_, rfl⟩
  obtain ⟨o2, ho2⟩ : ∃ o2 : Obj, o2 = .cells #[.bool l1, .int .i64 v1, .bool p1, .slice d n2 c2, .slice e m2 k2] 43 := ⟨_, rfl⟩
  have h1' : BS ((w.alloc o1).alloc o2) a n c t1 := (h1.alloc _).alloc _
  have h2' : BS ((w.alloc o1).alloc o2) b m k f1 := (h2.alloc _).alloc _
  have h3' : BS ((w.alloc o1).alloc o2) d n2 c2 t1 := (h3.alloc _).alloc _
  have h4' : BS ((w.alloc o1).alloc o2) e m2 k2 f1 := (h4.alloc _).alloc _
  have hb := ((below_alloc w o1).alloc (by simp) o2)
  rw [ho1, ho2] at h1' h2' h3' h4' hb
  clear h1 h2 h3 h4 ho1 ho2
  go_enter Tryd.func21, Tryd.ntmps21
  go_wp2_with (go_at_call 15; first | ((with_reducible refine (same_any _ h1' h3').mono ?_); rintro e' w' ⟨rfl, rfl⟩) | ((with_reducible refine (same_any _ h2' h4').mono ?_); rintro e' w' ⟨rfl, rfl⟩))
  go_ret
  exact ⟨ret_true (by simp), hb⟩
end Go.Proofs.YtlncnjcbgfeaoaaDoor

/- the reference's Few: a head of its own, cut. -/
set_option maxRecDepth 100000
set_option linter.unusedVariables false
namespace Go.Proofs.YtlncnjcbgfeaoaaDoor
open Go.RowKit
theorem HB.drew {w : World} {b : Nat} {l : Bool} {lv : Int} {ph : Bool} {t f : Value} (h : HB w b l lv ph t f) : HB w.drew b l lv ph t f := h
set_option maxHeartbeats 1000000 in
theorem few_any (w : World) (l : Bool) (v : Int) (p : Bool) {a b : Option Addr} {n c m k : Nat} {t f : List Value}
    (h1 : RS w 1 a n c t) (h2 : RS w 1 b m k f) :
    Calls Tryd.prog 23 #[.agg #[.bool l, .int .i64 v, .bool p, .slice a n c, .slice b m k]] w
      fun e w' => ∃ a1 c1 a2 c2, e = .returned (.agg #[.bool l, .int .i64 v, .bool p, .slice a1 (min n 30) c1, .slice a2 (min m 30) c2]) ∧
        OW w' w.heap.size 5 1 a1 (min n 30) c1 (t.take (min n 30)) ∧ OW w' w.heap.size 5 1 a2 (min m 30) c2 (f.take (min m 30)) ∧ Below w.heap.size w w' := by
  obtain ⟨o1, ho1⟩ : ∃ o1 : Obj, o1 = .cells #[.bool l, .int .i64 v, .bool p, .slice a n c, .slice b m k] 43 := ⟨_, rfl⟩
  have hx1 : RS ((w.alloc o1).alloc hobj) 1 a n c t := (h1.alloc _).alloc _
  have hx2 : RS ((w.alloc o1).alloc hobj) 1 b m k f := (h2.alloc _).alloc _
  have hb := ((below_alloc w o1).alloc (by simp) hobj)
  have q0 : HB ((w.alloc o1).alloc hobj) w.heap.size l v p (.slice a n c) (.slice b m k) := by
    unfold HB
    rw [Below.heap_alloc (w.alloc o1) hobj w.heap.size (by simp), ho1]
    exact heap_alloc_new w _
  have q1 := q0.cells
  have q2 : HB ((w.alloc o1).alloc hobj) (w.heap.size + 1) false 0 false (.slice none 0 0) (.slice none 0 0) := by
    have := HB_new (w.alloc o1); simpa using this
  rw [ho1] at hx1 hx2 hb q0 q1 q2
  clear ho1 h1 h2
  go_enter Tryd.func23, Tryd.ntmps23
  go_wp2_with fail
  go_region_held3 (fun w' => w'.cell? ⟨w.heap.size, 0, none⟩ = some (.bool l) ∧ w'.cell? ⟨w.heap.size, 1, none⟩ = some (.int .i64 v) ∧ w'.cell? ⟨w.heap.size, 2, none⟩ = some (.bool p) ∧ w'.cell? ⟨w.heap.size, 3, none⟩ = some (.slice a n c) ∧ w'.cell? ⟨w.heap.size, 4, none⟩ = some (.slice b m k))
    (first | (with_reducible exact HB.cells Q2) | (with_reducible exact HB.cells Q1) | go_keep)
    (first | (go_at_call 9; (with_reducible refine (cut_any _ X2 30 (by omega) (by omega)).mono ?_); rintro e w2 ⟨a2, c2, rfl, g3, g4⟩; have Q2 : HB w2 w.heap.size l v p (.slice a n c) (.slice b m k) := HB.grown Q1 (grown_of_below (row := none) g4) (by simp); have R2 := HB.grown R1 (grown_of_below (row := none) g4) (by simp); have z1 := R2.cells; have z2 := R2.fr) | (go_at_call 9; (with_reducible refine (cut_any _ X1 30 (by omega) (by omega)).mono ?_); rintro e w2 ⟨a1, c1, rfl, g1, g2⟩; have Q2 : HB w2 w.heap.size l v p (.slice a n c) (.slice b m k) := HB.grown Q1 (grown_of_below (row := none) g2) (by simp); have R2 := HB.grown R1 (grown_of_below (row := none) g2) (by simp); have z1 := R2.cells; have z2 := R2.fr) | (go_at_call 9; (with_reducible refine (cut_any _ hx1.drew 30 (by omega) (by omega)).mono ?_); rintro e w1 ⟨a1, c1, rfl, g1, g2⟩; have Q1 : HB w1 w.heap.size l v p (.slice a n c) (.slice b m k) := HB.grown q0.drew (grown_of_below (row := none) g2) (by simp); have R1 := HB.grown q2.drew (grown_of_below (row := none) g2) (by simp); have X2 : RS w1 1 b m k f := RS.below hx2.drew g2 (Nat.le_refl _)) | (go_at_call 9; (with_reducible refine (cut_any _ hx2.drew 30 (by omega) (by omega)).mono ?_); rintro e w1 ⟨a2, c2, rfl, g3, g4⟩; have Q1 : HB w1 w.heap.size l v p (.slice a n c) (.slice b m k) := HB.grown q0.drew (grown_of_below (row := none) g4) (by simp); have R1 := HB.grown q2.drew (grown_of_below (row := none) g4) (by simp); have X1 : RS w1 1 a n c t := RS.below hx1.drew g4 (Nat.le_refl _)))
  go_wp2_with fail
  refine bodyPost_ret (v := .agg #[.bool l, .int .i64 v, .bool p, .slice a1 (min n 30) c1, .slice a2 (min m 30) c2]) (by simp [results, Tryd.results23, go_sem, z1]) rfl ?_
  have hz1 := g2.size
  have hz2 := g4.size
  simp at hz1
  have e1 : ∀ x, a1 = some x → x.block ≠ w.heap.size + 1 := fun x hx => by have := (g1.base_le hx).1; simp at this; omega
  have e2 : ∀ x, a2 = some x → x.block ≠ w.heap.size + 1 := fun x hx => by have := (g3.base_le hx).1; omega
  have o5 : ∀ {a' : Option Addr} {n' c' base : Nat} {vs : List Value}, OW w2 base 5 1 a' n' c' vs → (∀ x, a' = some x → x.block ≠ w.heap.size + 1) → w.heap.size ≤ base → ∀ v0 v1 v2 v3 v4,
      OW (((((w2.setCell ⟨w.heap.size + 1, 0, none⟩ v0).setCell ⟨w.heap.size + 1, 1, none⟩ v1).setCell ⟨w.heap.size + 1, 2, none⟩ v2).setCell ⟨w.heap.size + 1, 3, none⟩ v3).setCell ⟨w.heap.size + 1, 4, none⟩ v4) w.heap.size 5 1 a' n' c' vs :=
    fun h hn hb v0 v1 v2 v3 v4 => (OW.setOther (OW.setOther (OW.setOther (OW.setOther (OW.setOther h hn _) hn _) hn _) hn _) hn _).mono hb
  refine ⟨a1, c1, a2, c2, rfl, ?_, ?_, ?_⟩
  · exact o5 (g1.below g4 (Nat.le_refl _)) e1 (by simp; omega) _ _ _ _ _
  · exact o5 g3 e2 (by omega) _ _ _ _ _
  · have hB : Below w.heap.size w w2 := (hb.trans ((below_undrew g2).mono (by simp; omega))).trans (g4.mono (by omega))
    exact ((((hB.setCell (by simp) _).setCell (by simp) _).setCell (by simp) _).setCell (by simp) _).setCell (by simp) _
end Go.Proofs.YtlncnjcbgfeaoaaDoor
