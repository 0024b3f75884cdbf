/- word's pen: it writes numbers behind one another. -/
import Derived.Test.YtokgpnkooigamaaDoorTE
import Derived.Test.YtokgpnkooigamaaDoorM7
set_option maxRecDepth 100000
set_option linter.unusedVariables false
namespace Go.Proofs.YtokgpnkooigamaaDoor
open Go.RowKit
/-- the pen: a row of one cell that holds a slice of the call's own -/
structure PN (base : Nat) (w : World) (g n : Nat) (a : Option Addr) (c : Nat) : Prop where
  hg : base ≤ g
  row : CR w g 89 [.slice a n c]
  ow : ∃ xs : List UInt8, OW w base 5 1 a n c (xs.map B)
theorem OW.neCR {w : World} {base : Nat} {e : TypeId} {z : Nat} {a : Option Addr} {n c : Nat} {vs : List Value} (h : OW w base e z a n c vs) {g : Nat} {t : TypeId} {l : List Value} (hr : CR w g t l) (hne : e ≠ t) : ∀ ad, a = some ad → ad.block ≠ g := by
  intro ad ha hk
  rcases h.shape with ⟨rfl, _⟩ | ⟨g', cur, rfl, _, _, h3, _⟩
  · cases ha
  · cases ha
    unfold CR at hr
    simp only at hk
    rw [hk, hr] at h3
    injection h3 with h3
    injection h3 with h4 h5
    exact hne h5.symm
theorem PN.ap {B : Nat} {w : World} {g n : Nat} {a : Option Addr} {c : Nat} (h : PN B w g n a c) : ∀ ad, a = some ad → ad.block ≠ g := by
  obtain ⟨vs, ho⟩ := h.ow
  exact ho.neCR h.row (by decide)
theorem PN.bel {B : Nat} {w w' : World} {g n : Nat} {a : Option Addr} {c : Nat} (h : PN B w g n a c) (hb : Below w.heap.size w w') : PN B w' g n a c :=
  ⟨h.hg, h.row.bel hb, h.ow.imp fun vs ho => ho.below hb (Nat.le_refl _)⟩
/-- the slice that is read lies neither in the pen nor in its row -/
def APT (g : Nat) (a l : Option Addr) : Prop := ∀ ad, l = some ad → ad.block ≠ g ∧ ∀ ag, a = some ag → ad.block ≠ ag.block
theorem RS.lt' {w : World} {a : Option Addr} {n c : Nat} {vs : List Value} (h : RS w 1 a n c vs) (hn : 0 < n) {ad : Addr} (ha : a = some ad) : ad.block < w.heap.size := h.block_lt ha hn (by omega)
/-- the store of the grown row -/
theorem PN.store {B : Nat} {w w2 : World} {g n n2 : Nat} {a a2 : Option Addr} {c c2 : Nat} {vs : List Value} (h : PN B w g n a c) (hrow : CR w2 g 89 [.slice a n c]) (ho : OW w2 B 5 1 a2 n2 c2 vs) (hv : ∃ xs : List UInt8, vs = xs.map Go.Proofs.YtokgpnkooigamaaDoor.B) :
    PN B (w2.setCell ⟨g, 0, none⟩ (.slice a2 n2 c2)) g n2 a2 c2 :=
  ⟨h.hg, hrow.set 0 _, by
    obtain ⟨xs, rfl⟩ := hv
    exact ⟨xs, ho.setOther (ad := ⟨g, 0, none⟩) (ho.neCR hrow (by decide)) _⟩⟩
/-- all that is old stays, but the pen and its row -/
def KP (w : World) (g : Nat) (a : Option Addr) (w' : World) : Prop := w.heap.size ≤ w'.heap.size ∧ ∀ b, b < w.heap.size → b ≠ g → (∀ ag, a = some ag → b ≠ ag.block) → w'.heap[b]? = w.heap[b]?
def RO (w : World) (a a' : Option Addr) : Prop := ∀ ad, a' = some ad → a = some ad ∨ w.heap.size ≤ ad.block
theorem KP.refl (w : World) (g : Nat) (a : Option Addr) : KP w g a w := ⟨Nat.le_refl _, fun _ _ _ _ => rfl⟩
theorem KP.bel {w w1 w2 : World} {g : Nat} {a : Option Addr} (h : KP w g a w1) (hb : Below w1.heap.size w1 w2) : KP w g a w2 :=
  ⟨Nat.le_trans h.1 hb.size, fun b hl h1 h2 => (hb.block b (Nat.lt_of_lt_of_le hl h.1)).trans (h.2 b hl h1 h2)⟩
theorem KP.grown {w w1 w2 : World} {g : Nat} {a a' : Option Addr} (h : KP w g a w1) (hr : RO w a a') (hg : w1.grownBy w2 (a'.map (·.block))) : KP w g a w2 :=
  ⟨Nat.le_trans h.1 hg.size, fun b hl h1 h2 => (hg.block b (Nat.lt_of_lt_of_le hl h.1) (fun he => by
    obtain ⟨ad, h5, h6⟩ := Option.map_eq_some_iff.1 he.symm
    rcases hr ad h5 with h7 | h7
    · exact h2 ad h7 h6.symm
    · omega)).trans (h.2 b hl h1 h2)⟩
theorem KP.set {w w1 : World} {g : Nat} {a : Option Addr} (h : KP w g a w1) (v : Value) : KP w g a (w1.setCell ⟨g, 0, none⟩ v) :=
  ⟨by have := h.1; simpa [World.setCell] using this, fun b hl h1 h2 => (Below.heap_setCell _ _ _ _ (fun he => h1 he)).trans (h.2 b hl h1 h2)⟩
theorem RO.next {w w1 : World} {g : Nat} {a a' a2 : Option Addr} (hk : KP w g a w1) (h : RO w a a') (h2 : ∀ ad, a2 = some ad → a' = some ad ∨ w1.heap.size ≤ ad.block) : RO w a a2 := fun ad had => by
  rcases h2 ad had with h3 | h3
  · exact h ad h3
  · exact .inr (Nat.le_trans hk.1 h3)
set_option maxHeartbeats 4000000 in
theorem pnum_any (w : World) {B g n c : Nat} {a l : Option Addr} {ln lc : Nat} {xs : List Nat} (hp : PN B w g n a c) (hl : RS w 1 l ln lc (US xs)) (hap : 0 < ln → APT g a l) (hxs : ∀ x ∈ xs, x < 4611686018427387904) (hn : n + 8 * ln ≤ 1099511627776) (hB : B ≤ w.heap.size) :
    Calls Tryd.prog 58 #[.pointer (some ⟨g, 0, none⟩), .slice l ln lc] w fun e w' => e = .returned (.tuple #[]) ∧ (∃ n' a' c', PN B w' g n' a' c' ∧ n ≤ n' ∧ n' ≤ n + 8 * ln) ∧ Below B w w' ∧ KP w g a w' := by
  have hxl : xs.length = ln := by have := hl.len; simpa [US] using this
  have HS := Lib.hid (show ∃ (i n' : Nat) (a' : Option Addr) (c' : Nat), i ≤ ln ∧ Value.int .i64 (0 : Int) = .int .i64 (i : Int) ∧ PN B w g n' a' c' ∧ RS w 1 l ln lc (US xs) ∧ (0 < ln → APT g a' l) ∧ n ≤ n' ∧ n' ≤ n + 8 * i ∧ Below B w w ∧ KP w g a w ∧ RO w a a' from ⟨0, n, a, c, by omega, rfl, hp, hl, hap, by omega, by omega, Below.refl _ _, KP.refl _ _ _, fun _ h => .inl h⟩)
  have Hxl := Lib.hid hxl
  have Hxs := Lib.hid hxs
  have hln : ln ≤ 1099511627776 := by omega
  clear hp hl hap hxs hxl
  go_enter Tryd.func58, Tryd.ntmps58
  go_wp2
  go_loopw [10] (fun s10 wr => ∃ (i n' : Nat) (a' : Option Addr) (c' : Nat), i ≤ ln ∧ s10 = .int .i64 (i : Int) ∧ PN B wr g n' a' c' ∧ RS wr 1 l ln lc (US xs) ∧ (0 < ln → APT g a' l) ∧ n ≤ n' ∧ n' ≤ n + 8 * i ∧ Below B w wr ∧ KP w g a wr ∧ RO w a a') (fun s10 _ => match s10 with | .int _ x => (ln - x).toNat | _ => 0)
  case atStart => exact HS.out
  case round =>
    clear HS
    obtain ⟨i, n', a', c', hi, rfl, hP, hR, hA, h1, h2, hb, hkp, hro⟩ := hrel
    have HKP := Lib.hid hkp
    have HRO := Lib.hid hro
    clear hkp hro
    have HP := Lib.hid hP
    have HR := Lib.hid hR
    have HA := Lib.hid hA
    have HB := Lib.hid hb
    clear hP hR hA hb
    by_cases hil : i = ln
    · subst hil
      go_wp2
      go_end0
      exact ⟨rfl, ⟨n', a', c', HP.out, h1, h2⟩, HB.out, HKP.out⟩
    · have hlt : i < ln := by omega
      clear hil
      obtain ⟨v, hv⟩ : ∃ v, xs[i]? = some v := ⟨_, List.getElem?_eq_getElem (by have := Hxl.out; omega)⟩
      have HV := Lib.hid hv
      have T := Lib.hid (vnumX_any wr v (Hxs.out v (List.mem_of_getElem? hv)))
      have hwr : IntKind.i64.wrap ((i : Int) + 1) = (i : Int) + 1 := IntWalk.i64_in _ (by omega)
      have hsz := vszX_bd v
      obtain ⟨m, hm⟩ : ∃ m, vszX v = m := ⟨_, rfl⟩
      rw [hm] at T hsz
      obtain ⟨vs, ho⟩ := HP.out.ow
      have HO := Lib.hid ho
      have hBw : B ≤ wr.heap.size := Nat.le_trans hB HB.out.size
      clear hv hm ho
      go_wp2_with (first
        | (refine L_index t64 HR.out _ _ rfl rfl .i64 _ rfl rfl (by omega) (by omega) _ (by rw [Int.toNat_natCast]; exact US_get HV.out) ?_; intro q hq)
        | (go_at_call 48; refine T.out.mono ?_; rintro y w1 ⟨a1, c1, rfl, o1, B1⟩; have Hx1 := Lib.hid o1.rs; have Hrow1 := Lib.hid (HP.out.row.bel B1); have hc1 : w1.cell? ⟨g, 0, none⟩ = some (.slice a' n' c') := Hrow1.out.at_ 0; have HO1 := Lib.hid (HO.out.below B1 (Nat.le_refl _)); have HR1 := Lib.hid (HR.out.below B1 (Nat.le_refl _)); have HB1 := Lib.hid (below_then HB.out B1 hBw); have hs1 : wr.heap.size ≤ w1.heap.size := B1.size; have hB1 : B ≤ w1.heap.size := Nat.le_trans hBw hs1; have HKP1 := Lib.hid (HKP.out.bel B1); clear o1 B1)
        | (at_builtin; refine L_append_at tB HO1.out Hx1.out _ _ rfl rfl rfl rfl (by omega) (by unfold maxLen; omega) hB1 ?_; intro a2 c2 w2 o2 g2 d2; have Hrow2 := Lib.hid (show CR w2 g 89 [.slice a' n' c'] from Hrow1.out.keep (g2.block _ Hrow1.out.lt (fun he => by obtain ⟨ad, h5, h6⟩ := Option.map_eq_some_iff.1 he.symm; exact HP.out.ap ad h5 h6))); have hc2 : w2.cell? ⟨g, 0, none⟩ = some (.slice a' n' c') := Hrow2.out.at_ 0; have hf2 := Hrow2.out.fr 0; have HO2 := Lib.hid o2; have HG2 := Lib.hid g2; have HD2 := Lib.hid d2; clear o2 g2 d2))
      have hP2 := HP.out.store Hrow2.out HO2.out ⟨vs ++ numX v, by rw [List.map_append]⟩
      have hlen : 0 < ln := by omega
      have hA2 := HA.out hlen
      have hR2 : RS (w2.setCell ⟨g, 0, none⟩ (.slice a2 (n' + m) c2)) 1 l ln lc (US xs) :=
        (HR1.out.grown HG2.out (fun ad h he => by obtain ⟨ag, h5, h6⟩ := Option.map_eq_some_iff.1 he.symm; exact (hA2 ad h).2 ag h5 h6.symm)).setOther (ad := ⟨g, 0, none⟩) (fun ad h => (hA2 ad h).1) _
      have hlt1 : ∀ ad, l = some ad → ad.block < w1.heap.size := fun ad h => HR1.out.lt' hlen h
      have hA3 : APT g a2 l := fun ad h => ⟨(hA2 ad h).1, fun ag hag => by
        rcases HD2.out ag hag with h7 | h7
        · exact (hA2 ad h).2 ag h7
        · have := hlt1 ad h; omega⟩
      have hB3 : Below B w (w2.setCell ⟨g, 0, none⟩ (.slice a2 (n' + m) c2)) := (below_own HB1.out HO1.out HG2.out (Nat.le_refl _) hB1).setCell HP.out.hg _
      exact ⟨⟨i + 1, n' + m, a2, c2, by omega, by simp, hP2, hR2, fun _ => hA3, by omega, by omega, hB3, (HKP1.out.grown HRO.out HG2.out).set _, RO.next HKP1.out HRO.out HD2.out⟩, by simp; omega⟩
end Go.Proofs.YtokgpnkooigamaaDoor
