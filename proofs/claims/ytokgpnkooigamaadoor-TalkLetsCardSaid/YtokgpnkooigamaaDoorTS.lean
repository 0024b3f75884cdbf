/- talk: alias, named, over, Up, ready, Code, Out. -/
import Derived.Test.YtokgpnkooigamaaDoorTR
set_option maxRecDepth 100000
set_option linter.unusedVariables false
namespace Go.Proofs.YtokgpnkooigamaaDoor
open Go.RowKit
theorem idxB_cases (p : AG → Bool) : ∀ (xs : List AG) (j : Nat), (idxB p xs j = -1 ∧ xs.any p = false) ∨ (∃ i x, xs[i]? = some x ∧ p x = true ∧ idxB p xs j = ((j + i : Nat) : Int) ∧ xs.any p = true)
  | [], j => .inl ⟨rfl, rfl⟩
  | x :: r, j => by
    rw [idxB, List.any_cons]
    by_cases h : p x = true
    · exact .inr ⟨0, x, rfl, h, by rw [if_pos h]; rfl, by rw [h]; rfl⟩
    · rw [if_neg h, show p x = false by simpa using h, Bool.false_or]
      rcases idxB_cases p r (j + 1) with ⟨h1, h2⟩ | ⟨i, y, h1, h2, h3, h4⟩
      · exact .inl ⟨h1, h2⟩
      · exact .inr ⟨i + 1, y, by simpa using h1, h2, by rw [h3]; congr 1; omega, h4⟩
/-- the granted Announce of a name -/
def namedS (xs : List AG) (nm : List UInt8) : Option Nat := if idxB (namedB nm) xs 0 < 0 then none else some (idxB (namedB nm) xs 0).toNat
section
variable {w : World} {base g o : Nat} {s : SA} {xs : List AG} {ls : List ML}
set_option maxHeartbeats 4000000 in
theorem containsA_any (h : AO w base s xs ls) (hn : s.n ≤ 1099511627776) (B n : Nat) (hc : w.cell? ⟨B, 0, none⟩ = some (.int .u64 (n : Int))) :
    Calls Tryd.prog 50 #[.slice s.a s.n s.c, .func (.func 51) #[] #[.pointer (some ⟨B, 0, none⟩)]] w fun e w' => e = .returned (.bool (xs.any (aliasB n))) ∧ Below w.heap.size w w' := by
  have hi := idxAl_any w h hn B n hc
  obtain ⟨R, hR⟩ : ∃ R, idxB (aliasB n) xs 0 = R := ⟨_, rfl⟩
  obtain ⟨Q, hQ⟩ : ∃ Q, xs.any (aliasB n) = Q := ⟨_, rfl⟩
  have hcs := idxB_cases (aliasB n) xs 0
  rw [hR, hQ] at hcs
  rw [hR] at hi
  rw [hQ]
  have HI := Lib.hid hi
  clear hi hR hQ h hc
  rcases hcs with ⟨rfl, rfl⟩ | ⟨i, x, _, _, h3, rfl⟩
  · go_enter Tryd.func50, Tryd.ntmps50
    go_wp2_with (go_at_call 42; refine HI.out.mono ?_; rintro y w2 ⟨rfl, B2⟩)
    go_ret
    exact ⟨rfl, B2⟩
  · obtain rfl : R = (i : Int) := by rw [h3]; congr 1; omega
    clear h3
    have hp : decide ((0 : Int) ≤ (i : Int)) = true := decide_eq_true (by omega)
    go_enter Tryd.func50, Tryd.ntmps50
    go_wp2_with (go_at_call 42; refine HI.out.mono ?_; rintro y w2 ⟨rfl, B2⟩)
    go_ret
    exact ⟨ret_bool (by simp), B2⟩
set_option maxHeartbeats 4000000 in
theorem alias_any (h : AO w base s xs ls) (hn : s.n ≤ 1099511627776) (n : Nat) (hc : w.cell? ⟨g, o, none⟩ = some (.slice s.a s.n s.c)) :
    Calls Tryd.prog 39 #[.pointer (some ⟨g, o, none⟩), .int .u64 (n : Int)] w fun e w' => e = .returned (.bool (xs.any (aliasB n))) ∧ Below w.heap.size w w' := by
  have hb := below_alloc w (.cells #[.int .u64 (n : Int)] 23)
  have hl : g < w.heap.size := World.block_lt_of_cell? w _ hc
  have hc1 := (hb.cell (p := ⟨g, o, none⟩) hl).trans hc
  have hcB : (w.alloc (.cells #[.int .u64 (n : Int)] 23)).cell? ⟨w.heap.size, 0, none⟩ = some (.int .u64 (n : Int)) := (CR.new w 23 [.int .u64 (n : Int)]).at_ 0
  have h1 := h.keep (KB.bel hb) (fun ad ha => hb.block _ (h.row.base_le ha).2)
  have hi := containsA_any h1 hn w.heap.size n hcB
  have HI := Lib.hid hi
  have HB := Lib.hid hb
  have hmf : ∀ (fn : Fn) (first cap : Array Value) (w : World), (Instr.makeFunc fn first cap).run Tryd.prog w = .ok (.func fn first cap) w := fun _ _ _ _ => rfl
  clear hb hl hc hcB h1 hi h
  go_enter Tryd.func39, Tryd.ntmps39
  go_wp2_with (go_at_call 50; refine HI.out.mono ?_; rintro y w2 ⟨rfl, B2⟩)
  go_ret
  exact ⟨rfl, btr HB.out B2⟩
set_option maxHeartbeats 4000000 in
theorem named_any (h : AO w base s xs ls) (hn : s.n ≤ 1099511627776) {s2 : SA} {nm : List UInt8} (hx : BS w s2.a s2.n s2.c nm) (hc : w.cell? ⟨g, o, none⟩ = some (.slice s.a s.n s.c)) (b : Nat) (hbk : ∀ i, namedS xs nm = some i → s.a = some ⟨b, 0, none⟩) :
    Calls Tryd.prog 35 #[.pointer (some ⟨g, o, none⟩), s2.v] w fun e w' => e = .returned (.pointer ((namedS xs nm).map fun i => ⟨b, i * 17, none⟩)) ∧ Below w.heap.size w w' := by
  have hb := below_alloc w (.cells #[s2.v] 27)
  have hl : g < w.heap.size := World.block_lt_of_cell? w _ hc
  have hc1 := (hb.cell (p := ⟨g, o, none⟩) hl).trans hc
  have hcB : (w.alloc (.cells #[s2.v] 27)).cell? ⟨w.heap.size, 0, none⟩ = some s2.v := (CR.new w 27 [s2.v]).at_ 0
  have h1 := h.keep (KB.bel hb) (fun ad ha => hb.block _ (h.row.base_le ha).2)
  have hi := idxNm_any _ h1 hn w.heap.size hcB (RS.below hx hb (Nat.le_refl _))
  unfold SA.v at hi hb hcB hc1 ⊢
  have HB := Lib.hid hb
  have HC := Lib.hid (fun (w2 : World) (b2 : Below (w.alloc (.cells #[.slice s2.a s2.n s2.c] 27)).heap.size (w.alloc (.cells #[.slice s2.a s2.n s2.c] 27)) w2) => (b2.cell (p := ⟨g, o, none⟩) (by simp; omega)).trans hc1)
  have hmf : ∀ (fn : Fn) (first cap : Array Value) (w : World), (Instr.makeFunc fn first cap).run Tryd.prog w = .ok (.func fn first cap) w := fun _ _ _ _ => rfl
  have hnn := h.n
  unfold namedS at hbk ⊢
  have hcs := idxB_cases (namedB nm) xs 0
  obtain ⟨R, hR⟩ : ∃ R, idxB (namedB nm) xs 0 = R := ⟨_, rfl⟩
  rw [hR] at hi hbk hcs ⊢
  have HI := Lib.hid hi
  clear hb hl hc hcB h1 hi h hx hR
  rcases hcs with ⟨rfl, _⟩ | ⟨i, x, h1, _, h3, _⟩
  · rw [if_pos (by omega)]
    clear hbk
    go_enter Tryd.func35, Tryd.ntmps35
    go_wp2_with (go_at_call 42; refine HI.out.mono ?_; rintro y w2 ⟨rfl, B2⟩)
    go_ret
    exact ⟨rfl, btr HB.out B2⟩
  · obtain rfl : R = (i : Int) := by rw [h3]; congr 1; omega
    rw [if_neg (by omega)] at hbk ⊢
    have hbk2 := hbk _ rfl
    have hlt : i < s.n := by have := (List.getElem?_eq_some_iff.1 h1).1; omega
    have hp : decide ((i : Int) < 0) = false := decide_eq_false (by omega)
    rw [Int.toNat_natCast]
    obtain ⟨sa, sn, sc⟩ := s
    simp only at hbk2
    subst hbk2
    simp only [Option.map_some] at *
    obtain ⟨J, hJ⟩ : ∃ J, i * 17 = J := ⟨_, rfl⟩
    rw [hJ]
    have HJ := Lib.hid hJ
    clear hbk h1 h3 hnn hJ
    go_enter Tryd.func35, Tryd.ntmps35
    go_wp2_with (first
      | (go_at_call 42; refine HI.out.mono ?_; rintro y w2 ⟨rfl, B2⟩; have hc2 := HC.out w2 B2)
      | ((with_reducible refine gate_ix ?_); refine L_indexZ tA _ _ rfl .i64 _ i rfl rfl rfl hlt HJ.out (by rfl) ?_))
    go_ret
    exact ⟨rfl, btr HB.out B2⟩
end
section
variable {w : World} {base g : Nat} {S : SS} {A : SL}
def upS (S : SS) : Bool := S.heard && S.code == 0
theorem up_any (h : SZ w base g S A) : Calls Tryd.prog 10 #[.pointer (some ⟨g, 0, none⟩)] w fun e w' => e = .returned (.bool (upS S)) ∧ w = w' := by
  have c6 : w.cell? ⟨g, 6, none⟩ = some (.bool S.heard) := h.row.at_ 6
  have c7 : w.cell? ⟨g, 7, none⟩ = some (.int .u64 (S.code : Int)) := h.row.at_ 7
  unfold upS
  obtain ⟨b, hb⟩ : ∃ b, S.heard = b := ⟨_, rfl⟩
  obtain ⟨c, hc⟩ : ∃ c, S.code = c := ⟨_, rfl⟩
  rw [hb] at c6 ⊢
  rw [hc] at c7 ⊢
  clear h hb hc
  cases b with
  | false =>
    go_enter Tryd.func10, Tryd.ntmps10
    go_wp2
    go_ret
    exact ⟨rfl, rfl⟩
  | true =>
    by_cases h0 : c = 0
    · subst h0
      go_enter Tryd.func10, Tryd.ntmps10
      go_wp2
      go_ret
      exact ⟨rfl, rfl⟩
    · have q : ((c : Int) == 0) = false := by simp; omega
      go_enter Tryd.func10, Tryd.ntmps10
      go_wp2
      go_ret
      exact ⟨ret_bool (by simp [h0]), rfl⟩
theorem ready_any (h : SZ w base g S A) : Calls Tryd.prog 40 #[.pointer (some ⟨g, 0, none⟩)] w fun e w' => e = .returned (.int .i64 (if upS S then 0 else 9)) ∧ w = w' := by
  have hu := up_any h
  obtain ⟨u, hu2⟩ : ∃ u, upS S = u := ⟨_, rfl⟩
  rw [hu2] at hu ⊢
  have HU := Lib.hid hu
  clear h hu hu2
  cases u with
  | false =>
    go_enter Tryd.func40, Tryd.ntmps40
    go_wp2_with (go_at_call 10; refine HU.out.mono ?_; rintro y w2 ⟨rfl, rfl⟩)
    go_ret
    exact ⟨rfl, rfl⟩
  | true =>
    go_enter Tryd.func40, Tryd.ntmps40
    go_wp2_with (go_at_call 10; refine HU.out.mono ?_; rintro y w2 ⟨rfl, rfl⟩)
    go_ret
    exact ⟨rfl, rfl⟩
theorem code_any (h : SZ w base g S A) : Calls Tryd.prog 14 #[.pointer (some ⟨g, 0, none⟩)] w fun e w' => e = .returned (.int .u64 (S.code : Int)) ∧ w = w' := by
  have c7 : w.cell? ⟨g, 7, none⟩ = some (.int .u64 (S.code : Int)) := h.row.at_ 7
  clear h
  go_enter Tryd.func14, Tryd.ntmps14
  go_wp2
  go_ret
  exact ⟨rfl, rfl⟩
theorem out_any (h : SZ w base g S A) : Calls Tryd.prog 12 #[.pointer (some ⟨g, 0, none⟩)] w fun e w' => e = .returned A.ou.v ∧ SZ w' base g { S with out := [] } { A with ou := SA0, lu := [] } ∧ SK w g A w' { A with ou := SA0, lu := [] } ∧ QO w' base A.ou S.out A.lu := by
  have c5 : w.cell? ⟨g, 5, none⟩ = some (.slice A.ou.a A.ou.n A.ou.c) := h.row.at_ 5
  have f5 := h.row.fr 5
  have HC := Lib.hid h.clear
  unfold SA.v
  clear h
  go_enter Tryd.func12, Tryd.ntmps12
  go_wp2
  go_ret
  exact ⟨rfl, HC.out⟩
end
end Go.Proofs.YtokgpnkooigamaaDoor
