/- law12.PipeOpens: plain. -/
import Derived.Test.YteekafpkbdbadaaQI
set_option maxRecDepth 100000
set_option linter.unusedVariables false
namespace Go.Proofs.Yteekafpkbdbadaa.Pi
open Go.RowKit
def lst (sv u : Bool) : Nat := (if sv then 1 else 0) + (if u then 2 else 0)
structure PO (T : TaS) (Y : TaY) (sv : Bool) (k m : Bool → Nat) : Prop where
  srv : T.srv = sv
  kn : ∀ u, (T.so sv u).known = k u
  my : ∀ u, (T.so sv u).may = m u
  va : ∀ u j, k u ≤ j → T.l (j * 4 + lst sv u) = none
  yn : Y.n = k false + k true
theorem PO.start {Y : TaY} (sv : Bool) (nb nu : Nat) (hb : nb < 20) (hu : nu < 20) (hy : Y.n = 0) : PO (peerS (newS sv 0 0 0 0) 0 0 nb nu) Y sv (fun _ => 0) (fun u => if u then nu else nb) := by
  refine ⟨rfl, fun u => ?_, fun u => ?_, fun u j _ => rfl, hy⟩
  · cases sv <;> cases u <;> rfl
  · have e1 : min nb 1152921504606846976 = nb := by omega
    have e2 : min nu 1152921504606846976 = nu := by omega
    cases sv <;> cases u
    · show max 0 (min nb 1152921504606846976) = nb; omega
    · show max 0 (min nu 1152921504606846976) = nu; omega
    · show max 0 (min nb 1152921504606846976) = nb; omega
    · show max 0 (min nu 1152921504606846976) = nu; omega
def kset (k : Bool → Nat) (u : Bool) (n : Nat) : Bool → Nat := fun v => if v = u then n else k v
theorem PO.open {T : TaS} {Y Y' : TaY} {sv : Bool} {k m : Bool → Nat} (h : PO T Y sv k m) (u : Bool) (hy : Y'.n = Y.n + 1) :
    PO (makeS (Pi.setSo T sv u { T.so sv u with known := (T.so sv u).known + 1 }) ((T.so sv u).known * 4 + lst sv u)) Y' sv (kset k u (k u + 1)) m := by
  refine ⟨h.srv, fun v => ?_, fun v => ?_, fun v j hj => ?_, ?_⟩
  · show (if sv = sv ∧ v = u then _ else T.so sv v).known = _
    by_cases hv : v = u
    · subst hv
      rw [if_pos ⟨rfl, rfl⟩]
      unfold kset
      rw [if_pos rfl]
      show (T.so sv v).known + 1 = _
      rw [h.kn]
    · rw [if_neg (fun hh => hv hh.2)]
      unfold kset
      rw [if_neg hv]
      exact h.kn v
  · show (if sv = sv ∧ v = u then _ else T.so sv v).may = _
    by_cases hv : v = u
    · subst hv
      rw [if_pos ⟨rfl, rfl⟩]
      exact h.my v
    · rw [if_neg (fun hh => hv hh.2)]
      exact h.my v
  · rw [makeS_l, setSo_l]
    unfold kset at hj
    have hn : j * 4 + lst sv v ≠ (T.so sv u).known * 4 + lst sv u := by
      rw [h.kn]
      unfold lst
      by_cases hv : v = u
      · subst hv
        rw [if_pos rfl] at hj
        omega
      · cases v <;> cases u <;> simp at hv <;> simp <;> omega
    rw [if_neg hn]
    by_cases hv : v = u
    · subst hv
      rw [if_pos rfl] at hj
      exact h.va v j (by omega)
    · rw [if_neg hv] at hj
      exact h.va v j hj
  · rw [hy, h.yn]
    unfold kset
    cases u <;> simp <;> omega
theorem PO.hear {T : TaS} {Y : TaY} {sv : Bool} {k m : Bool → Nat} (h : PO T Y sv k m) (u : Bool) (n : Nat) (hn : n < 30) :
    PO (Pi.setSo T sv u { T.so sv u with may := max (T.so sv u).may (min n 1152921504606846976) }) Y sv k (kset m u (max (m u) n)) := by
  refine ⟨h.srv, fun v => ?_, fun v => ?_, fun v j hj => h.va v j hj, h.yn⟩
  · show (if sv = sv ∧ v = u then _ else T.so sv v).known = _
    by_cases hv : v = u
    · subst hv
      rw [if_pos ⟨rfl, rfl⟩]
      exact h.kn v
    · rw [if_neg (fun hh => hv hh.2)]
      exact h.kn v
  · show (if sv = sv ∧ v = u then _ else T.so sv v).may = _
    unfold kset
    by_cases hv : v = u
    · subst hv
      rw [if_pos ⟨rfl, rfl⟩, if_pos rfl]
      show max (T.so sv v).may (min n 1152921504606846976) = _
      rw [h.my]
      omega
    · rw [if_neg (fun hh => hv hh.2), if_neg hv]
      exact h.my v
/-- what Open does in a round of PipeOpens -/
theorem open_po {w : World} {role : Nat → Nat} {g : Nat} {T : TaS} {Y : TaY} {sv : Bool} {k m : Bool → Nat} (h : TZ w role g T Y) (hp : PO T Y sv k m) (u : Bool) (hk : k u < m u) (hb : k false + k true < 1000000) (hm : m u < 1000) :
    Calls Try.prog 10 #[ptr g, .bool u] w fun e w' => e = .returned (.tuple #[.int .u64 ((k u * 4 + lst sv u : Nat) : Int), .int .i64 0]) ∧ ∃ role' T' Y', TZ w' role' g T' Y' ∧ PO T' Y' sv (kset k u (k u + 1)) m ∧ Stq (fun r => r ≠ 0) w w' role role' := by
  have hY : Y.n < maxLen := by rw [hp.yn]; unfold maxLen; omega
  have hl := hp.va u (k u) (Nat.le_refl _)
  have hs := hp.srv
  have hkn := hp.kn u
  have hmy := hp.my u
  cases sv <;> cases u
  · refine (open_false_false h hs hY (by rw [hkn]; omega) (by rw [hkn, hmy]; exact hk) (by rw [hkn]; exact hl)).mono ?_
    rintro e w' ⟨rfl, role', Y', z, y, s⟩
    exact ⟨by rw [hkn]; rfl, role', _, Y', z, hp.open false y, s⟩
  · refine (open_false_true h hs hY (by rw [hkn]; omega) (by rw [hkn, hmy]; exact hk) (by rw [hkn]; exact hl)).mono ?_
    rintro e w' ⟨rfl, role', Y', z, y, s⟩
    exact ⟨by rw [hkn]; rfl, role', _, Y', z, hp.open true y, s⟩
  · refine (open_true_false h hs hY (by rw [hkn]; omega) (by rw [hkn, hmy]; exact hk) (by rw [hkn]; exact hl)).mono ?_
    rintro e w' ⟨rfl, role', Y', z, y, s⟩
    exact ⟨by rw [hkn]; rfl, role', _, Y', z, hp.open false y, s⟩
  · refine (open_true_true h hs hY (by rw [hkn]; omega) (by rw [hkn, hmy]; exact hk) (by rw [hkn]; exact hl)).mono ?_
    rintro e w' ⟨rfl, role', Y', z, y, s⟩
    exact ⟨by rw [hkn]; rfl, role', _, Y', z, hp.open true y, s⟩
theorem open_po_no {w : World} {role : Nat → Nat} {g : Nat} {T : TaS} {Y : TaY} {sv : Bool} {k m : Bool → Nat} (h : TZ w role g T Y) (hp : PO T Y sv k m) (u : Bool) (hk : m u ≤ k u) :
    Calls Try.prog 10 #[ptr g, .bool u] w fun e w' => e = .returned (.tuple #[.int .u64 0, .int .i64 12]) ∧ TZ w' role g T Y ∧ Stq (fun r => r ≠ 0) w w' role role :=
  open_no h u (by rw [hp.srv, hp.kn, hp.my]; exact hk)
theorem hear_po {w : World} {role : Nat → Nat} {g : Nat} {T : TaS} {Y : TaY} {sv : Bool} {k m : Bool → Nat} (h : TZ w role g T Y) (hp : PO T Y sv k m) (u : Bool) (n : Nat) (hn : n < 30) :
    Calls Try.prog 11 #[ptr g, .agg (frc (if u then 19 else 18) 0 0 n 0 false SA0 SA0 SA0).toArray] w fun e w' => e = .returned (.int .u64 0) ∧ ∃ T', TZ w' role g T' Y ∧ PO T' Y sv k (kset m u (max (m u) n)) ∧ Stq (fun r => r ≠ 0) w w' role role := by
  have hs := hp.srv
  cases u
  · refine (hear_18 h n (by omega)).mono ?_
    rintro e w' ⟨rfl, z, s⟩
    rw [hs] at z
    exact ⟨rfl, _, z, hp.hear false n hn, s⟩
  · refine (hear_19 h n (by omega)).mono ?_
    rintro e w' ⟨rfl, z, s⟩
    rw [hs] at z
    exact ⟨rfl, _, z, hp.hear true n hn, s⟩
end Go.Proofs.Yteekafpkbdbadaa.Pi
