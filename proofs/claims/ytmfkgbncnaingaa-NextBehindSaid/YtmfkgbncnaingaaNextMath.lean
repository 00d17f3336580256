/- Plain byte lists: the least list behind all that begin with a head, and what stands between the two. -/
import Derived.Laws.Strings
namespace Go.Proofs.Ytmfkgbncnaingaa.NextMath
open Go.Op (bytesLess)

/-- The next list, if there is one. -/
def nextS : List UInt8 → Option (List UInt8)
  | [] => none
  | c :: r => match nextS r with
    | some n => some (c :: n)
    | none => if c = 255 then none else some [c + 1]

def preB : List UInt8 → List UInt8 → Bool
  | [], _ => true
  | _ :: _, [] => false
  | c :: r, d :: o => c == d && preB r o

/-- h is at most o. -/
def le (h o : List UInt8) : Bool := bytesLess h o || h == o

theorem u8_lt_succ {c : UInt8} (h : c ≠ 255) : c < c + 1 := by
  have h1 : c.toNat ≠ 255 := fun e => h (UInt8.toNat.inj e)
  have h2 := c.toNat_lt
  rw [UInt8.lt_iff_toNat_lt, UInt8.toNat_add, show (1 : UInt8).toNat = 1 from rfl, Nat.mod_eq_of_lt (by omega)]
  omega

theorem u8_toNat_succ {c : UInt8} (h : c ≠ 255) : (c + 1).toNat = c.toNat + 1 := by
  have h1 : c.toNat ≠ 255 := fun e => h (UInt8.toNat.inj e)
  have h2 := c.toNat_lt
  rw [UInt8.toNat_add, show (1 : UInt8).toNat = 1 from rfl, Nat.mod_eq_of_lt (by omega)]

theorem le_cons (c d : UInt8) (r o : List UInt8) : le (c :: r) (d :: o) = (decide (c < d) || (c == d && le r o)) := by
  unfold le
  rw [bytesLess]
  by_cases h : c = d
  · subst h
    simp
  · have : ((c :: r) == (d :: o)) = false := by simp [h]
    rw [this, beq_eq_false_iff_ne.2 h]; simp

theorem le_all (h : List UInt8) : (∀ x ∈ h, x = 255) → ∀ o, le h o = preB h o := by
  induction h with
  | nil => intro _ o; cases o <;> simp [le, preB, bytesLess]
  | cons c r ih =>
    intro hall o
    obtain rfl : c = 255 := hall c (by simp)
    cases o with
    | nil => simp [le, preB, bytesLess]
    | cons d o =>
      rw [le_cons, preB, ih (fun x hx => hall x (by simp [hx]))]
      have : ¬ (255 : UInt8) < d := by
        have := d.toNat_lt
        rw [UInt8.lt_iff_toNat_lt, show (255 : UInt8).toNat = 255 from rfl]; omega
      simp [this]

theorem nextS_none {h : List UInt8} : nextS h = none → ∀ x ∈ h, x = 255 := by
  induction h with
  | nil => intro _ x hx; cases hx
  | cons c r ih =>
    intro hn
    rw [nextS] at hn
    split at hn
    · cases hn
    · rename_i hr
      split at hn
      · rename_i hc
        intro x hx
        rcases List.mem_cons.1 hx with rfl | hx
        · exact hc
        · exact ih hr x hx
      · cases hn

theorem nextS_some {h : List UInt8} : ∀ {n}, nextS h = some n → (∀ t, bytesLess (h ++ t) n = true) ∧ ∀ o, preB h o = (le h o && bytesLess o n) := by
  induction h with
  | nil => intro n hn; cases hn
  | cons c r ih =>
    intro n hn
    rw [nextS] at hn
    split at hn
    · rename_i n' hr
      obtain rfl := Option.some.inj hn
      obtain ⟨h1, h2⟩ := ih hr
      refine ⟨fun t => ?_, fun o => ?_⟩
      · rw [List.cons_append, bytesLess, h1 t]; simp
      · cases o with
        | nil => simp [preB, le, bytesLess]
        | cons d o =>
          rw [preB, le_cons, bytesLess, h2]
          by_cases hcd : c = d
          · subst hcd; simp
          · rw [beq_eq_false_iff_ne.2 hcd, beq_eq_false_iff_ne.2 (Ne.symm hcd)]
            rcases UInt8.lt_or_lt_of_ne hcd with hlt | hlt
            · have : ¬ d < c := by rw [UInt8.lt_iff_toNat_lt] at *; omega
              simp [this]
            · have : ¬ c < d := by rw [UInt8.lt_iff_toNat_lt] at *; omega
              simp [this]
    · rename_i hr
      split at hn
      · cases hn
      · rename_i hc
        obtain rfl := Option.some.inj hn
        have hall := nextS_none hr
        refine ⟨fun t => ?_, fun o => ?_⟩
        · rw [List.cons_append, bytesLess]; simp [u8_lt_succ hc]
        · cases o with
          | nil => simp [preB, le, bytesLess]
          | cons d o =>
            have hsucc := u8_toNat_succ hc
            rw [preB, le_cons, bytesLess, le_all r hall]
            have hnil : bytesLess o [] = false := by cases o <;> rfl
            rw [hnil]
            by_cases hcd : c = d
            · subst hcd; simp [u8_lt_succ hc]
            · rw [beq_eq_false_iff_ne.2 hcd]
              rcases UInt8.lt_or_lt_of_ne hcd with hlt | hlt
              · have : ¬ d < c + 1 := by rw [UInt8.lt_iff_toNat_lt] at *; omega
                simp [this]
              · have : ¬ c < d := by rw [UInt8.lt_iff_toNat_lt] at *; omega
                simp [this]

theorem nextS_snoc_255 (p : List UInt8) : nextS (p ++ [255]) = nextS p := by
  induction p with
  | nil => rfl
  | cons c r ih => rw [List.cons_append, nextS, nextS, ih]

theorem nextS_snoc {c : UInt8} (hc : c ≠ 255) (p : List UInt8) : nextS (p ++ [c]) = some (p ++ [c + 1]) := by
  induction p with
  | nil => simp [nextS, hc]
  | cons d r ih => rw [List.cons_append, nextS, ih]; rfl

theorem preB_take (h o : List UInt8) (hl : h.length ≤ o.length) : (o.take h.length == h) = preB h o := by
  induction h generalizing o with
  | nil => simp [preB]
  | cons c r ih =>
    cases o with
    | nil => simp at hl
    | cons d o =>
      rw [List.length_cons, List.take_succ_cons, preB, ← ih o (by simpa using hl)]
      rw [BEq.comm (a := c)]; rfl

theorem preB_short (h o : List UInt8) (hl : o.length < h.length) : preB h o = false := by
  induction h generalizing o with
  | nil => simp at hl
  | cons c r ih =>
    cases o with
    | nil => rfl
    | cons d o => rw [preB, ih o (by simpa using hl), Bool.and_false]

end Go.Proofs.Ytmfkgbncnaingaa.NextMath
