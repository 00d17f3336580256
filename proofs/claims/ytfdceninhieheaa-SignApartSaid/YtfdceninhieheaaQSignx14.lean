/- Functions of the program as plain functions, and the walks that show it. Written by the session's own program pp.py. -/
import Derived.Test.YtfdceninhieheaaQSignx0
import Derived.Test.YtfdceninhieheaaQSignx1
import Derived.Test.YtfdceninhieheaaQSignx3
import Derived.Test.YtfdceninhieheaaQSignx5
import Derived.Test.YtfdceninhieheaaQSignx7
import Derived.Test.YtfdceninhieheaaQSignx9
import Derived.Test.YtfdceninhieheaaQSignx10
import Derived.Test.YtfdceninhieheaaQSignx12
namespace Go.Proofs.Ytfdceninhieheaa.QSign
open Go.RowKit Go.Proofs.YtfdceninhieheaaW.PrintWords Go.Proofs.YtfdceninhieheaaW.PrintLast Go.Proofs.YtfdceninhieheaaW.PrintMore
attribute [local go_sem] max2_int min2_int max_two min_two max_three min_three max_four min_four   -- for this text's walks alone
set_option linter.unusedVariables false
set_option linter.unusedSimpArgs false

/-! ### bagnallkeep_SignApart: function 6 -/
def bagnallkeep_SignApart.j0 : Nat → List Int → Int → Int → Int → Bool → Int → Int → Option (Bool)
  | 0, _, _, _, _, _, _, _ => none
  | k + 1, x3, x9, x11, x15, x75, x202000, x202001 => if x75 = true then (some false) else ((bagnallkeep_cutBytes.f x3).bind fun t210 => ((sign_Check.f k x11 t210 x202000 x202001).bind fun t213 => (if x9 = x11 then (some ((t213 == 0) == true)) else (some ((t213 == 0) == (x15 == 0))))))
def bagnallkeep_SignApart.f (k : Nat) (a0 : Int) (a1 : Int) (a2 : Int) (l3 : List Int) : Option (Bool) := (bagnallkeep_SecretOf.f a0).bind fun t187 => ((sign_Public.f k t187).bind fun bt188 => ((bagnallkeep_SecretOf.f a1).bind fun t190 => ((sign_Public.f k t190).bind fun bt191 => ((bagnallkeep_SecretOf.f a0).bind fun t193 => ((bagnallkeep_SecretOf.f a2).bind fun t194 => ((bagnallkeep_cutBytes.f l3).bind fun t195 => ((sign_Make.f k t193 t194 t195).bind fun bt198 => ((bagnallkeep_cutBytes.f l3).bind fun t202 => ((sign_Hash.f k bt198.1 t202).bind fun bt205 => (if bt188.2 = 0 then (if bt191.2 = 0 then (if bt198.2.2 = 0 then (if bt205.2 = 0 then ((bagnallkeep_signSure.f k).bind fun t207 => (if t207 = true then ((bagnallkeep_SecretOf.f a0).bind fun t208 => ((bagnallkeep_SecretOf.f a1).bind fun t209 => (bagnallkeep_SignApart.j0 k l3 bt188.1 bt191.1 bt205.1 ((bt188.1 == bt191.1) != (t208 == t209)) bt198.1 bt198.2.1))) else (bagnallkeep_SignApart.j0 k l3 bt188.1 bt191.1 bt205.1 true bt198.1 bt198.2.1))) else (bagnallkeep_SignApart.j0 k l3 bt188.1 bt191.1 bt205.1 true bt198.1 bt198.2.1)) else (bagnallkeep_SignApart.j0 k l3 bt188.1 bt191.1 bt205.1 true bt198.1 bt198.2.1)) else (bagnallkeep_SignApart.j0 k l3 bt188.1 bt191.1 bt205.1 true bt198.1 bt198.2.1)) else (bagnallkeep_SignApart.j0 k l3 bt188.1 bt191.1 bt205.1 true bt198.1 bt198.2.1)))))))))))
theorem bagnallkeep_SignApart.mono_l : ∀ k, (∀ y0 y1 y2 y3 y4 y5 y6, LeO (bagnallkeep_SignApart.j0 k y0 y1 y2 y3 y4 y5 y6) (bagnallkeep_SignApart.j0 (k + 1) y0 y1 y2 y3 y4 y5 y6))
  | 0 => fun _ _ _ _ _ _ _ r h => by simp [bagnallkeep_SignApart.j0] at h
  | k + 1 => by
    have ih0 := bagnallkeep_SignApart.mono_l k
    · intro y0 y1 y2 y3 y4 y5 y6
      unfold bagnallkeep_SignApart.j0
      repeat' first
      | (with_reducible exact ih0 _ _ _ _ _ _ _)
      | (with_reducible exact bagnallkeep_signSure.mono _)
      | (with_reducible exact sign_Check.mono _ _ _ _ _)
      | (with_reducible exact sign_Hash.mono _ _ _)
      | (with_reducible exact sign_Make.mono _ _ _ _)
      | (with_reducible exact sign_Public.mono _ _)
      | (with_reducible exact LeO.refl _)
      | (with_reducible exact LeO.none _)
      | (with_reducible refine LeO.ite ?_ ?_)
      | (with_reducible refine LeO.bind ?_ (fun _ => ?_))
      | exact ih0 _ _ _ _ _ _ _
      | exact bagnallkeep_signSure.mono _
      | exact sign_Check.mono _ _ _ _ _
      | exact sign_Hash.mono _ _ _
      | exact sign_Make.mono _ _ _ _
      | exact sign_Public.mono _ _
      | exact LeO.none _
      | refine LeO.ite ?_ ?_
      | refine LeO.bind ?_ (fun _ => ?_)
theorem bagnallkeep_SignApart.mono : ∀ a0 a1 a2 a3 k, LeO (bagnallkeep_SignApart.f k a0 a1 a2 a3) (bagnallkeep_SignApart.f (k + 1) a0 a1 a2 a3) := by
  intro a0 a1 a2 a3 k
  have ih0 := bagnallkeep_SignApart.mono_l k
  unfold bagnallkeep_SignApart.f
  repeat' first
      | (with_reducible exact ih0 _ _ _ _ _ _ _)
      | (with_reducible exact bagnallkeep_signSure.mono _)
      | (with_reducible exact sign_Check.mono _ _ _ _ _)
      | (with_reducible exact sign_Hash.mono _ _ _)
      | (with_reducible exact sign_Make.mono _ _ _ _)
      | (with_reducible exact sign_Public.mono _ _)
      | (with_reducible exact LeO.refl _)
      | (with_reducible exact LeO.none _)
      | (with_reducible refine LeO.ite ?_ ?_)
      | (with_reducible refine LeO.bind ?_ (fun _ => ?_))
      | exact ih0 _ _ _ _ _ _ _
      | exact bagnallkeep_signSure.mono _
      | exact sign_Check.mono _ _ _ _ _
      | exact sign_Hash.mono _ _ _
      | exact sign_Make.mono _ _ _ _
      | exact sign_Public.mono _ _
      | exact LeO.none _
      | refine LeO.ite ?_ ?_
      | refine LeO.bind ?_ (fun _ => ?_)
def bagnallkeep_SignApart.T4 : Bool × List (List Nat × List Nat) := (true, [([], []), ([0], [0]), ([], []), ([2], [2]), ([1, 3, 3], [1, 3]), ([4], [4]), ([5], [5]), ([5], [5]), ([6, 4, 0, 1, 2, 3, 4, 5, 6], [6]), ([7, 8, 0, 1, 2, 3, 4, 5, 6, 7, 8], [7])])
def bagnallkeep_SignApart.B4 : List Nat := [0, 1, 0, 4, 15, 31, 63, 63, 127, 511]
theorem bagnallkeep_SignApart.tab4 : rtab .any (opsOf Try.f6 4) = bagnallkeep_SignApart.T4 := by kernel_rfl
theorem bagnallkeep_SignApart.bits4 : waitsOk bagnallkeep_SignApart.T4.2 bagnallkeep_SignApart.B4 = true := by kernel_rfl
def bagnallkeep_SignApart.T7 : Bool × List (List Nat × List Nat) := (true, [([], []), ([], []), ([1], [1]), ([], []), ([0, 2, 3, 2], [0, 2, 3]), ([4], [4]), ([], []), ([], []), ([6, 7], [6, 7]), ([8, 4], [8]), ([9], [9]), ([10, 9], [9, 10]), ([9, 11], [9, 11]), ([5, 12], [5, 12]), ([13, 9, 0, 1, 2, 3, 4, 5, 6, 7, 8, 9, 10, 11, 12, 13], [13])])
def bagnallkeep_SignApart.B7 : List Nat := [0, 0, 2, 0, 15, 31, 0, 0, 192, 479, 991, 2015, 4063, 8191, 16383]
theorem bagnallkeep_SignApart.tab7 : rtab .any (opsOf Try.f6 7) = bagnallkeep_SignApart.T7 := by kernel_rfl
theorem bagnallkeep_SignApart.bits7 : waitsOk bagnallkeep_SignApart.T7.2 bagnallkeep_SignApart.B7 = true := by kernel_rfl
set_option maxHeartbeats 8000000 in
set_option maxRecDepth 100000 in
theorem bagnallkeep_SignApart.calls (k : Nat) (a0 : Int) (a1 : Int) (a2 : Int) (A3 : Option Addr) (c3 : Nat) (l3 : List Int) (r : Bool) (w : World) (hr3 : Kd.C (Kd.int .u8) w A3 l3.length l3) (hc3 : l3.length ≤ c3) (h : bagnallkeep_SignApart.f k a0 a1 a2 l3 = some r) :
    Calls Try.prog 6 #[.int .i64 a0, .int .i64 a1, .int .i64 a2, .slice A3 l3.length c3] w fun e w' => e = .returned (.bool r) ∧ Below w.heap.size w w' := by
  have hu34 := Try.underlying34
  have HR3 := Aside0.mk hr3
  have HC3 := Aside0.mk hc3
  clear hr3 hc3
  have HB := Aside0.mk (Below.refl w.heap.size w)
  have H : ((bagnallkeep_SecretOf.f a0).bind fun t187 => ((sign_Public.f k t187).bind fun bt188 => ((bagnallkeep_SecretOf.f a1).bind fun t190 => ((sign_Public.f k t190).bind fun bt191 => ((bagnallkeep_SecretOf.f a0).bind fun t193 => ((bagnallkeep_SecretOf.f a2).bind fun t194 => ((bagnallkeep_cutBytes.f l3).bind fun t195 => ((sign_Make.f k t193 t194 t195).bind fun bt198 => ((bagnallkeep_cutBytes.f l3).bind fun t202 => ((sign_Hash.f k bt198.1 t202).bind fun bt205 => (if bt188.2 = 0 then (if bt191.2 = 0 then (if bt198.2.2 = 0 then (if bt205.2 = 0 then ((bagnallkeep_signSure.f k).bind fun t207 => (if t207 = true then ((bagnallkeep_SecretOf.f a0).bind fun t208 => ((bagnallkeep_SecretOf.f a1).bind fun t209 => (bagnallkeep_SignApart.j0 k l3 bt188.1 bt191.1 bt205.1 ((bt188.1 == bt191.1) != (t208 == t209)) bt198.1 bt198.2.1))) else (bagnallkeep_SignApart.j0 k l3 bt188.1 bt191.1 bt205.1 true bt198.1 bt198.2.1))) else (bagnallkeep_SignApart.j0 k l3 bt188.1 bt191.1 bt205.1 true bt198.1 bt198.2.1)) else (bagnallkeep_SignApart.j0 k l3 bt188.1 bt191.1 bt205.1 true bt198.1 bt198.2.1)) else (bagnallkeep_SignApart.j0 k l3 bt188.1 bt191.1 bt205.1 true bt198.1 bt198.2.1)) else (bagnallkeep_SignApart.j0 k l3 bt188.1 bt191.1 bt205.1 true bt198.1 bt198.2.1)))))))))))) = some r := h
  clear h
  replace H := Option.bind_eq_some_iff.mp H
  obtain ⟨t187, A50, H⟩ := H
  replace H : ((sign_Public.f k t187).bind fun bt188 => ((bagnallkeep_SecretOf.f a1).bind fun t190 => ((sign_Public.f k t190).bind fun bt191 => ((bagnallkeep_SecretOf.f a0).bind fun t193 => ((bagnallkeep_SecretOf.f a2).bind fun t194 => ((bagnallkeep_cutBytes.f l3).bind fun t195 => ((sign_Make.f k t193 t194 t195).bind fun bt198 => ((bagnallkeep_cutBytes.f l3).bind fun t202 => ((sign_Hash.f k bt198.1 t202).bind fun bt205 => (if bt188.2 = 0 then (if bt191.2 = 0 then (if bt198.2.2 = 0 then (if bt205.2 = 0 then ((bagnallkeep_signSure.f k).bind fun t207 => (if t207 = true then ((bagnallkeep_SecretOf.f a0).bind fun t208 => ((bagnallkeep_SecretOf.f a1).bind fun t209 => (bagnallkeep_SignApart.j0 k l3 bt188.1 bt191.1 bt205.1 ((bt188.1 == bt191.1) != (t208 == t209)) bt198.1 bt198.2.1))) else (bagnallkeep_SignApart.j0 k l3 bt188.1 bt191.1 bt205.1 true bt198.1 bt198.2.1))) else (bagnallkeep_SignApart.j0 k l3 bt188.1 bt191.1 bt205.1 true bt198.1 bt198.2.1)) else (bagnallkeep_SignApart.j0 k l3 bt188.1 bt191.1 bt205.1 true bt198.1 bt198.2.1)) else (bagnallkeep_SignApart.j0 k l3 bt188.1 bt191.1 bt205.1 true bt198.1 bt198.2.1)) else (bagnallkeep_SignApart.j0 k l3 bt188.1 bt191.1 bt205.1 true bt198.1 bt198.2.1))))))))))) = some r := H
  have A5 := Aside0.mk A50
  clear A50
  replace H := Option.bind_eq_some_iff.mp H
  obtain ⟨⟨t188, t189⟩, A60, H⟩ := H
  replace H : ((bagnallkeep_SecretOf.f a1).bind fun t190 => ((sign_Public.f k t190).bind fun bt191 => ((bagnallkeep_SecretOf.f a0).bind fun t193 => ((bagnallkeep_SecretOf.f a2).bind fun t194 => ((bagnallkeep_cutBytes.f l3).bind fun t195 => ((sign_Make.f k t193 t194 t195).bind fun bt198 => ((bagnallkeep_cutBytes.f l3).bind fun t202 => ((sign_Hash.f k bt198.1 t202).bind fun bt205 => (if t189 = 0 then (if bt191.2 = 0 then (if bt198.2.2 = 0 then (if bt205.2 = 0 then ((bagnallkeep_signSure.f k).bind fun t207 => (if t207 = true then ((bagnallkeep_SecretOf.f a0).bind fun t208 => ((bagnallkeep_SecretOf.f a1).bind fun t209 => (bagnallkeep_SignApart.j0 k l3 t188 bt191.1 bt205.1 ((t188 == bt191.1) != (t208 == t209)) bt198.1 bt198.2.1))) else (bagnallkeep_SignApart.j0 k l3 t188 bt191.1 bt205.1 true bt198.1 bt198.2.1))) else (bagnallkeep_SignApart.j0 k l3 t188 bt191.1 bt205.1 true bt198.1 bt198.2.1)) else (bagnallkeep_SignApart.j0 k l3 t188 bt191.1 bt205.1 true bt198.1 bt198.2.1)) else (bagnallkeep_SignApart.j0 k l3 t188 bt191.1 bt205.1 true bt198.1 bt198.2.1)) else (bagnallkeep_SignApart.j0 k l3 t188 bt191.1 bt205.1 true bt198.1 bt198.2.1)))))))))) = some r := H
  have A6 := Aside0.mk A60
  clear A60
  replace H := Option.bind_eq_some_iff.mp H
  obtain ⟨t190, A70, H⟩ := H
  replace H : ((sign_Public.f k t190).bind fun bt191 => ((bagnallkeep_SecretOf.f a0).bind fun t193 => ((bagnallkeep_SecretOf.f a2).bind fun t194 => ((bagnallkeep_cutBytes.f l3).bind fun t195 => ((sign_Make.f k t193 t194 t195).bind fun bt198 => ((bagnallkeep_cutBytes.f l3).bind fun t202 => ((sign_Hash.f k bt198.1 t202).bind fun bt205 => (if t189 = 0 then (if bt191.2 = 0 then (if bt198.2.2 = 0 then (if bt205.2 = 0 then ((bagnallkeep_signSure.f k).bind fun t207 => (if t207 = true then ((bagnallkeep_SecretOf.f a0).bind fun t208 => ((bagnallkeep_SecretOf.f a1).bind fun t209 => (bagnallkeep_SignApart.j0 k l3 t188 bt191.1 bt205.1 ((t188 == bt191.1) != (t208 == t209)) bt198.1 bt198.2.1))) else (bagnallkeep_SignApart.j0 k l3 t188 bt191.1 bt205.1 true bt198.1 bt198.2.1))) else (bagnallkeep_SignApart.j0 k l3 t188 bt191.1 bt205.1 true bt198.1 bt198.2.1)) else (bagnallkeep_SignApart.j0 k l3 t188 bt191.1 bt205.1 true bt198.1 bt198.2.1)) else (bagnallkeep_SignApart.j0 k l3 t188 bt191.1 bt205.1 true bt198.1 bt198.2.1)) else (bagnallkeep_SignApart.j0 k l3 t188 bt191.1 bt205.1 true bt198.1 bt198.2.1))))))))) = some r := H
  have A7 := Aside0.mk A70
  clear A70
  replace H := Option.bind_eq_some_iff.mp H
  obtain ⟨⟨t191, t192⟩, A80, H⟩ := H
  replace H : ((bagnallkeep_SecretOf.f a0).bind fun t193 => ((bagnallkeep_SecretOf.f a2).bind fun t194 => ((bagnallkeep_cutBytes.f l3).bind fun t195 => ((sign_Make.f k t193 t194 t195).bind fun bt198 => ((bagnallkeep_cutBytes.f l3).bind fun t202 => ((sign_Hash.f k bt198.1 t202).bind fun bt205 => (if t189 = 0 then (if t192 = 0 then (if bt198.2.2 = 0 then (if bt205.2 = 0 then ((bagnallkeep_signSure.f k).bind fun t207 => (if t207 = true then ((bagnallkeep_SecretOf.f a0).bind fun t208 => ((bagnallkeep_SecretOf.f a1).bind fun t209 => (bagnallkeep_SignApart.j0 k l3 t188 t191 bt205.1 ((t188 == t191) != (t208 == t209)) bt198.1 bt198.2.1))) else (bagnallkeep_SignApart.j0 k l3 t188 t191 bt205.1 true bt198.1 bt198.2.1))) else (bagnallkeep_SignApart.j0 k l3 t188 t191 bt205.1 true bt198.1 bt198.2.1)) else (bagnallkeep_SignApart.j0 k l3 t188 t191 bt205.1 true bt198.1 bt198.2.1)) else (bagnallkeep_SignApart.j0 k l3 t188 t191 bt205.1 true bt198.1 bt198.2.1)) else (bagnallkeep_SignApart.j0 k l3 t188 t191 bt205.1 true bt198.1 bt198.2.1)))))))) = some r := H
  have A8 := Aside0.mk A80
  clear A80
  replace H := Option.bind_eq_some_iff.mp H
  obtain ⟨t193, A90, H⟩ := H
  replace H : ((bagnallkeep_SecretOf.f a2).bind fun t194 => ((bagnallkeep_cutBytes.f l3).bind fun t195 => ((sign_Make.f k t193 t194 t195).bind fun bt198 => ((bagnallkeep_cutBytes.f l3).bind fun t202 => ((sign_Hash.f k bt198.1 t202).bind fun bt205 => (if t189 = 0 then (if t192 = 0 then (if bt198.2.2 = 0 then (if bt205.2 = 0 then ((bagnallkeep_signSure.f k).bind fun t207 => (if t207 = true then ((bagnallkeep_SecretOf.f a0).bind fun t208 => ((bagnallkeep_SecretOf.f a1).bind fun t209 => (bagnallkeep_SignApart.j0 k l3 t188 t191 bt205.1 ((t188 == t191) != (t208 == t209)) bt198.1 bt198.2.1))) else (bagnallkeep_SignApart.j0 k l3 t188 t191 bt205.1 true bt198.1 bt198.2.1))) else (bagnallkeep_SignApart.j0 k l3 t188 t191 bt205.1 true bt198.1 bt198.2.1)) else (bagnallkeep_SignApart.j0 k l3 t188 t191 bt205.1 true bt198.1 bt198.2.1)) else (bagnallkeep_SignApart.j0 k l3 t188 t191 bt205.1 true bt198.1 bt198.2.1)) else (bagnallkeep_SignApart.j0 k l3 t188 t191 bt205.1 true bt198.1 bt198.2.1))))))) = some r := H
  have A9 := Aside0.mk A90
  clear A90
  replace H := Option.bind_eq_some_iff.mp H
  obtain ⟨t194, A100, H⟩ := H
  replace H : ((bagnallkeep_cutBytes.f l3).bind fun t195 => ((sign_Make.f k t193 t194 t195).bind fun bt198 => ((bagnallkeep_cutBytes.f l3).bind fun t202 => ((sign_Hash.f k bt198.1 t202).bind fun bt205 => (if t189 = 0 then (if t192 = 0 then (if bt198.2.2 = 0 then (if bt205.2 = 0 then ((bagnallkeep_signSure.f k).bind fun t207 => (if t207 = true then ((bagnallkeep_SecretOf.f a0).bind fun t208 => ((bagnallkeep_SecretOf.f a1).bind fun t209 => (bagnallkeep_SignApart.j0 k l3 t188 t191 bt205.1 ((t188 == t191) != (t208 == t209)) bt198.1 bt198.2.1))) else (bagnallkeep_SignApart.j0 k l3 t188 t191 bt205.1 true bt198.1 bt198.2.1))) else (bagnallkeep_SignApart.j0 k l3 t188 t191 bt205.1 true bt198.1 bt198.2.1)) else (bagnallkeep_SignApart.j0 k l3 t188 t191 bt205.1 true bt198.1 bt198.2.1)) else (bagnallkeep_SignApart.j0 k l3 t188 t191 bt205.1 true bt198.1 bt198.2.1)) else (bagnallkeep_SignApart.j0 k l3 t188 t191 bt205.1 true bt198.1 bt198.2.1)))))) = some r := H
  have A10 := Aside0.mk A100
  clear A100
  replace H := Option.bind_eq_some_iff.mp H
  obtain ⟨t195, A110, H⟩ := H
  replace H : ((sign_Make.f k t193 t194 t195).bind fun bt198 => ((bagnallkeep_cutBytes.f l3).bind fun t202 => ((sign_Hash.f k bt198.1 t202).bind fun bt205 => (if t189 = 0 then (if t192 = 0 then (if bt198.2.2 = 0 then (if bt205.2 = 0 then ((bagnallkeep_signSure.f k).bind fun t207 => (if t207 = true then ((bagnallkeep_SecretOf.f a0).bind fun t208 => ((bagnallkeep_SecretOf.f a1).bind fun t209 => (bagnallkeep_SignApart.j0 k l3 t188 t191 bt205.1 ((t188 == t191) != (t208 == t209)) bt198.1 bt198.2.1))) else (bagnallkeep_SignApart.j0 k l3 t188 t191 bt205.1 true bt198.1 bt198.2.1))) else (bagnallkeep_SignApart.j0 k l3 t188 t191 bt205.1 true bt198.1 bt198.2.1)) else (bagnallkeep_SignApart.j0 k l3 t188 t191 bt205.1 true bt198.1 bt198.2.1)) else (bagnallkeep_SignApart.j0 k l3 t188 t191 bt205.1 true bt198.1 bt198.2.1)) else (bagnallkeep_SignApart.j0 k l3 t188 t191 bt205.1 true bt198.1 bt198.2.1))))) = some r := H
  have A11 := Aside0.mk A110
  clear A110
  replace H := Option.bind_eq_some_iff.mp H
  obtain ⟨⟨t198, t199, t200⟩, A120, H⟩ := H
  replace H : ((bagnallkeep_cutBytes.f l3).bind fun t202 => ((sign_Hash.f k t198 t202).bind fun bt205 => (if t189 = 0 then (if t192 = 0 then (if t200 = 0 then (if bt205.2 = 0 then ((bagnallkeep_signSure.f k).bind fun t207 => (if t207 = true then ((bagnallkeep_SecretOf.f a0).bind fun t208 => ((bagnallkeep_SecretOf.f a1).bind fun t209 => (bagnallkeep_SignApart.j0 k l3 t188 t191 bt205.1 ((t188 == t191) != (t208 == t209)) t198 t199))) else (bagnallkeep_SignApart.j0 k l3 t188 t191 bt205.1 true t198 t199))) else (bagnallkeep_SignApart.j0 k l3 t188 t191 bt205.1 true t198 t199)) else (bagnallkeep_SignApart.j0 k l3 t188 t191 bt205.1 true t198 t199)) else (bagnallkeep_SignApart.j0 k l3 t188 t191 bt205.1 true t198 t199)) else (bagnallkeep_SignApart.j0 k l3 t188 t191 bt205.1 true t198 t199)))) = some r := H
  have A12 := Aside0.mk A120
  clear A120
  replace H := Option.bind_eq_some_iff.mp H
  obtain ⟨t202, A130, H⟩ := H
  replace H : ((sign_Hash.f k t198 t202).bind fun bt205 => (if t189 = 0 then (if t192 = 0 then (if t200 = 0 then (if bt205.2 = 0 then ((bagnallkeep_signSure.f k).bind fun t207 => (if t207 = true then ((bagnallkeep_SecretOf.f a0).bind fun t208 => ((bagnallkeep_SecretOf.f a1).bind fun t209 => (bagnallkeep_SignApart.j0 k l3 t188 t191 bt205.1 ((t188 == t191) != (t208 == t209)) t198 t199))) else (bagnallkeep_SignApart.j0 k l3 t188 t191 bt205.1 true t198 t199))) else (bagnallkeep_SignApart.j0 k l3 t188 t191 bt205.1 true t198 t199)) else (bagnallkeep_SignApart.j0 k l3 t188 t191 bt205.1 true t198 t199)) else (bagnallkeep_SignApart.j0 k l3 t188 t191 bt205.1 true t198 t199)) else (bagnallkeep_SignApart.j0 k l3 t188 t191 bt205.1 true t198 t199))) = some r := H
  have A13 := Aside0.mk A130
  clear A130
  replace H := Option.bind_eq_some_iff.mp H
  obtain ⟨⟨t205, t206⟩, A140, H⟩ := H
  replace H : (if t189 = 0 then (if t192 = 0 then (if t200 = 0 then (if t206 = 0 then ((bagnallkeep_signSure.f k).bind fun t207 => (if t207 = true then ((bagnallkeep_SecretOf.f a0).bind fun t208 => ((bagnallkeep_SecretOf.f a1).bind fun t209 => (bagnallkeep_SignApart.j0 k l3 t188 t191 t205 ((t188 == t191) != (t208 == t209)) t198 t199))) else (bagnallkeep_SignApart.j0 k l3 t188 t191 t205 true t198 t199))) else (bagnallkeep_SignApart.j0 k l3 t188 t191 t205 true t198 t199)) else (bagnallkeep_SignApart.j0 k l3 t188 t191 t205 true t198 t199)) else (bagnallkeep_SignApart.j0 k l3 t188 t191 t205 true t198 t199)) else (bagnallkeep_SignApart.j0 k l3 t188 t191 t205 true t198 t199)) = some r := H
  have A14 := Aside0.mk A140
  clear A140
  have HC15 := Aside0.mk H
  clear H
  go_enter Try.func6, Try.ntmps6
  try go_wp2_with (first | ((with_reducible refine gate_callee (f := 18) rfl ?_); refine goesL_ (some 19) rfl rfl Try.func18 (by kernel_rfl) rfl #[.int .i64 a0] rfl (by (try simp only [List.map_toArray, List.map_cons, List.map_nil]); first | done | rfl | (simp only [List.length_drop, List.length_take]; rfl)) ?_; (with_reducible refine (bagnallkeep_SecretOf.calls a0 t187 _ A5.out).mono ?_); rintro e w' ⟨rfl, ⟨nd, rfl⟩⟩; refine ⟨_, rfl, ?_⟩) | ((with_reducible refine gate_callee (f := 19) rfl ?_); refine goesL_ (some 20) rfl rfl Try.func19 (by kernel_rfl) rfl #[.int .i64 t187] rfl (by (try simp only [List.map_toArray, List.map_cons, List.map_nil]); first | done | rfl | (simp only [List.length_drop, List.length_take]; rfl)) ?_; (with_reducible refine (sign_Public.calls k t187 t188 t189 _ A6.out).mono ?_); rintro e w' ⟨rfl, ⟨nd, rfl⟩⟩; refine ⟨_, rfl, ?_⟩) | ((with_reducible refine gate_callee (f := 18) rfl ?_); refine goesL_ (some 25) rfl rfl Try.func18 (by kernel_rfl) rfl #[.int .i64 a1] rfl (by (try simp only [List.map_toArray, List.map_cons, List.map_nil]); first | done | rfl | (simp only [List.length_drop, List.length_take]; rfl)) ?_; (with_reducible refine (bagnallkeep_SecretOf.calls a1 t190 _ A7.out).mono ?_); rintro e w' ⟨rfl, ⟨nd, rfl⟩⟩; refine ⟨_, rfl, ?_⟩) | ((with_reducible refine gate_callee (f := 19) rfl ?_); refine goesL_ (some 26) rfl rfl Try.func19 (by kernel_rfl) rfl #[.int .i64 t190] rfl (by (try simp only [List.map_toArray, List.map_cons, List.map_nil]); first | done | rfl | (simp only [List.length_drop, List.length_take]; rfl)) ?_; (with_reducible refine (sign_Public.calls k t190 t191 t192 _ A8.out).mono ?_); rintro e w' ⟨rfl, ⟨nd, rfl⟩⟩; refine ⟨_, rfl, ?_⟩) | ((with_reducible refine gate_callee (f := 18) rfl ?_); refine goesL_ (some 31) rfl rfl Try.func18 (by kernel_rfl) rfl #[.int .i64 a0] rfl (by (try simp only [List.map_toArray, List.map_cons, List.map_nil]); first | done | rfl | (simp only [List.length_drop, List.length_take]; rfl)) ?_; (with_reducible refine (bagnallkeep_SecretOf.calls a0 t193 _ A9.out).mono ?_); rintro e w' ⟨rfl, ⟨nd, rfl⟩⟩; refine ⟨_, rfl, ?_⟩) | ((with_reducible refine gate_callee (f := 18) rfl ?_); refine goesL_ (some 33) rfl rfl Try.func18 (by kernel_rfl) rfl #[.int .i64 a2] rfl (by (try simp only [List.map_toArray, List.map_cons, List.map_nil]); first | done | rfl | (simp only [List.length_drop, List.length_take]; rfl)) ?_; (with_reducible refine (bagnallkeep_SecretOf.calls a2 t194 _ A10.out).mono ?_); rintro e w' ⟨rfl, ⟨nd, rfl⟩⟩; refine ⟨_, rfl, ?_⟩) | ((with_reducible refine gate_callee (f := 16) rfl ?_); refine goesL_ (some 35) rfl rfl Try.func16 (by kernel_rfl) rfl #[.slice A3 l3.length c3] rfl (by (try simp only [List.map_toArray, List.map_cons, List.map_nil]); first | done | rfl | (simp only [List.length_drop, List.length_take]; rfl)) ?_; (with_reducible refine (bagnallkeep_cutBytes.calls _ _ l3 t195 _ ?side1 ?side2 A11.out).mono ?_); (case side1 => repeat (first | exact HR3.out | (with_reducible refine Kd.C_alloc ?_ _) | (with_reducible refine Kd.C_drewN ?_ _) | (with_reducible refine Kd.C_drew ?_))); (case side2 => exact HC3.out); rintro e w16 ⟨v196, rfl, ho0, hb⟩; refine ⟨_, rfl, ?_⟩; have n0_ := Aside0.mk (Kd.R_lower ho0 (below_size (by repeat (first | (with_reducible first | exact HB.out | apply below_alloc | apply pw_below_drewN | apply below_drew1) | exact HB.out)))); have n1_ := Aside0.mk (below_step (by repeat (first | (with_reducible first | exact HB.out | apply below_alloc | apply pw_below_drewN | apply below_drew1) | exact HB.out)) hb); clear HB; have HO197 := n0_; have HB := n1_; clear n0_ n1_; (try clear hb); (try clear hb2); (try clear hk); (try clear hi); (try clear ho0); obtain ⟨Ao17, co17, eo17⟩ := Kd.R_slice HO197.out; subst eo17) | ((with_reducible refine gate_callee (f := 21) rfl ?_); refine goesL_ (some 36) rfl rfl Try.func21 (by kernel_rfl) rfl #[.int .i64 t193, .int .i64 t194, .slice Ao17 t195.length co17] rfl (by (try simp only [List.map_toArray, List.map_cons, List.map_nil]); first | done | rfl | (simp only [List.length_drop, List.length_take]; rfl)) ?_; (with_reducible refine (sign_Make.calls k t193 t194 _ _ t195 t198 t199 t200 _ ?side1 ?side2 A12.out).mono ?_); (case side1 => repeat (first | exact (Kd.R_reads' HO197.out).2.2 | (with_reducible refine Kd.C_alloc ?_ _) | (with_reducible refine Kd.C_drewN ?_ _) | (with_reducible refine Kd.C_drew ?_))); (case side2 => exact (Kd.R_reads' HO197.out).2.1); rintro e w18 ⟨rfl, hb⟩; refine ⟨_, rfl, ?_⟩; have n0_ := Aside0.mk (Kd.R_below (by (with_reducible repeat (first | apply Kd.R_alloc | apply Kd.R_drewN | apply Kd.R_drew)); exact HO197.out) hb); have n1_ := Aside0.mk (below_step (by repeat (first | (with_reducible first | exact HB.out | apply below_alloc | apply pw_below_drewN | apply below_drew1) | exact HB.out)) hb); clear HO197; clear HB; have HO197 := n0_; have HB := n1_; clear n0_ n1_; (try clear hb); (try clear hb2); (try clear hk); (try clear hi)) | ((with_reducible refine gate_dst (N := 13) rfl ?_); refine box_event ?hg (N := 13) ?hd (cs := #[.int .i64 0, .int .i64 0]) (t := 34) ?hr ?_; (case hd => rfl); (case hg => rfl); (case hr => first | (go_simp; done) | (go_simp; rfl)); intro gb201 hg w19 hbox hb; have n0_ := Aside0.mk (Kd.R_below (by (with_reducible repeat (first | apply Kd.R_alloc | apply Kd.R_drewN | apply Kd.R_drew)); exact HO197.out) hb); have n1_ := Aside0.mk (below_step (by repeat (first | (with_reducible first | exact HB.out | apply below_alloc | apply pw_below_drewN | apply below_drew1) | exact HB.out)) hb); have n2_ := Aside0.mk (hbox); have n3_ := Aside0.mk ((by rw [hg]; exact (below_size (by repeat (first | (with_reducible first | exact HB.out | apply below_alloc | apply pw_below_drewN | apply below_drew1) | exact HB.out))) : w.heap.size ≤ gb201)); have n4_ := Aside0.mk ((by rw [hg]; exact (below_size (by repeat (first | (with_reducible first | exact HB.out | apply below_alloc | apply pw_below_drewN | apply below_drew1) | exact HB.out))) : w.heap.size ≤ gb201)); clear HO197; clear HB; have HO197 := n0_; have HB := n1_; have BK201 := n2_; have GW201 := n3_; have GE201 := n4_; clear n0_ n1_ n2_ n3_ n4_; clear hb hbox hg; have hcz20_0 : w19.cell? ⟨gb201, 0, none⟩ = some (.int .i64 0) := (blk_cell BK201.out 0).trans rfl; have hcz20_1 : w19.cell? ⟨gb201, 1, none⟩ = some (.int .i64 0) := (blk_cell BK201.out 1).trans rfl; have hfz20_0 := blk_frozen BK201.out 0; have hfz20_1 := blk_frozen BK201.out 1))
  have n0_ : Aside0 (Kd.R (Kd.int .u8) 5 ((w19.setCell ⟨gb201, 0, none⟩ (.int .i64 t198)).setCell ⟨gb201, 1, none⟩ (.int .i64 t199)) w.heap.size (fun _ => True) (.slice Ao17 t195.length co17) t195) := ⟨by (with_reducible repeat (first | apply Kd.R_alloc | apply Kd.R_drewN | apply Kd.R_drew)); exact Kd.R_mono (Kd.R_far (p := ⟨gb201, 1, none⟩) (Kd.R_far (p := ⟨gb201, 0, none⟩) (Kd.R_types HO197.out BK201.out (by decide)) (fun _ hk => hk.2) (.int .i64 t198)) (fun _ hk => hk.2) (.int .i64 t199)) (fun _ hk => trivial)⟩
  have n1_ : Aside0 (((w19.setCell ⟨gb201, 0, none⟩ (.int .i64 t198)).setCell ⟨gb201, 1, none⟩ (.int .i64 t199)).heap[gb201]? = some (.cells #[.int .i64 t198, .int .i64 t199] 34 (0, 0))) := ⟨by (with_reducible repeat (first | refine blk_drewN ?_ _ | refine blk_drew ?_ | refine blk_alloc ?_ _)); refine blk_put (cs := #[.int .i64 t198, .int .i64 0]) ?_ 1 _ rfl; (with_reducible repeat (first | refine blk_drewN ?_ _ | refine blk_drew ?_ | refine blk_alloc ?_ _)); refine blk_put (cs := #[.int .i64 0, .int .i64 0]) ?_ 0 _ rfl; (with_reducible repeat (first | refine blk_drewN ?_ _ | refine blk_drew ?_ | refine blk_alloc ?_ _)); exact BK201.out⟩
  have n2_ : Aside0 (Below w.heap.size w ((w19.setCell ⟨gb201, 0, none⟩ (.int .i64 t198)).setCell ⟨gb201, 1, none⟩ (.int .i64 t199))) := ⟨by repeat (first | (with_reducible first | exact HB.out | apply below_alloc | apply pw_below_drewN | apply below_drew1 | refine below_set ?_ GE201.out) | exact HB.out)⟩
  (try clear HO197)
  (try clear BK201)
  (try clear HB)
  generalize ((w19.setCell ⟨gb201, 0, none⟩ (.int .i64 t198)).setCell ⟨gb201, 1, none⟩ (.int .i64 t199)) = w21 at n0_ n1_ n2_ ⊢
  have HO197 := n0_
  have BK201 := n1_
  have HB := n2_
  clear n0_ n1_ n2_
  have n0_ := Aside0.mk (Kd.R_drew HO197.out)
  have n1_ := Aside0.mk (blk_drew BK201.out)
  have n2_ := Aside0.mk (below_drew1 HB.out)
  clear HO197
  clear BK201
  clear HB
  have HO197 := n0_
  have BK201 := n1_
  have HB := n2_
  clear n0_ n1_ n2_
  refine start_ (n := 10) (S := fun w' => w'.cell? ⟨gb201, 0, none⟩ = some (.int .i64 t198) ∧ w'.cell? ⟨gb201, 1, none⟩ = some (.int .i64 t199)) (ds := []) #[false, false, false, false, false, false, false, false, false, false] (by kernel_rfl) rfl rfl ⟨(blk_cell BK201.out 0).trans rfl, (blk_cell BK201.out 1).trans rfl⟩ (fun hHeld => ?_); refine with_tabW bagnallkeep_SignApart.tab4 bagnallkeep_SignApart.bits4 (fun HT_ HW_ => ?_)
  generalize w21.drew = w22 at HO197 BK201 HB hHeld ⊢
  refine pure_ (i := 0) (N := some 40) (v := ?_) (a' := ?_) #[true, false, false, false, false, false, false, false, false, false] rfl rfl (any_of HT_.out (by kernel_rfl)) (fun _ _ _ h => h) (Or.inl ⟨by rfl, ?_⟩) ?_ ?_
  rotate_left
  · intro w'
    go_simp
    with_reducible rfl
  rotate_left
  · simp only [Act.put, List.setIfInBounds_toArray, List.set_cons_zero, List.set_cons_succ, i64_w, i32_w]
    rfl
  refine pure_ (i := 2) (N := some 42) (v := ?_) (a' := ?_) #[true, false, true, false, false, false, false, false, false, false] rfl rfl (any_of HT_.out (by kernel_rfl)) (fun _ _ _ h => h) (Or.inl ⟨by rfl, ?_⟩) ?_ ?_
  rotate_left
  · intro w'
    go_simp
    with_reducible rfl
  rotate_left
  · simp only [Act.put, List.setIfInBounds_toArray, List.set_cons_zero, List.set_cons_succ, i64_w, i32_w]
    rfl
  refine take_ (i := 1) (N := some 41) (v := ?_) (a' := ?_) #[true, true, true, false, false, false, false, false, false, false] rfl rfl (take_ofW HT_.out HW_.out (by kernel_rfl)) (fun _ _ _ h => h) (Or.inl ⟨by rfl, ?_⟩) hHeld ?_ ?_
  rotate_left
  · rintro w' ⟨s0, s1⟩
    go_simp
    with_reducible rfl
  rotate_left
  · simp only [Act.put, List.setIfInBounds_toArray, List.set_cons_zero, List.set_cons_succ, i64_w, i32_w]
    rfl
  refine one_ (i := 3) (N := some 43) #[true, true, true, true, false, false, false, false, false, false] rfl rfl (one_of HT_.out (by kernel_rfl)) (by decide) (fun K hK => ?_)
  refine goes_ Try.func16 (by kernel_rfl) rfl #[.slice A3 l3.length c3] (by rfl) rfl rfl (by (try simp only [List.map_toArray, List.map_cons, List.map_nil]); first | done | rfl | (simp only [List.length_drop, List.length_take]; rfl)) ?_
  with_reducible refine (bagnallkeep_cutBytes.calls _ _ l3 t202 _ ?side1 ?side2 A13.out).mono ?_
  (case side1 => repeat (first | exact (Kd.C_below HR3.out HB.out) | (with_reducible refine Kd.C_alloc ?_ _) | (with_reducible refine Kd.C_drewN ?_ _) | (with_reducible refine Kd.C_drew ?_)))
  (case side2 => exact HC3.out)
  rintro e w23 ⟨v203, rfl, ho0, hb⟩
  refine ⟨_, rfl, ?_⟩
  have n0_ := Aside0.mk (Kd.R_elder' (by (with_reducible repeat (first | apply Kd.R_alloc | apply Kd.R_drewN | apply Kd.R_drew)); exact HO197.out) (Kd.R_base ho0) hb)
  have n1_ := Aside0.mk (Kd.R_lower (Kd.R_new' ho0 (Kd.R_lt (by (with_reducible repeat (first | apply Kd.R_alloc | apply Kd.R_drewN | apply Kd.R_drew)); exact HO197.out))) (below_size (by repeat (first | (with_reducible first | exact HB.out | apply below_alloc | apply pw_below_drewN | apply below_drew1 | refine below_set ?_ GE201.out) | exact HB.out))))
  have n2_ := Aside0.mk (blk_below (g := gb201) (o := .cells #[.int .i64 t198, .int .i64 t199] 34 (0, 0)) (by (with_reducible repeat (first | refine blk_drewN ?_ _ | refine blk_drew ?_ | refine blk_alloc ?_ _)); exact BK201.out) hb)
  have n3_ := Aside0.mk (below_step (by repeat (first | (with_reducible first | exact HB.out | apply below_alloc | apply pw_below_drewN | apply below_drew1 | refine below_set ?_ GE201.out) | exact HB.out)) hb)
  clear HO197
  clear BK201
  clear HB
  have HO197 := n0_
  have HO204 := n1_
  have BK201 := n2_
  have HB := n3_
  clear n0_ n1_ n2_ n3_
  (try clear hb)
  (try clear hb2)
  (try clear hk)
  (try clear hi)
  (try clear ho0)
  obtain ⟨Ao24, co24, eo24⟩ := Kd.R_slice HO204.out
  (first | subst eo24 | (injection eo24 with f1_ f2_ f3_; have f4_ := f1_.symm; have f5_ := f3_.symm; clear f1_ f2_ f3_; subst f4_; subst f5_))
  refine hK.out _ _ ⟨(blk_cell BK201.out 0).trans rfl, (blk_cell BK201.out 1).trans rfl⟩ (fun hHeld => ?_)
  clear hK K
  refine norm_ (a' := ?_) ?_ ?_
  rotate_left
  · show Act.put _ (some 43) _ = _
    simp only [Act.put, List.setIfInBounds_toArray, List.set_cons_zero, List.set_cons_succ, i64_w, i32_w]
    rfl
  refine one_ (i := 4) (N := some 44) #[true, true, true, true, true, false, false, false, false, false] rfl rfl (one_of HT_.out (by kernel_rfl)) (by decide) (fun K hK => ?_)
  refine goes_ Try.func17 (by kernel_rfl) rfl #[.int .i64 t198, .slice Ao24 t202.length co24] (by rfl) rfl rfl (by (try simp only [List.map_toArray, List.map_cons, List.map_nil]); first | done | rfl | (simp only [List.length_drop, List.length_take]; rfl)) ?_
  with_reducible refine (sign_Hash.calls k t198 _ _ t202 t205 t206 _ ?side1 ?side2 A14.out).mono ?_
  (case side1 => repeat (first | exact (Kd.R_reads' HO204.out).2.2 | (with_reducible refine Kd.C_alloc ?_ _) | (with_reducible refine Kd.C_drewN ?_ _) | (with_reducible refine Kd.C_drew ?_)))
  (case side2 => exact (Kd.R_reads' HO204.out).2.1)
  rintro e w' ⟨rfl, ⟨nd, rfl⟩⟩
  refine ⟨_, rfl, ?_⟩
  refine hK.out _ _ ⟨(blk_cell BK201.out 0).trans rfl, (blk_cell BK201.out 1).trans rfl⟩ (fun hHeld => ?_)
  clear hK K
  refine norm_ (a' := ?_) ?_ ?_
  rotate_left
  · show Act.put _ (some 44) _ = _
    simp only [Act.put, List.setIfInBounds_toArray, List.set_cons_zero, List.set_cons_succ, i64_w, i32_w]
    rfl
  refine pure_ (i := 5) (N := some 39) (v := ?_) (a' := ?_) #[true, true, true, true, true, true, false, false, false, false] rfl rfl (any_of HT_.out (by kernel_rfl)) (fun _ _ _ h => h) (Or.inl ⟨by rfl, ?_⟩) ?_ ?_
  rotate_left
  · intro w'
    go_simp
    with_reducible rfl
  rotate_left
  · simp only [Act.put, List.setIfInBounds_toArray, List.set_cons_zero, List.set_cons_succ, i64_w, i32_w]
    rfl
  refine pure_ (i := 6) (N := some 45) (v := ?_) (a' := ?_) #[true, true, true, true, true, true, true, false, false, false] rfl rfl (any_of HT_.out (by kernel_rfl)) (fun _ _ _ h => h) (Or.inl ⟨by rfl, ?_⟩) ?_ ?_
  rotate_left
  · intro w'
    go_simp
    with_reducible rfl
  rotate_left
  · simp only [Act.put, List.setIfInBounds_toArray, List.set_cons_zero, List.set_cons_succ, i64_w, i32_w]
    rfl
  refine pure_ (i := 7) (N := some 46) (v := ?_) (a' := ?_) #[true, true, true, true, true, true, true, true, false, false] rfl rfl (any_of HT_.out (by kernel_rfl)) (fun _ _ _ h => h) (Or.inl ⟨by rfl, ?_⟩) ?_ ?_
  rotate_left
  · intro w'
    go_simp
    with_reducible rfl
  rotate_left
  · simp only [Act.put, List.setIfInBounds_toArray, List.set_cons_zero, List.set_cons_succ, i64_w, i32_w]
    rfl
  refine pure_ (i := 8) (N := some 15) (v := ?_) (a' := ?_) #[true, true, true, true, true, true, true, true, true, false] rfl rfl (any_of HT_.out (by kernel_rfl)) (fun _ _ _ h => h) (Or.inl ⟨by rfl, ?_⟩) ?_ ?_
  rotate_left
  · intro w'
    go_simp
    with_reducible rfl
  rotate_left
  · simp only [Act.put, List.setIfInBounds_toArray, List.set_cons_zero, List.set_cons_succ, i64_w, i32_w]
    rfl
  refine pure_ (i := 9) (N := some 16) (v := ?_) (a' := ?_) #[true, true, true, true, true, true, true, true, true, true] rfl rfl (any_of HT_.out (by kernel_rfl)) (fun _ _ _ h => h) (Or.inl ⟨by rfl, ?_⟩) ?_ ?_
  rotate_left
  · intro w'
    go_simp
    with_reducible rfl
  rotate_left
  · simp only [Act.put, List.setIfInBounds_toArray, List.set_cons_zero, List.set_cons_succ, i64_w, i32_w]
    rfl
  refine done_ (done_of HT_.out (by kernel_rfl)) ?_
  go_upto_region 5 with (fail)
  go_cut [75] (fun v75 wc => ∃ (kq : Nat) (x75_14 : Bool), v75 = .bool x75_14 ∧ Aside0 (bagnallkeep_SignApart.j0 kq l3 t188 t191 t205 x75_14 t198 t199 = some r) ∧ Aside0 (kq ≤ k) ∧ Aside0 (wc.heap[gb201]? = some (.cells #[.int .i64 t198, .int .i64 t199] 34 (0, 0))) ∧ Aside0 (Below w.heap.size w wc))
  case first =>
    have H := HC15.out
    clear HC15
    by_cases c25 : t189 = 0
    · rw [if_pos c25] at H
      have c25b0 : (t189 == 0) = true := beq_iff_eq.mpr c25
      have c25b1 : (t189 != 0) = false := bne_eq_false_iff_eq.mpr c25
      clear c25
      (first | rw [c25b0] | (simp only [i64_w, i32_w]; rw [c25b0]) | skip)
      by_cases c26 : t192 = 0
      · rw [if_pos c26] at H
        have c26b0 : (t192 == 0) = true := beq_iff_eq.mpr c26
        have c26b1 : (t192 != 0) = false := bne_eq_false_iff_eq.mpr c26
        clear c26
        by_cases c27 : t200 = 0
        · rw [if_pos c27] at H
          have c27b0 : (t200 == 0) = true := beq_iff_eq.mpr c27
          have c27b1 : (t200 != 0) = false := bne_eq_false_iff_eq.mpr c27
          clear c27
          by_cases c28 : t206 = 0
          · rw [if_pos c28] at H
            have c28b0 : (t206 == 0) = true := beq_iff_eq.mpr c28
            have c28b1 : (t206 != 0) = false := bne_eq_false_iff_eq.mpr c28
            clear c28
            replace H := Option.bind_eq_some_iff.mp H
            obtain ⟨t207, A290, H⟩ := H
            replace H : (if t207 = true then ((bagnallkeep_SecretOf.f a0).bind fun t208 => ((bagnallkeep_SecretOf.f a1).bind fun t209 => (bagnallkeep_SignApart.j0 k l3 t188 t191 t205 ((t188 == t191) != (t208 == t209)) t198 t199))) else (bagnallkeep_SignApart.j0 k l3 t188 t191 t205 true t198 t199)) = some r := H
            have A29 := Aside0.mk A290
            clear A290
            by_cases c30 : t207 = true
            · subst c30
              have H1 : ((bagnallkeep_SecretOf.f a0).bind fun t208 => ((bagnallkeep_SecretOf.f a1).bind fun t209 => (bagnallkeep_SignApart.j0 k l3 t188 t191 t205 ((t188 == t191) != (t208 == t209)) t198 t199))) = some r := by rw [if_pos rfl] at H; exact H
              clear H
              have H := H1
              clear H1
              replace H := Option.bind_eq_some_iff.mp H
              obtain ⟨t208, A310, H⟩ := H
              replace H : ((bagnallkeep_SecretOf.f a1).bind fun t209 => (bagnallkeep_SignApart.j0 k l3 t188 t191 t205 ((t188 == t191) != (t208 == t209)) t198 t199)) = some r := H
              have A31 := Aside0.mk A310
              clear A310
              replace H := Option.bind_eq_some_iff.mp H
              obtain ⟨t209, A320, H⟩ := H
              replace H : (bagnallkeep_SignApart.j0 k l3 t188 t191 t205 ((t188 == t191) != (t208 == t209)) t198 t199) = some r := H
              have A32 := Aside0.mk A320
              clear A320
              have H' := Aside0.mk H
              clear H
              go_wp2_with (first | (go_at_call 20; (with_reducible refine (bagnallkeep_signSure.calls k  true _ A29.out).mono ?_); rintro e w33 ⟨rfl, hb⟩; have n0_ := Aside0.mk (Kd.R_below (by (with_reducible repeat (first | apply Kd.R_alloc | apply Kd.R_drewN | apply Kd.R_drew)); exact HO197.out) hb); have n1_ := Aside0.mk (Kd.R_below (by (with_reducible repeat (first | apply Kd.R_alloc | apply Kd.R_drewN | apply Kd.R_drew)); exact HO204.out) hb); have n2_ := Aside0.mk (blk_below (g := gb201) (o := .cells #[.int .i64 t198, .int .i64 t199] 34 (0, 0)) (by (with_reducible repeat (first | refine blk_drewN ?_ _ | refine blk_drew ?_ | refine blk_alloc ?_ _)); exact BK201.out) hb); have n3_ := Aside0.mk (below_step (by repeat (first | (with_reducible first | exact HB.out | apply below_alloc | apply pw_below_drewN | apply below_drew1 | refine below_set ?_ GE201.out) | exact HB.out)) hb); clear HO197; clear HO204; clear BK201; clear HB; have HO197 := n0_; have HO204 := n1_; have BK201 := n2_; have HB := n3_; clear n0_ n1_ n2_ n3_; (try clear hb); (try clear hb2); (try clear hk); (try clear hi)) | (go_at_call 18; (with_reducible refine (bagnallkeep_SecretOf.calls a0 t208 _ A31.out).mono ?_); rintro e w' ⟨rfl, ⟨nd, rfl⟩⟩) | (go_at_call 18; (with_reducible refine (bagnallkeep_SecretOf.calls a1 t209 _ A32.out).mono ?_); rintro e w' ⟨rfl, ⟨nd, rfl⟩⟩))
              go_meet
              case rel => exact ⟨_, (((t188 == t191) != (t208 == t209))), (by first | rfl | (simp; done) | (simp [*]; done)), H', ⟨by first | omega | exact Nat.le_refl _⟩, ⟨by (with_reducible repeat (first | refine blk_drewN ?_ _ | refine blk_drew ?_ | refine blk_alloc ?_ _)); exact BK201.out⟩, ⟨by repeat (first | (with_reducible first | exact HB.out | apply below_alloc | apply pw_below_drewN | apply below_drew1 | refine below_set ?_ GE201.out) | exact HB.out)⟩⟩
            · replace c30 := Bool.eq_false_iff.mpr c30
              subst c30
              have H1 : (bagnallkeep_SignApart.j0 k l3 t188 t191 t205 true t198 t199) = some r := by rw [if_neg (show ¬ (false = true) by decide)] at H; exact H
              clear H
              have H := H1
              clear H1
              have H' := Aside0.mk H
              clear H
              go_wp2_with (first | (go_at_call 20; (with_reducible refine (bagnallkeep_signSure.calls k  false _ A29.out).mono ?_); rintro e w34 ⟨rfl, hb⟩; have n0_ := Aside0.mk (Kd.R_below (by (with_reducible repeat (first | apply Kd.R_alloc | apply Kd.R_drewN | apply Kd.R_drew)); exact HO197.out) hb); have n1_ := Aside0.mk (Kd.R_below (by (with_reducible repeat (first | apply Kd.R_alloc | apply Kd.R_drewN | apply Kd.R_drew)); exact HO204.out) hb); have n2_ := Aside0.mk (blk_below (g := gb201) (o := .cells #[.int .i64 t198, .int .i64 t199] 34 (0, 0)) (by (with_reducible repeat (first | refine blk_drewN ?_ _ | refine blk_drew ?_ | refine blk_alloc ?_ _)); exact BK201.out) hb); have n3_ := Aside0.mk (below_step (by repeat (first | (with_reducible first | exact HB.out | apply below_alloc | apply pw_below_drewN | apply below_drew1 | refine below_set ?_ GE201.out) | exact HB.out)) hb); clear HO197; clear HO204; clear BK201; clear HB; have HO197 := n0_; have HO204 := n1_; have BK201 := n2_; have HB := n3_; clear n0_ n1_ n2_ n3_; (try clear hb); (try clear hb2); (try clear hk); (try clear hi)))
              go_meet
              case rel => exact ⟨_, (true), (by first | rfl | (simp; done) | (simp [*]; done)), H', ⟨by first | omega | exact Nat.le_refl _⟩, ⟨by (with_reducible repeat (first | refine blk_drewN ?_ _ | refine blk_drew ?_ | refine blk_alloc ?_ _)); exact BK201.out⟩, ⟨by repeat (first | (with_reducible first | exact HB.out | apply below_alloc | apply pw_below_drewN | apply below_drew1 | refine below_set ?_ GE201.out) | exact HB.out)⟩⟩
          · rw [if_neg c28] at H
            have c28b0 : (t206 == 0) = false := beq_eq_false_iff_ne.mpr c28
            have c28b1 : (t206 != 0) = true := bne_iff_ne.mpr c28
            have H' := Aside0.mk H
            clear H
            go_wp2
            go_meet
            case rel => exact ⟨_, (true), (by first | rfl | (simp; done) | (simp [*]; done)), H', ⟨by first | omega | exact Nat.le_refl _⟩, ⟨by (with_reducible repeat (first | refine blk_drewN ?_ _ | refine blk_drew ?_ | refine blk_alloc ?_ _)); exact BK201.out⟩, ⟨by repeat (first | (with_reducible first | exact HB.out | apply below_alloc | apply pw_below_drewN | apply below_drew1 | refine below_set ?_ GE201.out) | exact HB.out)⟩⟩
        · rw [if_neg c27] at H
          have c27b0 : (t200 == 0) = false := beq_eq_false_iff_ne.mpr c27
          have c27b1 : (t200 != 0) = true := bne_iff_ne.mpr c27
          have H' := Aside0.mk H
          clear H
          go_wp2
          go_meet
          case rel => exact ⟨_, (true), (by first | rfl | (simp; done) | (simp [*]; done)), H', ⟨by first | omega | exact Nat.le_refl _⟩, ⟨by (with_reducible repeat (first | refine blk_drewN ?_ _ | refine blk_drew ?_ | refine blk_alloc ?_ _)); exact BK201.out⟩, ⟨by repeat (first | (with_reducible first | exact HB.out | apply below_alloc | apply pw_below_drewN | apply below_drew1 | refine below_set ?_ GE201.out) | exact HB.out)⟩⟩
      · rw [if_neg c26] at H
        have c26b0 : (t192 == 0) = false := beq_eq_false_iff_ne.mpr c26
        have c26b1 : (t192 != 0) = true := bne_iff_ne.mpr c26
        have H' := Aside0.mk H
        clear H
        go_wp2
        go_meet
        case rel => exact ⟨_, (true), (by first | rfl | (simp; done) | (simp [*]; done)), H', ⟨by first | omega | exact Nat.le_refl _⟩, ⟨by (with_reducible repeat (first | refine blk_drewN ?_ _ | refine blk_drew ?_ | refine blk_alloc ?_ _)); exact BK201.out⟩, ⟨by repeat (first | (with_reducible first | exact HB.out | apply below_alloc | apply pw_below_drewN | apply below_drew1 | refine below_set ?_ GE201.out) | exact HB.out)⟩⟩
    · rw [if_neg c25] at H
      have c25b0 : (t189 == 0) = false := beq_eq_false_iff_ne.mpr c25
      have c25b1 : (t189 != 0) = true := bne_iff_ne.mpr c25
      (first | rw [c25b0] | (simp only [i64_w, i32_w]; rw [c25b0]) | skip)
      have H' := Aside0.mk H
      clear H
      go_wp2
      go_meet
      case rel => exact ⟨_, (true), (by first | rfl | (simp; done) | (simp [*]; done)), H', ⟨by first | omega | exact Nat.le_refl _⟩, ⟨by (with_reducible repeat (first | refine blk_drewN ?_ _ | refine blk_drew ?_ | refine blk_alloc ?_ _)); exact BK201.out⟩, ⟨by repeat (first | (with_reducible first | exact HB.out | apply below_alloc | apply pw_below_drewN | apply below_drew1 | refine below_set ?_ GE201.out) | exact HB.out)⟩⟩
  case rest =>
    clear HC15
    try clear c1
    try clear c2
    try clear p2
    try clear c3
    try clear c6
    try clear c16
    try clear c17
    try clear c18
    try clear c19
    try clear c21
    try clear c25
    try clear c25b0
    try clear c25b1
    try clear c26
    try clear c26b0
    try clear c26b1
    try clear c27
    try clear c27b0
    try clear c27b1
    try clear c28
    try clear c28b0
    try clear c28b1
    try clear c30
    try clear hcz20_0
    try clear hcz20_1
    try clear hfz20_0
    try clear hfz20_1
    obtain ⟨kq, x75_14, rfl, HA, HJ14, BK201, HB⟩ := hcut
    cases kq with
    | zero => exact absurd HA.out (by simp [bagnallkeep_SignApart.j0])
    | succ kj14 =>
      have H := HA.out
      clear HA
      simp only [bagnallkeep_SignApart.j0] at H
      by_cases c35 : x75_14 = true
      · subst c35
        have H1 : (some false) = some r := by rw [if_pos rfl] at H; exact H
        clear H
        have H := H1
        clear H1
        obtain rfl := Option.some.inj H
        go_wp2
        go_ret
        exact ⟨by first | rfl | (simp [errW_none, errW_some] <;> rfl) | (simp [*, errW_none, errW_some] <;> rfl), by repeat (first | (with_reducible first | exact HB.out | apply below_alloc | apply pw_below_drewN | apply below_drew1 | refine below_set ?_ GE201.out) | exact HB.out)⟩
      · replace c35 := Bool.eq_false_iff.mpr c35
        subst c35
        have H1 : ((bagnallkeep_cutBytes.f l3).bind fun t210 => ((sign_Check.f kj14 t191 t210 t198 t199).bind fun t213 => (if t188 = t191 then (some ((t213 == 0) == true)) else (some ((t213 == 0) == (t205 == 0)))))) = some r := by rw [if_neg (show ¬ (false = true) by decide)] at H; exact H
        clear H
        have H := H1
        clear H1
        replace H := Option.bind_eq_some_iff.mp H
        obtain ⟨t210, A360, H⟩ := H
        replace H : ((sign_Check.f kj14 t191 t210 t198 t199).bind fun t213 => (if t188 = t191 then (some ((t213 == 0) == true)) else (some ((t213 == 0) == (t205 == 0))))) = some r := H
        have A36 := Aside0.mk A360
        clear A360
        replace H := Option.bind_eq_some_iff.mp H
        obtain ⟨t213, A370, H⟩ := H
        replace H : (if t188 = t191 then (some ((t213 == 0) == true)) else (some ((t213 == 0) == (t205 == 0)))) = some r := H
        have A37 := Aside0.mk A370
        clear A370
        by_cases c38 : t188 = t191
        · rw [if_pos c38] at H
          have c38b0 : (t188 == t191) = true := beq_iff_eq.mpr c38
          have c38b1 : (t188 != t191) = false := bne_eq_false_iff_eq.mpr c38
          clear c38
          obtain rfl := Option.some.inj H
          try go_wp2
          have n0_ := Aside0.mk (blk_drew BK201.out)
          have n1_ := Aside0.mk (below_drew1 HB.out)
          clear BK201
          clear HB
          have BK201 := n0_
          have HB := n1_
          clear n0_ n1_
          refine start_ (n := 15) (S := fun w' => w'.cell? ⟨gb201, 0, none⟩ = some (.int .i64 t198) ∧ w'.cell? ⟨gb201, 1, none⟩ = some (.int .i64 t199)) (ds := []) #[false, false, false, false, false, false, false, false, false, false, false, false, false, false, false] (by kernel_rfl) rfl rfl ⟨(blk_cell BK201.out 0).trans rfl, (blk_cell BK201.out 1).trans rfl⟩ (fun hHeld => ?_); refine with_tabW bagnallkeep_SignApart.tab7 bagnallkeep_SignApart.bits7 (fun HT_ HW_ => ?_)
          generalize wc.drew = w39 at BK201 HB hHeld ⊢
          refine pure_ (i := 0) (N := some 76) (v := ?_) (a' := ?_) #[true, false, false, false, false, false, false, false, false, false, false, false, false, false, false] rfl rfl (any_of HT_.out (by kernel_rfl)) (fun _ _ _ h => h) (Or.inl ⟨by rfl, ?_⟩) ?_ ?_
          rotate_left
          · intro w'
            go_simp
            with_reducible rfl
          rotate_left
          · simp only [Act.put, List.setIfInBounds_toArray, List.set_cons_zero, List.set_cons_succ, i64_w, i32_w]
            rfl
          refine pure_ (i := 1) (N := some 77) (v := ?_) (a' := ?_) #[true, true, false, false, false, false, false, false, false, false, false, false, false, false, false] rfl rfl (any_of HT_.out (by kernel_rfl)) (fun _ _ _ h => h) (Or.inl ⟨by rfl, ?_⟩) ?_ ?_
          rotate_left
          · intro w'
            go_simp
            with_reducible rfl
          rotate_left
          · simp only [Act.put, List.setIfInBounds_toArray, List.set_cons_zero, List.set_cons_succ, i64_w, i32_w]
            rfl
          refine pure_ (i := 6) (N := some 82) (v := ?_) (a' := ?_) #[true, true, false, false, false, false, true, false, false, false, false, false, false, false, false] rfl rfl (any_of HT_.out (by kernel_rfl)) (fun _ _ _ h => h) (Or.inl ⟨by rfl, ?_⟩) ?_ ?_
          rotate_left
          · intro w'
            go_simp
            with_reducible rfl
          rotate_left
          · simp only [Act.put, List.setIfInBounds_toArray, List.set_cons_zero, List.set_cons_succ, i64_w, i32_w]
            rfl
          refine pure_ (i := 7) (N := some 83) (v := ?_) (a' := ?_) #[true, true, false, false, false, false, true, true, false, false, false, false, false, false, false] rfl rfl (any_of HT_.out (by kernel_rfl)) (fun _ _ _ h => h) (Or.inl ⟨by rfl, ?_⟩) ?_ ?_
          rotate_left
          · intro w'
            go_simp
            with_reducible rfl
          rotate_left
          · simp only [Act.put, List.setIfInBounds_toArray, List.set_cons_zero, List.set_cons_succ, i64_w, i32_w]
            rfl
          refine pure_ (i := 8) (N := some 84) (v := ?_) (a' := ?_) #[true, true, false, false, false, false, true, true, true, false, false, false, false, false, false] rfl rfl (any_of HT_.out (by kernel_rfl)) (fun _ _ _ h => h) (Or.inl ⟨by rfl, ?_⟩) ?_ ?_
          rotate_left
          · intro w'
            go_simp
            with_reducible rfl
          rotate_left
          · simp only [Act.put, List.setIfInBounds_toArray, List.set_cons_zero, List.set_cons_succ, i64_w, i32_w]
            rfl
          refine take_ (i := 3) (N := some 79) (v := ?_) (a' := ?_) #[true, true, false, true, false, false, true, true, true, false, false, false, false, false, false] rfl rfl (take_ofW HT_.out HW_.out (by kernel_rfl)) (fun _ _ _ h => h) (Or.inl ⟨by rfl, ?_⟩) hHeld ?_ ?_
          rotate_left
          · rintro w' ⟨s0, s1⟩
            go_simp
            with_reducible rfl
          rotate_left
          · simp only [Act.put, List.setIfInBounds_toArray, List.set_cons_zero, List.set_cons_succ, i64_w, i32_w]
            rfl
          refine one_ (i := 2) (N := some 78) #[true, true, true, true, false, false, true, true, true, false, false, false, false, false, false] rfl rfl (one_of HT_.out (by kernel_rfl)) (by decide) (fun K hK => ?_)
          refine goes_ Try.func16 (by kernel_rfl) rfl #[.slice A3 l3.length c3] (by rfl) rfl rfl (by (try simp only [List.map_toArray, List.map_cons, List.map_nil]); first | done | rfl | (simp only [List.length_drop, List.length_take]; rfl)) ?_
          with_reducible refine (bagnallkeep_cutBytes.calls _ _ l3 t210 _ ?side1 ?side2 A36.out).mono ?_
          (case side1 => repeat (first | exact (Kd.C_below HR3.out HB.out) | (with_reducible refine Kd.C_alloc ?_ _) | (with_reducible refine Kd.C_drewN ?_ _) | (with_reducible refine Kd.C_drew ?_)))
          (case side2 => exact HC3.out)
          rintro e w40 ⟨v211, rfl, ho0, hb⟩
          refine ⟨_, rfl, ?_⟩
          have n0_ := Aside0.mk (Kd.R_lower ho0 (below_size (by repeat (first | (with_reducible first | exact HB.out | apply below_alloc | apply pw_below_drewN | apply below_drew1 | refine below_set ?_ GE201.out) | exact HB.out))))
          have n1_ := Aside0.mk (blk_below (g := gb201) (o := .cells #[.int .i64 t198, .int .i64 t199] 34 (0, 0)) (by (with_reducible repeat (first | refine blk_drewN ?_ _ | refine blk_drew ?_ | refine blk_alloc ?_ _)); exact BK201.out) hb)
          have n2_ := Aside0.mk (below_step (by repeat (first | (with_reducible first | exact HB.out | apply below_alloc | apply pw_below_drewN | apply below_drew1 | refine below_set ?_ GE201.out) | exact HB.out)) hb)
          clear BK201
          clear HB
          have HO212 := n0_
          have BK201 := n1_
          have HB := n2_
          clear n0_ n1_ n2_
          (try clear hb)
          (try clear hb2)
          (try clear hk)
          (try clear hi)
          (try clear ho0)
          obtain ⟨Ao41, co41, eo41⟩ := Kd.R_slice HO212.out
          (first | subst eo41 | (injection eo41 with f1_ f2_ f3_; have f4_ := f1_.symm; have f5_ := f3_.symm; clear f1_ f2_ f3_; subst f4_; subst f5_))
          refine hK.out _ _ ⟨(blk_cell BK201.out 0).trans rfl, (blk_cell BK201.out 1).trans rfl⟩ (fun hHeld => ?_)
          clear hK K
          refine norm_ (a' := ?_) ?_ ?_
          rotate_left
          · show Act.put _ (some 78) _ = _
            simp only [Act.put, List.setIfInBounds_toArray, List.set_cons_zero, List.set_cons_succ, i64_w, i32_w]
            rfl
          refine one_ (i := 4) (N := some 80) #[true, true, true, true, true, false, true, true, true, false, false, false, false, false, false] rfl rfl (one_of HT_.out (by kernel_rfl)) (by decide) (fun K hK => ?_)
          refine goes_ Try.func22 (by kernel_rfl) rfl #[.int .i64 t191, .slice Ao41 t210.length co41, .agg #[.int .i64 t198, .int .i64 t199]] (by rfl) rfl rfl (by (try simp only [List.map_toArray, List.map_cons, List.map_nil]); first | done | rfl | (simp only [List.length_drop, List.length_take]; rfl)) ?_
          with_reducible refine (sign_Check.calls kj14 t191 _ _ t210 t198 t199 t213 _ ?side1 ?side2 A37.out).mono ?_
          (case side1 => repeat (first | exact (Kd.R_reads' HO212.out).2.2 | (with_reducible refine Kd.C_alloc ?_ _) | (with_reducible refine Kd.C_drewN ?_ _) | (with_reducible refine Kd.C_drew ?_)))
          (case side2 => exact (Kd.R_reads' HO212.out).2.1)
          rintro e w42 ⟨rfl, hb⟩
          refine ⟨_, rfl, ?_⟩
          have n0_ := Aside0.mk (Kd.R_below (by (with_reducible repeat (first | apply Kd.R_alloc | apply Kd.R_drewN | apply Kd.R_drew)); exact HO212.out) hb)
          have n1_ := Aside0.mk (blk_below (g := gb201) (o := .cells #[.int .i64 t198, .int .i64 t199] 34 (0, 0)) (by (with_reducible repeat (first | refine blk_drewN ?_ _ | refine blk_drew ?_ | refine blk_alloc ?_ _)); exact BK201.out) hb)
          have n2_ := Aside0.mk (below_step (by repeat (first | (with_reducible first | exact HB.out | apply below_alloc | apply pw_below_drewN | apply below_drew1 | refine below_set ?_ GE201.out) | exact HB.out)) hb)
          clear HO212
          clear BK201
          clear HB
          have HO212 := n0_
          have BK201 := n1_
          have HB := n2_
          clear n0_ n1_ n2_
          (try clear hb)
          (try clear hb2)
          (try clear hk)
          (try clear hi)
          refine hK.out _ _ ⟨(blk_cell BK201.out 0).trans rfl, (blk_cell BK201.out 1).trans rfl⟩ (fun hHeld => ?_)
          clear hK K
          refine norm_ (a' := ?_) ?_ ?_
          rotate_left
          · show Act.put _ (some 80) _ = _
            simp only [Act.put, List.setIfInBounds_toArray, List.set_cons_zero, List.set_cons_succ, i64_w, i32_w]
            rfl
          refine pure_ (i := 5) (N := some 81) (v := ?_) (a' := ?_) #[true, true, true, true, true, true, true, true, true, false, false, false, false, false, false] rfl rfl (any_of HT_.out (by kernel_rfl)) (fun _ _ _ h => h) (Or.inl ⟨by rfl, ?_⟩) ?_ ?_
          rotate_left
          · intro w'
            go_simp
            with_reducible rfl
          rotate_left
          · simp only [Act.put, List.setIfInBounds_toArray, List.set_cons_zero, List.set_cons_succ, i64_w, i32_w]
            rfl
          refine pure_ (i := 9) (N := some 85) (v := ?_) (a' := ?_) #[true, true, true, true, true, true, true, true, true, true, false, false, false, false, false] rfl rfl (any_of HT_.out (by kernel_rfl)) (fun _ _ _ h => h) (Or.inl ⟨by rfl, ?_⟩) ?_ ?_
          rotate_left
          · intro w'
            go_simp
            with_reducible rfl
          rotate_left
          · simp only [Act.put, List.setIfInBounds_toArray, List.set_cons_zero, List.set_cons_succ, i64_w, i32_w]
            rfl
          refine pure_ (i := 10) (N := some 86) (v := undef) (a' := ?_) #[true, true, true, true, true, true, true, true, true, true, true, false, false, false, false] rfl rfl (any_of HT_.out (by kernel_rfl)) (fun _ _ _ h => h) (Or.inr ⟨by rfl, rfl⟩) ?_ ?_
          rotate_left
          · simp only [Act.put, List.setIfInBounds_toArray, List.set_cons_zero, List.set_cons_succ, i64_w, i32_w]
            rfl
          refine pure_ (i := 11) (N := some 87) (v := undef) (a' := ?_) #[true, true, true, true, true, true, true, true, true, true, true, true, false, false, false] rfl rfl (any_of HT_.out (by kernel_rfl)) (fun _ _ _ h => h) (Or.inr ⟨by rfl, rfl⟩) ?_ ?_
          rotate_left
          · simp only [Act.put, List.setIfInBounds_toArray, List.set_cons_zero, List.set_cons_succ, i64_w, i32_w]
            rfl
          refine pure_ (i := 12) (N := some 88) (v := ?_) (a' := ?_) #[true, true, true, true, true, true, true, true, true, true, true, true, true, false, false] rfl rfl (any_of HT_.out (by kernel_rfl)) (fun _ _ _ h => h) (Or.inl ⟨by rfl, ?_⟩) ?_ ?_
          rotate_left
          · intro w'
            go_simp
            with_reducible rfl
          rotate_left
          · simp only [Act.put, List.setIfInBounds_toArray, List.set_cons_zero, List.set_cons_succ, i64_w, i32_w]
            rfl
          refine pure_ (i := 13) (N := some 89) (v := ?_) (a' := ?_) #[true, true, true, true, true, true, true, true, true, true, true, true, true, true, false] rfl rfl (any_of HT_.out (by kernel_rfl)) (fun _ _ _ h => h) (Or.inl ⟨by rfl, ?_⟩) ?_ ?_
          rotate_left
          · intro w'
            go_simp
            with_reducible rfl
          rotate_left
          · simp only [Act.put, List.setIfInBounds_toArray, List.set_cons_zero, List.set_cons_succ, i64_w, i32_w]
            rfl
          refine pure_ (i := 14) (N := some 8) (v := ?_) (a' := ?_) #[true, true, true, true, true, true, true, true, true, true, true, true, true, true, true] rfl rfl (any_of HT_.out (by kernel_rfl)) (fun _ _ _ h => h) (Or.inl ⟨by rfl, ?_⟩) ?_ ?_
          rotate_left
          · intro w'
            go_simp
            with_reducible rfl
          rotate_left
          · simp only [Act.put, List.setIfInBounds_toArray, List.set_cons_zero, List.set_cons_succ, i64_w, i32_w]
            rfl
          refine done_ (done_of HT_.out (by kernel_rfl)) ?_
          try go_wp2
          go_ret
          exact ⟨by first | rfl | (simp [errW_none, errW_some] <;> rfl) | (simp [*, errW_none, errW_some] <;> rfl), by repeat (first | (with_reducible first | exact HB.out | apply below_alloc | apply pw_below_drewN | apply below_drew1 | refine below_set ?_ GE201.out) | exact HB.out)⟩
        · rw [if_neg c38] at H
          have c38b0 : (t188 == t191) = false := beq_eq_false_iff_ne.mpr c38
          have c38b1 : (t188 != t191) = true := bne_iff_ne.mpr c38
          obtain rfl := Option.some.inj H
          try go_wp2
          have n0_ := Aside0.mk (blk_drew BK201.out)
          have n1_ := Aside0.mk (below_drew1 HB.out)
          clear BK201
          clear HB
          have BK201 := n0_
          have HB := n1_
          clear n0_ n1_
          refine start_ (n := 15) (S := fun w' => w'.cell? ⟨gb201, 0, none⟩ = some (.int .i64 t198) ∧ w'.cell? ⟨gb201, 1, none⟩ = some (.int .i64 t199)) (ds := []) #[false, false, false, false, false, false, false, false, false, false, false, false, false, false, false] (by kernel_rfl) rfl rfl ⟨(blk_cell BK201.out 0).trans rfl, (blk_cell BK201.out 1).trans rfl⟩ (fun hHeld => ?_); refine with_tabW bagnallkeep_SignApart.tab7 bagnallkeep_SignApart.bits7 (fun HT_ HW_ => ?_)
          generalize wc.drew = w43 at BK201 HB hHeld ⊢
          refine pure_ (i := 0) (N := some 76) (v := ?_) (a' := ?_) #[true, false, false, false, false, false, false, false, false, false, false, false, false, false, false] rfl rfl (any_of HT_.out (by kernel_rfl)) (fun _ _ _ h => h) (Or.inl ⟨by rfl, ?_⟩) ?_ ?_
          rotate_left
          · intro w'
            go_simp
            with_reducible rfl
          rotate_left
          · simp only [Act.put, List.setIfInBounds_toArray, List.set_cons_zero, List.set_cons_succ, i64_w, i32_w]
            rfl
          refine pure_ (i := 1) (N := some 77) (v := ?_) (a' := ?_) #[true, true, false, false, false, false, false, false, false, false, false, false, false, false, false] rfl rfl (any_of HT_.out (by kernel_rfl)) (fun _ _ _ h => h) (Or.inl ⟨by rfl, ?_⟩) ?_ ?_
          rotate_left
          · intro w'
            go_simp
            with_reducible rfl
          rotate_left
          · simp only [Act.put, List.setIfInBounds_toArray, List.set_cons_zero, List.set_cons_succ, i64_w, i32_w]
            rfl
          refine pure_ (i := 6) (N := some 82) (v := ?_) (a' := ?_) #[true, true, false, false, false, false, true, false, false, false, false, false, false, false, false] rfl rfl (any_of HT_.out (by kernel_rfl)) (fun _ _ _ h => h) (Or.inl ⟨by rfl, ?_⟩) ?_ ?_
          rotate_left
          · intro w'
            go_simp
            with_reducible rfl
          rotate_left
          · simp only [Act.put, List.setIfInBounds_toArray, List.set_cons_zero, List.set_cons_succ, i64_w, i32_w]
            rfl
          refine pure_ (i := 7) (N := some 83) (v := ?_) (a' := ?_) #[true, true, false, false, false, false, true, true, false, false, false, false, false, false, false] rfl rfl (any_of HT_.out (by kernel_rfl)) (fun _ _ _ h => h) (Or.inl ⟨by rfl, ?_⟩) ?_ ?_
          rotate_left
          · intro w'
            go_simp
            with_reducible rfl
          rotate_left
          · simp only [Act.put, List.setIfInBounds_toArray, List.set_cons_zero, List.set_cons_succ, i64_w, i32_w]
            rfl
          refine pure_ (i := 8) (N := some 84) (v := ?_) (a' := ?_) #[true, true, false, false, false, false, true, true, true, false, false, false, false, false, false] rfl rfl (any_of HT_.out (by kernel_rfl)) (fun _ _ _ h => h) (Or.inl ⟨by rfl, ?_⟩) ?_ ?_
          rotate_left
          · intro w'
            go_simp
            with_reducible rfl
          rotate_left
          · simp only [Act.put, List.setIfInBounds_toArray, List.set_cons_zero, List.set_cons_succ, i64_w, i32_w]
            rfl
          refine take_ (i := 3) (N := some 79) (v := ?_) (a' := ?_) #[true, true, false, true, false, false, true, true, true, false, false, false, false, false, false] rfl rfl (take_ofW HT_.out HW_.out (by kernel_rfl)) (fun _ _ _ h => h) (Or.inl ⟨by rfl, ?_⟩) hHeld ?_ ?_
          rotate_left
          · rintro w' ⟨s0, s1⟩
            go_simp
            with_reducible rfl
          rotate_left
          · simp only [Act.put, List.setIfInBounds_toArray, List.set_cons_zero, List.set_cons_succ, i64_w, i32_w]
            rfl
          refine one_ (i := 2) (N := some 78) #[true, true, true, true, false, false, true, true, true, false, false, false, false, false, false] rfl rfl (one_of HT_.out (by kernel_rfl)) (by decide) (fun K hK => ?_)
          refine goes_ Try.func16 (by kernel_rfl) rfl #[.slice A3 l3.length c3] (by rfl) rfl rfl (by (try simp only [List.map_toArray, List.map_cons, List.map_nil]); first | done | rfl | (simp only [List.length_drop, List.length_take]; rfl)) ?_
          with_reducible refine (bagnallkeep_cutBytes.calls _ _ l3 t210 _ ?side1 ?side2 A36.out).mono ?_
          (case side1 => repeat (first | exact (Kd.C_below HR3.out HB.out) | (with_reducible refine Kd.C_alloc ?_ _) | (with_reducible refine Kd.C_drewN ?_ _) | (with_reducible refine Kd.C_drew ?_)))
          (case side2 => exact HC3.out)
          rintro e w44 ⟨v211, rfl, ho0, hb⟩
          refine ⟨_, rfl, ?_⟩
          have n0_ := Aside0.mk (Kd.R_lower ho0 (below_size (by repeat (first | (with_reducible first | exact HB.out | apply below_alloc | apply pw_below_drewN | apply below_drew1 | refine below_set ?_ GE201.out) | exact HB.out))))
          have n1_ := Aside0.mk (blk_below (g := gb201) (o := .cells #[.int .i64 t198, .int .i64 t199] 34 (0, 0)) (by (with_reducible repeat (first | refine blk_drewN ?_ _ | refine blk_drew ?_ | refine blk_alloc ?_ _)); exact BK201.out) hb)
          have n2_ := Aside0.mk (below_step (by repeat (first | (with_reducible first | exact HB.out | apply below_alloc | apply pw_below_drewN | apply below_drew1 | refine below_set ?_ GE201.out) | exact HB.out)) hb)
          clear BK201
          clear HB
          have HO212 := n0_
          have BK201 := n1_
          have HB := n2_
          clear n0_ n1_ n2_
          (try clear hb)
          (try clear hb2)
          (try clear hk)
          (try clear hi)
          (try clear ho0)
          obtain ⟨Ao45, co45, eo45⟩ := Kd.R_slice HO212.out
          (first | subst eo45 | (injection eo45 with f1_ f2_ f3_; have f4_ := f1_.symm; have f5_ := f3_.symm; clear f1_ f2_ f3_; subst f4_; subst f5_))
          refine hK.out _ _ ⟨(blk_cell BK201.out 0).trans rfl, (blk_cell BK201.out 1).trans rfl⟩ (fun hHeld => ?_)
          clear hK K
          refine norm_ (a' := ?_) ?_ ?_
          rotate_left
          · show Act.put _ (some 78) _ = _
            simp only [Act.put, List.setIfInBounds_toArray, List.set_cons_zero, List.set_cons_succ, i64_w, i32_w]
            rfl
          refine one_ (i := 4) (N := some 80) #[true, true, true, true, true, false, true, true, true, false, false, false, false, false, false] rfl rfl (one_of HT_.out (by kernel_rfl)) (by decide) (fun K hK => ?_)
          refine goes_ Try.func22 (by kernel_rfl) rfl #[.int .i64 t191, .slice Ao45 t210.length co45, .agg #[.int .i64 t198, .int .i64 t199]] (by rfl) rfl rfl (by (try simp only [List.map_toArray, List.map_cons, List.map_nil]); first | done | rfl | (simp only [List.length_drop, List.length_take]; rfl)) ?_
          with_reducible refine (sign_Check.calls kj14 t191 _ _ t210 t198 t199 t213 _ ?side1 ?side2 A37.out).mono ?_
          (case side1 => repeat (first | exact (Kd.R_reads' HO212.out).2.2 | (with_reducible refine Kd.C_alloc ?_ _) | (with_reducible refine Kd.C_drewN ?_ _) | (with_reducible refine Kd.C_drew ?_)))
          (case side2 => exact (Kd.R_reads' HO212.out).2.1)
          rintro e w46 ⟨rfl, hb⟩
          refine ⟨_, rfl, ?_⟩
          have n0_ := Aside0.mk (Kd.R_below (by (with_reducible repeat (first | apply Kd.R_alloc | apply Kd.R_drewN | apply Kd.R_drew)); exact HO212.out) hb)
          have n1_ := Aside0.mk (blk_below (g := gb201) (o := .cells #[.int .i64 t198, .int .i64 t199] 34 (0, 0)) (by (with_reducible repeat (first | refine blk_drewN ?_ _ | refine blk_drew ?_ | refine blk_alloc ?_ _)); exact BK201.out) hb)
          have n2_ := Aside0.mk (below_step (by repeat (first | (with_reducible first | exact HB.out | apply below_alloc | apply pw_below_drewN | apply below_drew1 | refine below_set ?_ GE201.out) | exact HB.out)) hb)
          clear HO212
          clear BK201
          clear HB
          have HO212 := n0_
          have BK201 := n1_
          have HB := n2_
          clear n0_ n1_ n2_
          (try clear hb)
          (try clear hb2)
          (try clear hk)
          (try clear hi)
          refine hK.out _ _ ⟨(blk_cell BK201.out 0).trans rfl, (blk_cell BK201.out 1).trans rfl⟩ (fun hHeld => ?_)
          clear hK K
          refine norm_ (a' := ?_) ?_ ?_
          rotate_left
          · show Act.put _ (some 80) _ = _
            simp only [Act.put, List.setIfInBounds_toArray, List.set_cons_zero, List.set_cons_succ, i64_w, i32_w]
            rfl
          refine pure_ (i := 5) (N := some 81) (v := ?_) (a' := ?_) #[true, true, true, true, true, true, true, true, true, false, false, false, false, false, false] rfl rfl (any_of HT_.out (by kernel_rfl)) (fun _ _ _ h => h) (Or.inl ⟨by rfl, ?_⟩) ?_ ?_
          rotate_left
          · intro w'
            go_simp
            with_reducible rfl
          rotate_left
          · simp only [Act.put, List.setIfInBounds_toArray, List.set_cons_zero, List.set_cons_succ, i64_w, i32_w]
            rfl
          refine pure_ (i := 9) (N := some 85) (v := ?_) (a' := ?_) #[true, true, true, true, true, true, true, true, true, true, false, false, false, false, false] rfl rfl (any_of HT_.out (by kernel_rfl)) (fun _ _ _ h => h) (Or.inl ⟨by rfl, ?_⟩) ?_ ?_
          rotate_left
          · intro w'
            go_simp
            with_reducible rfl
          rotate_left
          · simp only [Act.put, List.setIfInBounds_toArray, List.set_cons_zero, List.set_cons_succ, i64_w, i32_w]
            rfl
          refine pure_ (i := 10) (N := some 86) (v := ?_) (a' := ?_) #[true, true, true, true, true, true, true, true, true, true, true, false, false, false, false] rfl rfl (any_of HT_.out (by kernel_rfl)) (fun _ _ _ h => h) (Or.inl ⟨by rfl, ?_⟩) ?_ ?_
          rotate_left
          · intro w'
            go_simp
            with_reducible rfl
          rotate_left
          · simp only [Act.put, List.setIfInBounds_toArray, List.set_cons_zero, List.set_cons_succ, i64_w, i32_w]
            rfl
          refine pure_ (i := 11) (N := some 87) (v := ?_) (a' := ?_) #[true, true, true, true, true, true, true, true, true, true, true, true, false, false, false] rfl rfl (any_of HT_.out (by kernel_rfl)) (fun _ _ _ h => h) (Or.inl ⟨by rfl, ?_⟩) ?_ ?_
          rotate_left
          · intro w'
            go_simp
            with_reducible rfl
          rotate_left
          · simp only [Act.put, List.setIfInBounds_toArray, List.set_cons_zero, List.set_cons_succ, i64_w, i32_w]
            rfl
          refine pure_ (i := 12) (N := some 88) (v := ?_) (a' := ?_) #[true, true, true, true, true, true, true, true, true, true, true, true, true, false, false] rfl rfl (any_of HT_.out (by kernel_rfl)) (fun _ _ _ h => h) (Or.inl ⟨by rfl, ?_⟩) ?_ ?_
          rotate_left
          · intro w'
            go_simp
            with_reducible rfl
          rotate_left
          · simp only [Act.put, List.setIfInBounds_toArray, List.set_cons_zero, List.set_cons_succ, i64_w, i32_w]
            rfl
          refine pure_ (i := 13) (N := some 89) (v := ?_) (a' := ?_) #[true, true, true, true, true, true, true, true, true, true, true, true, true, true, false] rfl rfl (any_of HT_.out (by kernel_rfl)) (fun _ _ _ h => h) (Or.inl ⟨by rfl, ?_⟩) ?_ ?_
          rotate_left
          · intro w'
            go_simp
            with_reducible rfl
          rotate_left
          · simp only [Act.put, List.setIfInBounds_toArray, List.set_cons_zero, List.set_cons_succ, i64_w, i32_w]
            rfl
          refine pure_ (i := 14) (N := some 8) (v := ?_) (a' := ?_) #[true, true, true, true, true, true, true, true, true, true, true, true, true, true, true] rfl rfl (any_of HT_.out (by kernel_rfl)) (fun _ _ _ h => h) (Or.inl ⟨by rfl, ?_⟩) ?_ ?_
          rotate_left
          · intro w'
            go_simp
            with_reducible rfl
          rotate_left
          · simp only [Act.put, List.setIfInBounds_toArray, List.set_cons_zero, List.set_cons_succ, i64_w, i32_w]
            rfl
          refine done_ (done_of HT_.out (by kernel_rfl)) ?_
          try go_wp2
          go_ret
          exact ⟨by first | rfl | (simp [errW_none, errW_some] <;> rfl) | (simp [*, errW_none, errW_some] <;> rfl), by repeat (first | (with_reducible first | exact HB.out | apply below_alloc | apply pw_below_drewN | apply below_drew1 | refine below_set ?_ GE201.out) | exact HB.out)⟩

/-- THE ONE PURE STATEMENT of bagnallkeep_SignApart: yours. -/
def bagnallkeep_SignApart.Pure : Prop := ∀ (a0 : Int) (a1 : Int) (a2 : Int) (l3 : List Int), (Lit.int .i64 a0).wf = true → (Lit.int .i64 a1).wf = true → (Lit.int .i64 a2).wf = true → l3.length ≤ maxLen → l3.length * 1 ≤ 140737488351232 → (∀ x ∈ l3, (Lit.int .u8 x).wf = true) → ∃ k, bagnallkeep_SignApart.f k a0 a1 a2 l3 = some true
theorem bagnallkeep_SignApart.walk (P : bagnallkeep_SignApart.Pure) (a0 : Int) (a1 : Int) (a2 : Int) (a3 : Option Addr) (len3 cap3 : Nat) (z3 : List Int) (w : World) (w0 : (Lit.int .i64 a0).wf = true) (w1 : (Lit.int .i64 a1).wf = true) (w2 : (Lit.int .i64 a2).wf = true) (w3 : (a3 = none ∧ len3 = 0 ∧ cap3 = 0 ∧ z3 = []) ∨ ∃ x, a3 = some x ∧ len3 ≤ cap3 ∧ cap3 ≤ maxLen ∧ z3.length = cap3 ∧ (∀ i, i < z3.length → w.cell? (x.add i) = some (.int .u8 (z3.getD i 0))) ∧ ∀ n ∈ z3, (Lit.int .u8 n).wf = true) (y3 : len3 * 1 ≤ 140737488351232) :
    Calls Try.prog 6 #[.int .i64 a0, .int .i64 a1, .int .i64 a2, .slice a3 len3 cap3] w fun e w' => e = .returned (.bool true) ∧ Below w.heap.size w w' := by
  obtain ⟨l3, rfl, hr3, hm3, hw3, hc3⟩ := ReadsInt.ofRowC w3
  obtain ⟨k, h⟩ := P a0 a1 a2 l3 w0 w1 w2 hm3 y3 hw3
  refine (bagnallkeep_SignApart.calls k a0 a1 a2 _ _ l3 true w (Kd.C_of_reads (d := (0 : Int)) (h1 := fun _ => rfl) hr3) hc3 h).mono ?_
  rintro e w' ⟨rfl, hd⟩
  exact ⟨rfl, hd⟩

end Go.Proofs.Ytfdceninhieheaa.QSign
