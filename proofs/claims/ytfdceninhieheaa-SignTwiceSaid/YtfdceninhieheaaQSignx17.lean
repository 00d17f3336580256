/- Functions of the program as plain functions, and the walks that show it. Written by the session's own program pp.py. -/
import Derived.Test.YtfdceninhieheaaQSignx0
import Derived.Test.YtfdceninhieheaaQSignx1
import Derived.Test.YtfdceninhieheaaQSignx3
import Derived.Test.YtfdceninhieheaaQSignx5
import Derived.Test.YtfdceninhieheaaQSignx10
import Derived.Test.YtfdceninhieheaaQSignx12
import Derived.Test.YtfdceninhieheaaQSignx16
namespace Go.Proofs.Ytfdceninhieheaa.QSign
open Go.RowKit Go.Proofs.YtfdceninhieheaaW.PrintWords Go.Proofs.YtfdceninhieheaaW.PrintLast Go.Proofs.YtfdceninhieheaaW.PrintMore
attribute [local go_sem] max2_int min2_int max_two min_two max_three min_three max_four min_four   -- for this text's walks alone
set_option linter.unusedVariables false
set_option linter.unusedSimpArgs false

/-! ### bagnallkeep_SignTwice: function 8 -/
def bagnallkeep_SignTwice.j0 : Nat → Int → Int → Int → Int → Int → Bool → Option (Bool)
  | 0, _, _, _, _, _, _ => none
  | k + 1, x9, x17, x19, x21, x22, x88 => if x88 = true then (some false) else (if x17 = x19 then (if x22 = 8 then (some (x21 == 0)) else (some false)) else (if x22 = 0 then (some (x21 == x9)) else (some false)))
def bagnallkeep_SignTwice.f (k : Nat) (a0 : Int) (a1 : Int) (l2 : List Int) (l3 : List Int) : Option (Bool) := (bagnallkeep_SecretOf.f a0).bind fun t247 => ((bagnallkeep_SecretOf.f a1).bind fun t248 => ((bagnallkeep_cutBytes.f l2).bind fun t249 => ((bagnallkeep_cutBytes.f l3).bind fun t252 => ((bagnallkeep_cutBytes.f t249).bind fun t255 => ((sign_Make.f k t247 t248 t255).bind fun bt258 => ((bagnallkeep_cutBytes.f t252).bind fun t262 => ((sign_Make.f k t247 t248 t262).bind fun bt265 => ((bagnallkeep_cutBytes.f t249).bind fun t269 => ((sign_Hash.f k bt258.1 t269).bind fun bt272 => ((bagnallkeep_cutBytes.f t252).bind fun t274 => ((sign_Hash.f k bt265.1 t274).bind fun bt277 => ((sign_Secret.f k t249 t252 bt258.1 bt258.2.1 bt265.1 bt265.2.1).bind fun bt279 => (if bt258.2.2 = 0 then (if bt265.2.2 = 0 then (if bt272.2 = 0 then (if bt277.2 = 0 then ((bagnallkeep_signSure.f k).bind fun t281 => (bagnallkeep_SignTwice.j0 k t247 bt272.1 bt277.1 bt279.1 bt279.2 (!t281))) else (bagnallkeep_SignTwice.j0 k t247 bt272.1 bt277.1 bt279.1 bt279.2 true)) else (bagnallkeep_SignTwice.j0 k t247 bt272.1 bt277.1 bt279.1 bt279.2 true)) else (bagnallkeep_SignTwice.j0 k t247 bt272.1 bt277.1 bt279.1 bt279.2 true)) else (bagnallkeep_SignTwice.j0 k t247 bt272.1 bt277.1 bt279.1 bt279.2 true))))))))))))))
theorem bagnallkeep_SignTwice.mono_l : ∀ k, (∀ y0 y1 y2 y3 y4 y5, LeO (bagnallkeep_SignTwice.j0 k y0 y1 y2 y3 y4 y5) (bagnallkeep_SignTwice.j0 (k + 1) y0 y1 y2 y3 y4 y5))
  | 0 => fun _ _ _ _ _ _ r h => by simp [bagnallkeep_SignTwice.j0] at h
  | k + 1 => by
    have ih0 := bagnallkeep_SignTwice.mono_l k
    · intro y0 y1 y2 y3 y4 y5
      unfold bagnallkeep_SignTwice.j0
      repeat' first
      | (with_reducible exact ih0 _ _ _ _ _ _)
      | (with_reducible exact bagnallkeep_signSure.mono _)
      | (with_reducible exact sign_Hash.mono _ _ _)
      | (with_reducible exact sign_Make.mono _ _ _ _)
      | (with_reducible exact sign_Secret.mono _ _ _ _ _ _ _)
      | (with_reducible exact LeO.refl _)
      | (with_reducible exact LeO.none _)
      | (with_reducible refine LeO.ite ?_ ?_)
      | (with_reducible refine LeO.bind ?_ (fun _ => ?_))
      | exact ih0 _ _ _ _ _ _
      | exact bagnallkeep_signSure.mono _
      | exact sign_Hash.mono _ _ _
      | exact sign_Make.mono _ _ _ _
      | exact sign_Secret.mono _ _ _ _ _ _ _
      | exact LeO.none _
      | refine LeO.ite ?_ ?_
      | refine LeO.bind ?_ (fun _ => ?_)
theorem bagnallkeep_SignTwice.mono : ∀ a0 a1 a2 a3 k, LeO (bagnallkeep_SignTwice.f k a0 a1 a2 a3) (bagnallkeep_SignTwice.f (k + 1) a0 a1 a2 a3) := by
  intro a0 a1 a2 a3 k
  have ih0 := bagnallkeep_SignTwice.mono_l k
  unfold bagnallkeep_SignTwice.f
  repeat' first
      | (with_reducible exact ih0 _ _ _ _ _ _)
      | (with_reducible exact bagnallkeep_signSure.mono _)
      | (with_reducible exact sign_Hash.mono _ _ _)
      | (with_reducible exact sign_Make.mono _ _ _ _)
      | (with_reducible exact sign_Secret.mono _ _ _ _ _ _ _)
      | (with_reducible exact LeO.refl _)
      | (with_reducible exact LeO.none _)
      | (with_reducible refine LeO.ite ?_ ?_)
      | (with_reducible refine LeO.bind ?_ (fun _ => ?_))
      | exact ih0 _ _ _ _ _ _
      | exact bagnallkeep_signSure.mono _
      | exact sign_Hash.mono _ _ _
      | exact sign_Make.mono _ _ _ _
      | exact sign_Secret.mono _ _ _ _ _ _ _
      | exact LeO.none _
      | refine LeO.ite ?_ ?_
      | refine LeO.bind ?_ (fun _ => ?_)
def bagnallkeep_SignTwice.T7 : Bool × List (List Nat × List Nat) := (true, [([], []), ([0], [0]), ([], []), ([2], [2]), ([1, 3, 3], [1, 3]), ([4], [4]), ([5], [5]), ([5], [5]), ([6, 4, 0, 1, 2, 3, 4, 5, 6], [6]), ([7, 8, 0, 1, 2, 3, 4, 5, 6, 7, 8], [7])])
def bagnallkeep_SignTwice.B7 : List Nat := [0, 1, 0, 4, 15, 31, 63, 63, 127, 511]
theorem bagnallkeep_SignTwice.tab7 : rtab .any (opsOf Try.f8 7) = bagnallkeep_SignTwice.T7 := by kernel_rfl
theorem bagnallkeep_SignTwice.bits7 : waitsOk bagnallkeep_SignTwice.T7.2 bagnallkeep_SignTwice.B7 = true := by kernel_rfl
def bagnallkeep_SignTwice.T8 : Bool × List (List Nat × List Nat) := (true, [([], []), ([0], [0]), ([], []), ([2], [2]), ([1, 3, 3], [1, 3]), ([4], [4]), ([5], [5]), ([5], [5]), ([6, 4, 0, 1, 2, 3, 4, 5, 6], [6]), ([7, 8, 0, 1, 2, 3, 4, 5, 6, 7, 8], [7])])
def bagnallkeep_SignTwice.B8 : List Nat := [0, 1, 0, 4, 15, 31, 63, 63, 127, 511]
theorem bagnallkeep_SignTwice.tab8 : rtab .any (opsOf Try.f8 8) = bagnallkeep_SignTwice.T8 := by kernel_rfl
theorem bagnallkeep_SignTwice.bits8 : waitsOk bagnallkeep_SignTwice.T8.2 bagnallkeep_SignTwice.B8 = true := by kernel_rfl
set_option maxHeartbeats 8000000 in
set_option maxRecDepth 100000 in
theorem bagnallkeep_SignTwice.calls (k : Nat) (a0 : Int) (a1 : Int) (A2 : Option Addr) (c2 : Nat) (l2 : List Int) (A3 : Option Addr) (c3 : Nat) (l3 : List Int) (r : Bool) (w : World) (hr2 : Kd.C (Kd.int .u8) w A2 l2.length l2) (hc2 : l2.length ≤ c2) (hr3 : Kd.C (Kd.int .u8) w A3 l3.length l3) (hc3 : l3.length ≤ c3) (h : bagnallkeep_SignTwice.f k a0 a1 l2 l3 = some r) :
    Calls Try.prog 8 #[.int .i64 a0, .int .i64 a1, .slice A2 l2.length c2, .slice A3 l3.length c3] w fun e w' => e = .returned (.bool r) ∧ Below w.heap.size w w' := by
  have hu34 := Try.underlying34
  have HR2 := Aside0.mk hr2
  have HC2 := Aside0.mk hc2
  clear hr2 hc2
  have HR3 := Aside0.mk hr3
  have HC3 := Aside0.mk hc3
  clear hr3 hc3
  have HB := Aside0.mk (Below.refl w.heap.size w)
  have H : ((bagnallkeep_SecretOf.f a0).bind fun t247 => ((bagnallkeep_SecretOf.f a1).bind fun t248 => ((bagnallkeep_cutBytes.f l2).bind fun t249 => ((bagnallkeep_cutBytes.f l3).bind fun t252 => ((bagnallkeep_cutBytes.f t249).bind fun t255 => ((sign_Make.f k t247 t248 t255).bind fun bt258 => ((bagnallkeep_cutBytes.f t252).bind fun t262 => ((sign_Make.f k t247 t248 t262).bind fun bt265 => ((bagnallkeep_cutBytes.f t249).bind fun t269 => ((sign_Hash.f k bt258.1 t269).bind fun bt272 => ((bagnallkeep_cutBytes.f t252).bind fun t274 => ((sign_Hash.f k bt265.1 t274).bind fun bt277 => ((sign_Secret.f k t249 t252 bt258.1 bt258.2.1 bt265.1 bt265.2.1).bind fun bt279 => (if bt258.2.2 = 0 then (if bt265.2.2 = 0 then (if bt272.2 = 0 then (if bt277.2 = 0 then ((bagnallkeep_signSure.f k).bind fun t281 => (bagnallkeep_SignTwice.j0 k t247 bt272.1 bt277.1 bt279.1 bt279.2 (!t281))) else (bagnallkeep_SignTwice.j0 k t247 bt272.1 bt277.1 bt279.1 bt279.2 true)) else (bagnallkeep_SignTwice.j0 k t247 bt272.1 bt277.1 bt279.1 bt279.2 true)) else (bagnallkeep_SignTwice.j0 k t247 bt272.1 bt277.1 bt279.1 bt279.2 true)) else (bagnallkeep_SignTwice.j0 k t247 bt272.1 bt277.1 bt279.1 bt279.2 true))))))))))))))) = some r := h
  clear h
  replace H := Option.bind_eq_some_iff.mp H
  obtain ⟨t247, A50, H⟩ := H
  replace H : ((bagnallkeep_SecretOf.f a1).bind fun t248 => ((bagnallkeep_cutBytes.f l2).bind fun t249 => ((bagnallkeep_cutBytes.f l3).bind fun t252 => ((bagnallkeep_cutBytes.f t249).bind fun t255 => ((sign_Make.f k t247 t248 t255).bind fun bt258 => ((bagnallkeep_cutBytes.f t252).bind fun t262 => ((sign_Make.f k t247 t248 t262).bind fun bt265 => ((bagnallkeep_cutBytes.f t249).bind fun t269 => ((sign_Hash.f k bt258.1 t269).bind fun bt272 => ((bagnallkeep_cutBytes.f t252).bind fun t274 => ((sign_Hash.f k bt265.1 t274).bind fun bt277 => ((sign_Secret.f k t249 t252 bt258.1 bt258.2.1 bt265.1 bt265.2.1).bind fun bt279 => (if bt258.2.2 = 0 then (if bt265.2.2 = 0 then (if bt272.2 = 0 then (if bt277.2 = 0 then ((bagnallkeep_signSure.f k).bind fun t281 => (bagnallkeep_SignTwice.j0 k t247 bt272.1 bt277.1 bt279.1 bt279.2 (!t281))) else (bagnallkeep_SignTwice.j0 k t247 bt272.1 bt277.1 bt279.1 bt279.2 true)) else (bagnallkeep_SignTwice.j0 k t247 bt272.1 bt277.1 bt279.1 bt279.2 true)) else (bagnallkeep_SignTwice.j0 k t247 bt272.1 bt277.1 bt279.1 bt279.2 true)) else (bagnallkeep_SignTwice.j0 k t247 bt272.1 bt277.1 bt279.1 bt279.2 true)))))))))))))) = some r := H
  have A5 := Aside0.mk A50
  clear A50
  replace H := Option.bind_eq_some_iff.mp H
  obtain ⟨t248, A60, H⟩ := H
  replace H : ((bagnallkeep_cutBytes.f l2).bind fun t249 => ((bagnallkeep_cutBytes.f l3).bind fun t252 => ((bagnallkeep_cutBytes.f t249).bind fun t255 => ((sign_Make.f k t247 t248 t255).bind fun bt258 => ((bagnallkeep_cutBytes.f t252).bind fun t262 => ((sign_Make.f k t247 t248 t262).bind fun bt265 => ((bagnallkeep_cutBytes.f t249).bind fun t269 => ((sign_Hash.f k bt258.1 t269).bind fun bt272 => ((bagnallkeep_cutBytes.f t252).bind fun t274 => ((sign_Hash.f k bt265.1 t274).bind fun bt277 => ((sign_Secret.f k t249 t252 bt258.1 bt258.2.1 bt265.1 bt265.2.1).bind fun bt279 => (if bt258.2.2 = 0 then (if bt265.2.2 = 0 then (if bt272.2 = 0 then (if bt277.2 = 0 then ((bagnallkeep_signSure.f k).bind fun t281 => (bagnallkeep_SignTwice.j0 k t247 bt272.1 bt277.1 bt279.1 bt279.2 (!t281))) else (bagnallkeep_SignTwice.j0 k t247 bt272.1 bt277.1 bt279.1 bt279.2 true)) else (bagnallkeep_SignTwice.j0 k t247 bt272.1 bt277.1 bt279.1 bt279.2 true)) else (bagnallkeep_SignTwice.j0 k t247 bt272.1 bt277.1 bt279.1 bt279.2 true)) else (bagnallkeep_SignTwice.j0 k t247 bt272.1 bt277.1 bt279.1 bt279.2 true))))))))))))) = some r := H
  have A6 := Aside0.mk A60
  clear A60
  replace H := Option.bind_eq_some_iff.mp H
  obtain ⟨t249, A70, H⟩ := H
  replace H : ((bagnallkeep_cutBytes.f l3).bind fun t252 => ((bagnallkeep_cutBytes.f t249).bind fun t255 => ((sign_Make.f k t247 t248 t255).bind fun bt258 => ((bagnallkeep_cutBytes.f t252).bind fun t262 => ((sign_Make.f k t247 t248 t262).bind fun bt265 => ((bagnallkeep_cutBytes.f t249).bind fun t269 => ((sign_Hash.f k bt258.1 t269).bind fun bt272 => ((bagnallkeep_cutBytes.f t252).bind fun t274 => ((sign_Hash.f k bt265.1 t274).bind fun bt277 => ((sign_Secret.f k t249 t252 bt258.1 bt258.2.1 bt265.1 bt265.2.1).bind fun bt279 => (if bt258.2.2 = 0 then (if bt265.2.2 = 0 then (if bt272.2 = 0 then (if bt277.2 = 0 then ((bagnallkeep_signSure.f k).bind fun t281 => (bagnallkeep_SignTwice.j0 k t247 bt272.1 bt277.1 bt279.1 bt279.2 (!t281))) else (bagnallkeep_SignTwice.j0 k t247 bt272.1 bt277.1 bt279.1 bt279.2 true)) else (bagnallkeep_SignTwice.j0 k t247 bt272.1 bt277.1 bt279.1 bt279.2 true)) else (bagnallkeep_SignTwice.j0 k t247 bt272.1 bt277.1 bt279.1 bt279.2 true)) else (bagnallkeep_SignTwice.j0 k t247 bt272.1 bt277.1 bt279.1 bt279.2 true)))))))))))) = some r := H
  have A7 := Aside0.mk A70
  clear A70
  replace H := Option.bind_eq_some_iff.mp H
  obtain ⟨t252, A80, H⟩ := H
  replace H : ((bagnallkeep_cutBytes.f t249).bind fun t255 => ((sign_Make.f k t247 t248 t255).bind fun bt258 => ((bagnallkeep_cutBytes.f t252).bind fun t262 => ((sign_Make.f k t247 t248 t262).bind fun bt265 => ((bagnallkeep_cutBytes.f t249).bind fun t269 => ((sign_Hash.f k bt258.1 t269).bind fun bt272 => ((bagnallkeep_cutBytes.f t252).bind fun t274 => ((sign_Hash.f k bt265.1 t274).bind fun bt277 => ((sign_Secret.f k t249 t252 bt258.1 bt258.2.1 bt265.1 bt265.2.1).bind fun bt279 => (if bt258.2.2 = 0 then (if bt265.2.2 = 0 then (if bt272.2 = 0 then (if bt277.2 = 0 then ((bagnallkeep_signSure.f k).bind fun t281 => (bagnallkeep_SignTwice.j0 k t247 bt272.1 bt277.1 bt279.1 bt279.2 (!t281))) else (bagnallkeep_SignTwice.j0 k t247 bt272.1 bt277.1 bt279.1 bt279.2 true)) else (bagnallkeep_SignTwice.j0 k t247 bt272.1 bt277.1 bt279.1 bt279.2 true)) else (bagnallkeep_SignTwice.j0 k t247 bt272.1 bt277.1 bt279.1 bt279.2 true)) else (bagnallkeep_SignTwice.j0 k t247 bt272.1 bt277.1 bt279.1 bt279.2 true))))))))))) = some r := H
  have A8 := Aside0.mk A80
  clear A80
  replace H := Option.bind_eq_some_iff.mp H
  obtain ⟨t255, A90, H⟩ := H
  replace H : ((sign_Make.f k t247 t248 t255).bind fun bt258 => ((bagnallkeep_cutBytes.f t252).bind fun t262 => ((sign_Make.f k t247 t248 t262).bind fun bt265 => ((bagnallkeep_cutBytes.f t249).bind fun t269 => ((sign_Hash.f k bt258.1 t269).bind fun bt272 => ((bagnallkeep_cutBytes.f t252).bind fun t274 => ((sign_Hash.f k bt265.1 t274).bind fun bt277 => ((sign_Secret.f k t249 t252 bt258.1 bt258.2.1 bt265.1 bt265.2.1).bind fun bt279 => (if bt258.2.2 = 0 then (if bt265.2.2 = 0 then (if bt272.2 = 0 then (if bt277.2 = 0 then ((bagnallkeep_signSure.f k).bind fun t281 => (bagnallkeep_SignTwice.j0 k t247 bt272.1 bt277.1 bt279.1 bt279.2 (!t281))) else (bagnallkeep_SignTwice.j0 k t247 bt272.1 bt277.1 bt279.1 bt279.2 true)) else (bagnallkeep_SignTwice.j0 k t247 bt272.1 bt277.1 bt279.1 bt279.2 true)) else (bagnallkeep_SignTwice.j0 k t247 bt272.1 bt277.1 bt279.1 bt279.2 true)) else (bagnallkeep_SignTwice.j0 k t247 bt272.1 bt277.1 bt279.1 bt279.2 true)))))))))) = some r := H
  have A9 := Aside0.mk A90
  clear A90
  replace H := Option.bind_eq_some_iff.mp H
  obtain ⟨⟨t258, t259, t260⟩, A100, H⟩ := H
  replace H : ((bagnallkeep_cutBytes.f t252).bind fun t262 => ((sign_Make.f k t247 t248 t262).bind fun bt265 => ((bagnallkeep_cutBytes.f t249).bind fun t269 => ((sign_Hash.f k t258 t269).bind fun bt272 => ((bagnallkeep_cutBytes.f t252).bind fun t274 => ((sign_Hash.f k bt265.1 t274).bind fun bt277 => ((sign_Secret.f k t249 t252 t258 t259 bt265.1 bt265.2.1).bind fun bt279 => (if t260 = 0 then (if bt265.2.2 = 0 then (if bt272.2 = 0 then (if bt277.2 = 0 then ((bagnallkeep_signSure.f k).bind fun t281 => (bagnallkeep_SignTwice.j0 k t247 bt272.1 bt277.1 bt279.1 bt279.2 (!t281))) else (bagnallkeep_SignTwice.j0 k t247 bt272.1 bt277.1 bt279.1 bt279.2 true)) else (bagnallkeep_SignTwice.j0 k t247 bt272.1 bt277.1 bt279.1 bt279.2 true)) else (bagnallkeep_SignTwice.j0 k t247 bt272.1 bt277.1 bt279.1 bt279.2 true)) else (bagnallkeep_SignTwice.j0 k t247 bt272.1 bt277.1 bt279.1 bt279.2 true))))))))) = some r := H
  have A10 := Aside0.mk A100
  clear A100
  replace H := Option.bind_eq_some_iff.mp H
  obtain ⟨t262, A110, H⟩ := H
  replace H : ((sign_Make.f k t247 t248 t262).bind fun bt265 => ((bagnallkeep_cutBytes.f t249).bind fun t269 => ((sign_Hash.f k t258 t269).bind fun bt272 => ((bagnallkeep_cutBytes.f t252).bind fun t274 => ((sign_Hash.f k bt265.1 t274).bind fun bt277 => ((sign_Secret.f k t249 t252 t258 t259 bt265.1 bt265.2.1).bind fun bt279 => (if t260 = 0 then (if bt265.2.2 = 0 then (if bt272.2 = 0 then (if bt277.2 = 0 then ((bagnallkeep_signSure.f k).bind fun t281 => (bagnallkeep_SignTwice.j0 k t247 bt272.1 bt277.1 bt279.1 bt279.2 (!t281))) else (bagnallkeep_SignTwice.j0 k t247 bt272.1 bt277.1 bt279.1 bt279.2 true)) else (bagnallkeep_SignTwice.j0 k t247 bt272.1 bt277.1 bt279.1 bt279.2 true)) else (bagnallkeep_SignTwice.j0 k t247 bt272.1 bt277.1 bt279.1 bt279.2 true)) else (bagnallkeep_SignTwice.j0 k t247 bt272.1 bt277.1 bt279.1 bt279.2 true)))))))) = some r := H
  have A11 := Aside0.mk A110
  clear A110
  replace H := Option.bind_eq_some_iff.mp H
  obtain ⟨⟨t265, t266, t267⟩, A120, H⟩ := H
  replace H : ((bagnallkeep_cutBytes.f t249).bind fun t269 => ((sign_Hash.f k t258 t269).bind fun bt272 => ((bagnallkeep_cutBytes.f t252).bind fun t274 => ((sign_Hash.f k t265 t274).bind fun bt277 => ((sign_Secret.f k t249 t252 t258 t259 t265 t266).bind fun bt279 => (if t260 = 0 then (if t267 = 0 then (if bt272.2 = 0 then (if bt277.2 = 0 then ((bagnallkeep_signSure.f k).bind fun t281 => (bagnallkeep_SignTwice.j0 k t247 bt272.1 bt277.1 bt279.1 bt279.2 (!t281))) else (bagnallkeep_SignTwice.j0 k t247 bt272.1 bt277.1 bt279.1 bt279.2 true)) else (bagnallkeep_SignTwice.j0 k t247 bt272.1 bt277.1 bt279.1 bt279.2 true)) else (bagnallkeep_SignTwice.j0 k t247 bt272.1 bt277.1 bt279.1 bt279.2 true)) else (bagnallkeep_SignTwice.j0 k t247 bt272.1 bt277.1 bt279.1 bt279.2 true))))))) = some r := H
  have A12 := Aside0.mk A120
  clear A120
  replace H := Option.bind_eq_some_iff.mp H
  obtain ⟨t269, A130, H⟩ := H
  replace H : ((sign_Hash.f k t258 t269).bind fun bt272 => ((bagnallkeep_cutBytes.f t252).bind fun t274 => ((sign_Hash.f k t265 t274).bind fun bt277 => ((sign_Secret.f k t249 t252 t258 t259 t265 t266).bind fun bt279 => (if t260 = 0 then (if t267 = 0 then (if bt272.2 = 0 then (if bt277.2 = 0 then ((bagnallkeep_signSure.f k).bind fun t281 => (bagnallkeep_SignTwice.j0 k t247 bt272.1 bt277.1 bt279.1 bt279.2 (!t281))) else (bagnallkeep_SignTwice.j0 k t247 bt272.1 bt277.1 bt279.1 bt279.2 true)) else (bagnallkeep_SignTwice.j0 k t247 bt272.1 bt277.1 bt279.1 bt279.2 true)) else (bagnallkeep_SignTwice.j0 k t247 bt272.1 bt277.1 bt279.1 bt279.2 true)) else (bagnallkeep_SignTwice.j0 k t247 bt272.1 bt277.1 bt279.1 bt279.2 true)))))) = some r := H
  have A13 := Aside0.mk A130
  clear A130
  replace H := Option.bind_eq_some_iff.mp H
  obtain ⟨⟨t272, t273⟩, A140, H⟩ := H
  replace H : ((bagnallkeep_cutBytes.f t252).bind fun t274 => ((sign_Hash.f k t265 t274).bind fun bt277 => ((sign_Secret.f k t249 t252 t258 t259 t265 t266).bind fun bt279 => (if t260 = 0 then (if t267 = 0 then (if t273 = 0 then (if bt277.2 = 0 then ((bagnallkeep_signSure.f k).bind fun t281 => (bagnallkeep_SignTwice.j0 k t247 t272 bt277.1 bt279.1 bt279.2 (!t281))) else (bagnallkeep_SignTwice.j0 k t247 t272 bt277.1 bt279.1 bt279.2 true)) else (bagnallkeep_SignTwice.j0 k t247 t272 bt277.1 bt279.1 bt279.2 true)) else (bagnallkeep_SignTwice.j0 k t247 t272 bt277.1 bt279.1 bt279.2 true)) else (bagnallkeep_SignTwice.j0 k t247 t272 bt277.1 bt279.1 bt279.2 true))))) = some r := H
  have A14 := Aside0.mk A140
  clear A140
  replace H := Option.bind_eq_some_iff.mp H
  obtain ⟨t274, A150, H⟩ := H
  replace H : ((sign_Hash.f k t265 t274).bind fun bt277 => ((sign_Secret.f k t249 t252 t258 t259 t265 t266).bind fun bt279 => (if t260 = 0 then (if t267 = 0 then (if t273 = 0 then (if bt277.2 = 0 then ((bagnallkeep_signSure.f k).bind fun t281 => (bagnallkeep_SignTwice.j0 k t247 t272 bt277.1 bt279.1 bt279.2 (!t281))) else (bagnallkeep_SignTwice.j0 k t247 t272 bt277.1 bt279.1 bt279.2 true)) else (bagnallkeep_SignTwice.j0 k t247 t272 bt277.1 bt279.1 bt279.2 true)) else (bagnallkeep_SignTwice.j0 k t247 t272 bt277.1 bt279.1 bt279.2 true)) else (bagnallkeep_SignTwice.j0 k t247 t272 bt277.1 bt279.1 bt279.2 true)))) = some r := H
  have A15 := Aside0.mk A150
  clear A150
  replace H := Option.bind_eq_some_iff.mp H
  obtain ⟨⟨t277, t278⟩, A160, H⟩ := H
  replace H : ((sign_Secret.f k t249 t252 t258 t259 t265 t266).bind fun bt279 => (if t260 = 0 then (if t267 = 0 then (if t273 = 0 then (if t278 = 0 then ((bagnallkeep_signSure.f k).bind fun t281 => (bagnallkeep_SignTwice.j0 k t247 t272 t277 bt279.1 bt279.2 (!t281))) else (bagnallkeep_SignTwice.j0 k t247 t272 t277 bt279.1 bt279.2 true)) else (bagnallkeep_SignTwice.j0 k t247 t272 t277 bt279.1 bt279.2 true)) else (bagnallkeep_SignTwice.j0 k t247 t272 t277 bt279.1 bt279.2 true)) else (bagnallkeep_SignTwice.j0 k t247 t272 t277 bt279.1 bt279.2 true))) = some r := H
  have A16 := Aside0.mk A160
  clear A160
  replace H := Option.bind_eq_some_iff.mp H
  obtain ⟨⟨t279, t280⟩, A170, H⟩ := H
  replace H : (if t260 = 0 then (if t267 = 0 then (if t273 = 0 then (if t278 = 0 then ((bagnallkeep_signSure.f k).bind fun t281 => (bagnallkeep_SignTwice.j0 k t247 t272 t277 t279 t280 (!t281))) else (bagnallkeep_SignTwice.j0 k t247 t272 t277 t279 t280 true)) else (bagnallkeep_SignTwice.j0 k t247 t272 t277 t279 t280 true)) else (bagnallkeep_SignTwice.j0 k t247 t272 t277 t279 t280 true)) else (bagnallkeep_SignTwice.j0 k t247 t272 t277 t279 t280 true)) = some r := H
  have A17 := Aside0.mk A170
  clear A170
  have HC18 := Aside0.mk H
  clear H
  go_enter Try.func8, Try.ntmps8
  try go_wp2_with (first | ((with_reducible refine gate_callee (f := 18) rfl ?_); refine goesL_ (some 24) rfl rfl Try.func18 (by kernel_rfl) rfl #[.int .i64 a0] rfl (by (try simp only [List.map_toArray, List.map_cons, List.map_nil]); first | done | rfl | (simp only [List.length_drop, List.length_take]; rfl)) ?_; (with_reducible refine (bagnallkeep_SecretOf.calls a0 t247 _ A5.out).mono ?_); rintro e w' ⟨rfl, ⟨nd, rfl⟩⟩; refine ⟨_, rfl, ?_⟩) | ((with_reducible refine gate_callee (f := 18) rfl ?_); refine goesL_ (some 26) rfl rfl Try.func18 (by kernel_rfl) rfl #[.int .i64 a1] rfl (by (try simp only [List.map_toArray, List.map_cons, List.map_nil]); first | done | rfl | (simp only [List.length_drop, List.length_take]; rfl)) ?_; (with_reducible refine (bagnallkeep_SecretOf.calls a1 t248 _ A6.out).mono ?_); rintro e w' ⟨rfl, ⟨nd, rfl⟩⟩; refine ⟨_, rfl, ?_⟩) | ((with_reducible refine gate_callee (f := 16) rfl ?_); refine goesL_ (some 28) rfl rfl Try.func16 (by kernel_rfl) rfl #[.slice A2 l2.length c2] rfl (by (try simp only [List.map_toArray, List.map_cons, List.map_nil]); first | done | rfl | (simp only [List.length_drop, List.length_take]; rfl)) ?_; (with_reducible refine (bagnallkeep_cutBytes.calls _ _ l2 t249 _ ?side1 ?side2 A7.out).mono ?_); (case side1 => repeat (first | exact HR2.out | (with_reducible refine Kd.C_alloc ?_ _) | (with_reducible refine Kd.C_drewN ?_ _) | (with_reducible refine Kd.C_drew ?_))); (case side2 => exact HC2.out); rintro e w19 ⟨v250, rfl, ho0, hb⟩; refine ⟨_, rfl, ?_⟩; have n0_ := Aside0.mk (Kd.R_lower ho0 (below_size (by repeat (first | (with_reducible first | exact HB.out | apply below_alloc | apply pw_below_drewN | apply below_drew1) | exact HB.out)))); have n1_ := Aside0.mk (below_step (by repeat (first | (with_reducible first | exact HB.out | apply below_alloc | apply pw_below_drewN | apply below_drew1) | exact HB.out)) hb); clear HB; have HO251 := n0_; have HB := n1_; clear n0_ n1_; (try clear hb); (try clear hb2); (try clear hk); (try clear hi); (try clear ho0)) | ((with_reducible refine gate_callee (f := 16) rfl ?_); refine goesL_ (some 30) rfl rfl Try.func16 (by kernel_rfl) rfl #[.slice A3 l3.length c3] rfl (by (try simp only [List.map_toArray, List.map_cons, List.map_nil]); first | done | rfl | (simp only [List.length_drop, List.length_take]; rfl)) ?_; (with_reducible refine (bagnallkeep_cutBytes.calls _ _ l3 t252 _ ?side1 ?side2 A8.out).mono ?_); (case side1 => repeat (first | exact (Kd.C_below HR3.out HB.out) | (with_reducible refine Kd.C_alloc ?_ _) | (with_reducible refine Kd.C_drewN ?_ _) | (with_reducible refine Kd.C_drew ?_))); (case side2 => exact HC3.out); rintro e w20 ⟨v253, rfl, ho0, hb⟩; refine ⟨_, rfl, ?_⟩; have n0_ := Aside0.mk (Kd.R_elder' (by (with_reducible repeat (first | apply Kd.R_alloc | apply Kd.R_drewN | apply Kd.R_drew)); exact HO251.out) (Kd.R_base ho0) hb); have n1_ := Aside0.mk (Kd.R_lower (Kd.R_new' ho0 (Kd.R_lt (by (with_reducible repeat (first | apply Kd.R_alloc | apply Kd.R_drewN | apply Kd.R_drew)); exact HO251.out))) (below_size (by repeat (first | (with_reducible first | exact HB.out | apply below_alloc | apply pw_below_drewN | apply below_drew1) | exact HB.out)))); have n2_ := Aside0.mk (below_step (by repeat (first | (with_reducible first | exact HB.out | apply below_alloc | apply pw_below_drewN | apply below_drew1) | exact HB.out)) hb); clear HO251; clear HB; have HO251 := n0_; have HO254 := n1_; have HB := n2_; clear n0_ n1_ n2_; (try clear hb); (try clear hb2); (try clear hk); (try clear hi); (try clear ho0); obtain ⟨Ao21, co21, eo21⟩ := Kd.R_slice HO251.out; subst eo21) | ((with_reducible refine gate_callee (f := 16) rfl ?_); refine goesL_ (some 35) rfl rfl Try.func16 (by kernel_rfl) rfl #[.slice Ao21 t249.length co21] rfl (by (try simp only [List.map_toArray, List.map_cons, List.map_nil]); first | done | rfl | (simp only [List.length_drop, List.length_take]; rfl)) ?_; (with_reducible refine (bagnallkeep_cutBytes.calls _ _ t249 t255 _ ?side1 ?side2 A9.out).mono ?_); (case side1 => repeat (first | exact (Kd.R_reads' HO251.out).2.2 | (with_reducible refine Kd.C_alloc ?_ _) | (with_reducible refine Kd.C_drewN ?_ _) | (with_reducible refine Kd.C_drew ?_))); (case side2 => exact (Kd.R_reads' HO251.out).2.1); rintro e w22 ⟨v256, rfl, ho0, hb⟩; refine ⟨_, rfl, ?_⟩; have n0_ := Aside0.mk (Kd.R_elder' (by (with_reducible repeat (first | apply Kd.R_alloc | apply Kd.R_drewN | apply Kd.R_drew)); exact HO251.out) (Kd.R_base ho0) hb); have n1_ := Aside0.mk (Kd.R_elder' (by (with_reducible repeat (first | apply Kd.R_alloc | apply Kd.R_drewN | apply Kd.R_drew)); exact HO254.out) (Kd.R_base ho0) hb); have n2_ := Aside0.mk (Kd.R_lower (Kd.R_new' (Kd.R_new' ho0 (Kd.R_lt (by (with_reducible repeat (first | apply Kd.R_alloc | apply Kd.R_drewN | apply Kd.R_drew)); exact HO251.out))) (Kd.R_lt (by (with_reducible repeat (first | apply Kd.R_alloc | apply Kd.R_drewN | apply Kd.R_drew)); exact HO254.out))) (below_size (by repeat (first | (with_reducible first | exact HB.out | apply below_alloc | apply pw_below_drewN | apply below_drew1) | exact HB.out)))); have n3_ := Aside0.mk (below_step (by repeat (first | (with_reducible first | exact HB.out | apply below_alloc | apply pw_below_drewN | apply below_drew1) | exact HB.out)) hb); clear HO251; clear HO254; clear HB; have HO251 := n0_; have HO254 := n1_; have HO257 := n2_; have HB := n3_; clear n0_ n1_ n2_ n3_; (try clear hb); (try clear hb2); (try clear hk); (try clear hi); (try clear ho0); obtain ⟨Ao23, co23, eo23⟩ := Kd.R_slice HO257.out; subst eo23) | ((with_reducible refine gate_callee (f := 21) rfl ?_); refine goesL_ (some 36) rfl rfl Try.func21 (by kernel_rfl) rfl #[.int .i64 t247, .int .i64 t248, .slice Ao23 t255.length co23] rfl (by (try simp only [List.map_toArray, List.map_cons, List.map_nil]); first | done | rfl | (simp only [List.length_drop, List.length_take]; rfl)) ?_; (with_reducible refine (sign_Make.calls k t247 t248 _ _ t255 t258 t259 t260 _ ?side1 ?side2 A10.out).mono ?_); (case side1 => repeat (first | exact (Kd.R_reads' HO257.out).2.2 | (with_reducible refine Kd.C_alloc ?_ _) | (with_reducible refine Kd.C_drewN ?_ _) | (with_reducible refine Kd.C_drew ?_))); (case side2 => exact (Kd.R_reads' HO257.out).2.1); rintro e w24 ⟨rfl, hb⟩; refine ⟨_, rfl, ?_⟩; have n0_ := Aside0.mk (Kd.R_below (by (with_reducible repeat (first | apply Kd.R_alloc | apply Kd.R_drewN | apply Kd.R_drew)); exact HO251.out) hb); have n1_ := Aside0.mk (Kd.R_below (by (with_reducible repeat (first | apply Kd.R_alloc | apply Kd.R_drewN | apply Kd.R_drew)); exact HO254.out) hb); have n2_ := Aside0.mk (Kd.R_below (by (with_reducible repeat (first | apply Kd.R_alloc | apply Kd.R_drewN | apply Kd.R_drew)); exact HO257.out) hb); have n3_ := Aside0.mk (below_step (by repeat (first | (with_reducible first | exact HB.out | apply below_alloc | apply pw_below_drewN | apply below_drew1) | exact HB.out)) hb); clear HO251; clear HO254; clear HO257; clear HB; have HO251 := n0_; have HO254 := n1_; have HO257 := n2_; have HB := n3_; clear n0_ n1_ n2_ n3_; (try clear hb); (try clear hb2); (try clear hk); (try clear hi)) | ((with_reducible refine gate_dst (N := 13) rfl ?_); refine box_event ?hg (N := 13) ?hd (cs := #[.int .i64 0, .int .i64 0]) (t := 34) ?hr ?_; (case hd => rfl); (case hg => rfl); (case hr => first | (go_simp; done) | (go_simp; rfl)); intro gb261 hg w25 hbox hb; have n0_ := Aside0.mk (Kd.R_below (by (with_reducible repeat (first | apply Kd.R_alloc | apply Kd.R_drewN | apply Kd.R_drew)); exact HO251.out) hb); have n1_ := Aside0.mk (Kd.R_below (by (with_reducible repeat (first | apply Kd.R_alloc | apply Kd.R_drewN | apply Kd.R_drew)); exact HO254.out) hb); have n2_ := Aside0.mk (Kd.R_below (by (with_reducible repeat (first | apply Kd.R_alloc | apply Kd.R_drewN | apply Kd.R_drew)); exact HO257.out) hb); have n3_ := Aside0.mk (below_step (by repeat (first | (with_reducible first | exact HB.out | apply below_alloc | apply pw_below_drewN | apply below_drew1) | exact HB.out)) hb); have n4_ := Aside0.mk (hbox); have n5_ := Aside0.mk ((by rw [hg]; exact (below_size (by repeat (first | (with_reducible first | exact HB.out | apply below_alloc | apply pw_below_drewN | apply below_drew1) | exact HB.out))) : w.heap.size ≤ gb261)); have n6_ := Aside0.mk ((by rw [hg]; exact (below_size (by repeat (first | (with_reducible first | exact HB.out | apply below_alloc | apply pw_below_drewN | apply below_drew1) | exact HB.out))) : w.heap.size ≤ gb261)); clear HO251; clear HO254; clear HO257; clear HB; have HO251 := n0_; have HO254 := n1_; have HO257 := n2_; have HB := n3_; have BK261 := n4_; have GW261 := n5_; have GE261 := n6_; clear n0_ n1_ n2_ n3_ n4_ n5_ n6_; clear hb hbox hg; have hcz26_0 : w25.cell? ⟨gb261, 0, none⟩ = some (.int .i64 0) := (blk_cell BK261.out 0).trans rfl; have hcz26_1 : w25.cell? ⟨gb261, 1, none⟩ = some (.int .i64 0) := (blk_cell BK261.out 1).trans rfl; have hfz26_0 := blk_frozen BK261.out 0; have hfz26_1 := blk_frozen BK261.out 1; obtain ⟨Ao27, co27, eo27⟩ := Kd.R_slice HO254.out; subst eo27) | ((with_reducible refine gate_callee (f := 16) rfl ?_); refine goesL_ (some 43) rfl rfl Try.func16 (by kernel_rfl) rfl #[.slice Ao27 t252.length co27] rfl (by (try simp only [List.map_toArray, List.map_cons, List.map_nil]); first | done | rfl | (simp only [List.length_drop, List.length_take]; rfl)) ?_; (with_reducible refine (bagnallkeep_cutBytes.calls _ _ t252 t262 _ ?side1 ?side2 A11.out).mono ?_); (case side1 => refine (Kd.R_reads' (e := 5) (base := w.heap.size) (ok := fun k_ => ((True ∧ some k_ ≠ (.slice Ao21 t249.length co21 : Value).ownBlock) ∧ some k_ ≠ (.slice Ao23 t255.length co23 : Value).ownBlock)) (n := t252.length) (c := co27) ?_).2.2; exact (by (with_reducible repeat (first | apply Kd.R_alloc | apply Kd.R_drewN | apply Kd.R_drew)); exact (Kd.R_mono (Kd.R_far (p := ⟨gb261, 1, none⟩) (Kd.R_far (p := ⟨gb261, 0, none⟩) (Kd.R_types HO254.out BK261.out (by decide)) (fun _ hk => hk.2) (.int .i64 t258)) (fun _ hk => hk.2) (.int .i64 t259)) (fun _ h_ => h_.1)))); (case side2 => exact (Kd.R_reads' HO254.out).2.1); rintro e w28 ⟨v263, rfl, ho0, hb⟩; refine ⟨_, rfl, ?_⟩; have n0_ := Aside0.mk (Kd.R_elder' (by (with_reducible repeat (first | apply Kd.R_alloc | apply Kd.R_drewN | apply Kd.R_drew)); exact (Kd.R_mono (Kd.R_far (p := ⟨gb261, 1, none⟩) (Kd.R_far (p := ⟨gb261, 0, none⟩) (Kd.R_types HO251.out BK261.out (by decide)) (fun _ hk => hk.2) (.int .i64 t258)) (fun _ hk => hk.2) (.int .i64 t259)) (fun _ h_ => h_.1))) (Kd.R_base ho0) hb); have n1_ := Aside0.mk (Kd.R_elder' (by (with_reducible repeat (first | apply Kd.R_alloc | apply Kd.R_drewN | apply Kd.R_drew)); exact (Kd.R_mono (Kd.R_far (p := ⟨gb261, 1, none⟩) (Kd.R_far (p := ⟨gb261, 0, none⟩) (Kd.R_types HO254.out BK261.out (by decide)) (fun _ hk => hk.2) (.int .i64 t258)) (fun _ hk => hk.2) (.int .i64 t259)) (fun _ h_ => h_.1))) (Kd.R_base ho0) hb); have n2_ := Aside0.mk (Kd.R_elder' (by (with_reducible repeat (first | apply Kd.R_alloc | apply Kd.R_drewN | apply Kd.R_drew)); exact (Kd.R_mono (Kd.R_far (p := ⟨gb261, 1, none⟩) (Kd.R_far (p := ⟨gb261, 0, none⟩) (Kd.R_types HO257.out BK261.out (by decide)) (fun _ hk => hk.2) (.int .i64 t258)) (fun _ hk => hk.2) (.int .i64 t259)) (fun _ h_ => h_.1))) (Kd.R_base ho0) hb); have n3_ := Aside0.mk (Kd.R_lower (Kd.R_new' (Kd.R_new' (Kd.R_new' ho0 (Kd.R_lt (by (with_reducible repeat (first | apply Kd.R_alloc | apply Kd.R_drewN | apply Kd.R_drew)); exact (Kd.R_mono (Kd.R_far (p := ⟨gb261, 1, none⟩) (Kd.R_far (p := ⟨gb261, 0, none⟩) (Kd.R_types HO251.out BK261.out (by decide)) (fun _ hk => hk.2) (.int .i64 t258)) (fun _ hk => hk.2) (.int .i64 t259)) (fun _ h_ => h_.1))))) (Kd.R_lt (by (with_reducible repeat (first | apply Kd.R_alloc | apply Kd.R_drewN | apply Kd.R_drew)); exact (Kd.R_mono (Kd.R_far (p := ⟨gb261, 1, none⟩) (Kd.R_far (p := ⟨gb261, 0, none⟩) (Kd.R_types HO254.out BK261.out (by decide)) (fun _ hk => hk.2) (.int .i64 t258)) (fun _ hk => hk.2) (.int .i64 t259)) (fun _ h_ => h_.1))))) (Kd.R_lt (by (with_reducible repeat (first | apply Kd.R_alloc | apply Kd.R_drewN | apply Kd.R_drew)); exact (Kd.R_mono (Kd.R_far (p := ⟨gb261, 1, none⟩) (Kd.R_far (p := ⟨gb261, 0, none⟩) (Kd.R_types HO257.out BK261.out (by decide)) (fun _ hk => hk.2) (.int .i64 t258)) (fun _ hk => hk.2) (.int .i64 t259)) (fun _ h_ => h_.1))))) (below_size (by repeat (first | (with_reducible first | exact HB.out | apply below_alloc | apply pw_below_drewN | apply below_drew1 | refine below_set ?_ GE261.out) | exact HB.out)))); have n4_ := Aside0.mk (blk_below (g := gb261) (o := .cells #[.int .i64 t258, .int .i64 t259] 34 (0, 0)) (by (with_reducible repeat (first | refine blk_drewN ?_ _ | refine blk_drew ?_ | refine blk_alloc ?_ _)); refine blk_put (cs := #[.int .i64 t258, .int .i64 0]) ?_ 1 _ rfl; (with_reducible repeat (first | refine blk_drewN ?_ _ | refine blk_drew ?_ | refine blk_alloc ?_ _)); refine blk_put (cs := #[.int .i64 0, .int .i64 0]) ?_ 0 _ rfl; (with_reducible repeat (first | refine blk_drewN ?_ _ | refine blk_drew ?_ | refine blk_alloc ?_ _)); exact BK261.out) hb); have n5_ := Aside0.mk (below_step (by repeat (first | (with_reducible first | exact HB.out | apply below_alloc | apply pw_below_drewN | apply below_drew1 | refine below_set ?_ GE261.out) | exact HB.out)) hb); clear HO251; clear HO254; clear HO257; clear BK261; clear HB; have HO251 := n0_; have HO254 := n1_; have HO257 := n2_; have HO264 := n3_; have BK261 := n4_; have HB := n5_; clear n0_ n1_ n2_ n3_ n4_ n5_; (try clear hb); (try clear hb2); (try clear hk); (try clear hi); (try clear ho0); obtain ⟨Ao29, co29, eo29⟩ := Kd.R_slice HO264.out; subst eo29) | ((with_reducible refine gate_callee (f := 21) rfl ?_); refine goesL_ (some 44) rfl rfl Try.func21 (by kernel_rfl) rfl #[.int .i64 t247, .int .i64 t248, .slice Ao29 t262.length co29] rfl (by (try simp only [List.map_toArray, List.map_cons, List.map_nil]); first | done | rfl | (simp only [List.length_drop, List.length_take]; rfl)) ?_; (with_reducible refine (sign_Make.calls k t247 t248 _ _ t262 t265 t266 t267 _ ?side1 ?side2 A12.out).mono ?_); (case side1 => repeat (first | exact (Kd.R_reads' HO264.out).2.2 | (with_reducible refine Kd.C_alloc ?_ _) | (with_reducible refine Kd.C_drewN ?_ _) | (with_reducible refine Kd.C_drew ?_))); (case side2 => exact (Kd.R_reads' HO264.out).2.1); rintro e w30 ⟨rfl, hb⟩; refine ⟨_, rfl, ?_⟩; have n0_ := Aside0.mk (Kd.R_below (by (with_reducible repeat (first | apply Kd.R_alloc | apply Kd.R_drewN | apply Kd.R_drew)); exact HO251.out) hb); have n1_ := Aside0.mk (Kd.R_below (by (with_reducible repeat (first | apply Kd.R_alloc | apply Kd.R_drewN | apply Kd.R_drew)); exact HO254.out) hb); have n2_ := Aside0.mk (Kd.R_below (by (with_reducible repeat (first | apply Kd.R_alloc | apply Kd.R_drewN | apply Kd.R_drew)); exact HO257.out) hb); have n3_ := Aside0.mk (Kd.R_below (by (with_reducible repeat (first | apply Kd.R_alloc | apply Kd.R_drewN | apply Kd.R_drew)); exact HO264.out) hb); have n4_ := Aside0.mk (blk_below (g := gb261) (o := .cells #[.int .i64 t258, .int .i64 t259] 34 (0, 0)) (by (with_reducible repeat (first | refine blk_drewN ?_ _ | refine blk_drew ?_ | refine blk_alloc ?_ _)); exact BK261.out) hb); have n5_ := Aside0.mk (below_step (by repeat (first | (with_reducible first | exact HB.out | apply below_alloc | apply pw_below_drewN | apply below_drew1 | refine below_set ?_ GE261.out) | exact HB.out)) hb); clear HO251; clear HO254; clear HO257; clear HO264; clear BK261; clear HB; have HO251 := n0_; have HO254 := n1_; have HO257 := n2_; have HO264 := n3_; have BK261 := n4_; have HB := n5_; clear n0_ n1_ n2_ n3_ n4_ n5_; (try clear hb); (try clear hb2); (try clear hk); (try clear hi)) | ((with_reducible refine gate_dst (N := 15) rfl ?_); refine box_event ?hg (N := 15) ?hd (cs := #[.int .i64 0, .int .i64 0]) (t := 34) ?hr ?_; (case hd => rfl); (case hg => rfl); (case hr => first | (go_simp; done) | (go_simp; rfl)); intro gb268 hg w31 hbox hb; have n0_ := Aside0.mk (Kd.R_below (by (with_reducible repeat (first | apply Kd.R_alloc | apply Kd.R_drewN | apply Kd.R_drew)); exact HO251.out) hb); have n1_ := Aside0.mk (Kd.R_below (by (with_reducible repeat (first | apply Kd.R_alloc | apply Kd.R_drewN | apply Kd.R_drew)); exact HO254.out) hb); have n2_ := Aside0.mk (Kd.R_below (by (with_reducible repeat (first | apply Kd.R_alloc | apply Kd.R_drewN | apply Kd.R_drew)); exact HO257.out) hb); have n3_ := Aside0.mk (Kd.R_below (by (with_reducible repeat (first | apply Kd.R_alloc | apply Kd.R_drewN | apply Kd.R_drew)); exact HO264.out) hb); have n4_ := Aside0.mk (blk_below (g := gb261) (o := .cells #[.int .i64 t258, .int .i64 t259] 34 (0, 0)) (by (with_reducible repeat (first | refine blk_drewN ?_ _ | refine blk_drew ?_ | refine blk_alloc ?_ _)); exact BK261.out) hb); have n5_ := Aside0.mk (below_step (by repeat (first | (with_reducible first | exact HB.out | apply below_alloc | apply pw_below_drewN | apply below_drew1 | refine below_set ?_ GE261.out) | exact HB.out)) hb); have n6_ := Aside0.mk (hbox); have n7_ := Aside0.mk ((by rw [hg]; exact (below_size (by repeat (first | (with_reducible first | exact HB.out | apply below_alloc | apply pw_below_drewN | apply below_drew1 | refine below_set ?_ GE261.out) | exact HB.out))) : w.heap.size ≤ gb268)); have n8_ := Aside0.mk ((by rw [hg]; exact (below_size (by repeat (first | (with_reducible first | exact HB.out | apply below_alloc | apply pw_below_drewN | apply below_drew1 | refine below_set ?_ GE261.out) | exact HB.out))) : w.heap.size ≤ gb268)); have n9_ := Aside0.mk ((by rw [hg]; exact Nat.ne_of_lt (blk_lt (g := gb261) (o := .cells #[.int .i64 t258, .int .i64 t259] 34 (0, 0)) (by (with_reducible repeat (first | refine blk_drewN ?_ _ | refine blk_drew ?_ | refine blk_alloc ?_ _)); exact BK261.out)) : gb261 ≠ gb268)); have n10_ := Aside0.mk ((by rw [hg]; exact Nat.ne_of_gt (blk_lt (g := gb261) (o := .cells #[.int .i64 t258, .int .i64 t259] 34 (0, 0)) (by (with_reducible repeat (first | refine blk_drewN ?_ _ | refine blk_drew ?_ | refine blk_alloc ?_ _)); exact BK261.out)) : gb268 ≠ gb261)); clear HO251; clear HO254; clear HO257; clear HO264; clear BK261; clear HB; have HO251 := n0_; have HO254 := n1_; have HO257 := n2_; have HO264 := n3_; have BK261 := n4_; have HB := n5_; have BK268 := n6_; have GW268 := n7_; have GE268 := n8_; have NB261_268 := n9_; have NB268_261 := n10_; clear n0_ n1_ n2_ n3_ n4_ n5_ n6_ n7_ n8_ n9_ n10_; clear hb hbox hg; have hnb32 := NB268_261.out; have hnc32 := NB261_268.out; have hcz33_0 : w31.cell? ⟨gb268, 0, none⟩ = some (.int .i64 0) := (blk_cell BK268.out 0).trans rfl; have hcz33_1 : w31.cell? ⟨gb268, 1, none⟩ = some (.int .i64 0) := (blk_cell BK268.out 1).trans rfl; have hfz33_0 := blk_frozen BK268.out 0; have hfz33_1 := blk_frozen BK268.out 1))
  have n0_ : Aside0 (Kd.R (Kd.int .u8) 5 ((w31.setCell ⟨gb268, 0, none⟩ (.int .i64 t265)).setCell ⟨gb268, 1, none⟩ (.int .i64 t266)) w.heap.size (fun k_ => some k_ ≠ (.slice Ao27 t252.length co27 : Value).ownBlock ∧ some k_ ≠ (.slice Ao23 t255.length co23 : Value).ownBlock ∧ some k_ ≠ (.slice Ao29 t262.length co29 : Value).ownBlock) (.slice Ao21 t249.length co21) t249) := ⟨by (with_reducible repeat (first | apply Kd.R_alloc | apply Kd.R_drewN | apply Kd.R_drew)); exact Kd.R_mono (Kd.R_far (p := ⟨gb268, 1, none⟩) (Kd.R_far (p := ⟨gb268, 0, none⟩) (Kd.R_types HO251.out BK268.out (by decide)) (fun _ hk => hk.2) (.int .i64 t265)) (fun _ hk => hk.2) (.int .i64 t266)) (fun _ hk => ⟨hk.1.1.1.2, ⟨hk.1.1.2, hk.1.2⟩⟩)⟩
  have n1_ : Aside0 (Kd.R (Kd.int .u8) 5 ((w31.setCell ⟨gb268, 0, none⟩ (.int .i64 t265)).setCell ⟨gb268, 1, none⟩ (.int .i64 t266)) w.heap.size (fun k_ => some k_ ≠ (.slice Ao21 t249.length co21 : Value).ownBlock ∧ some k_ ≠ (.slice Ao23 t255.length co23 : Value).ownBlock ∧ some k_ ≠ (.slice Ao29 t262.length co29 : Value).ownBlock) (.slice Ao27 t252.length co27) t252) := ⟨by (with_reducible repeat (first | apply Kd.R_alloc | apply Kd.R_drewN | apply Kd.R_drew)); exact Kd.R_mono (Kd.R_far (p := ⟨gb268, 1, none⟩) (Kd.R_far (p := ⟨gb268, 0, none⟩) (Kd.R_types HO254.out BK268.out (by decide)) (fun _ hk => hk.2) (.int .i64 t265)) (fun _ hk => hk.2) (.int .i64 t266)) (fun _ hk => ⟨hk.1.1.1.2, ⟨hk.1.1.2, hk.1.2⟩⟩)⟩
  have n2_ : Aside0 (Kd.R (Kd.int .u8) 5 ((w31.setCell ⟨gb268, 0, none⟩ (.int .i64 t265)).setCell ⟨gb268, 1, none⟩ (.int .i64 t266)) w.heap.size (fun k_ => some k_ ≠ (.slice Ao21 t249.length co21 : Value).ownBlock ∧ some k_ ≠ (.slice Ao27 t252.length co27 : Value).ownBlock ∧ some k_ ≠ (.slice Ao29 t262.length co29 : Value).ownBlock) (.slice Ao23 t255.length co23) t255) := ⟨by (with_reducible repeat (first | apply Kd.R_alloc | apply Kd.R_drewN | apply Kd.R_drew)); exact Kd.R_mono (Kd.R_far (p := ⟨gb268, 1, none⟩) (Kd.R_far (p := ⟨gb268, 0, none⟩) (Kd.R_types HO257.out BK268.out (by decide)) (fun _ hk => hk.2) (.int .i64 t265)) (fun _ hk => hk.2) (.int .i64 t266)) (fun _ hk => ⟨hk.1.1.1.2, ⟨hk.1.1.2, hk.1.2⟩⟩)⟩
  have n3_ : Aside0 (Kd.R (Kd.int .u8) 5 ((w31.setCell ⟨gb268, 0, none⟩ (.int .i64 t265)).setCell ⟨gb268, 1, none⟩ (.int .i64 t266)) w.heap.size (fun k_ => some k_ ≠ (.slice Ao21 t249.length co21 : Value).ownBlock ∧ some k_ ≠ (.slice Ao27 t252.length co27 : Value).ownBlock ∧ some k_ ≠ (.slice Ao23 t255.length co23 : Value).ownBlock) (.slice Ao29 t262.length co29) t262) := ⟨by (with_reducible repeat (first | apply Kd.R_alloc | apply Kd.R_drewN | apply Kd.R_drew)); exact Kd.R_mono (Kd.R_far (p := ⟨gb268, 1, none⟩) (Kd.R_far (p := ⟨gb268, 0, none⟩) (Kd.R_types HO264.out BK268.out (by decide)) (fun _ hk => hk.2) (.int .i64 t265)) (fun _ hk => hk.2) (.int .i64 t266)) (fun _ hk => ⟨hk.1.1.1.2, ⟨hk.1.1.2, hk.1.2⟩⟩)⟩
  have n4_ : Aside0 (((w31.setCell ⟨gb268, 0, none⟩ (.int .i64 t265)).setCell ⟨gb268, 1, none⟩ (.int .i64 t266)).heap[gb261]? = some (.cells #[.int .i64 t258, .int .i64 t259] 34 (0, 0))) := ⟨by (with_reducible repeat (first | refine blk_drewN ?_ _ | refine blk_drew ?_ | refine blk_alloc ?_ _)); refine blk_far ?_ NB261_268.out _; (with_reducible repeat (first | refine blk_drewN ?_ _ | refine blk_drew ?_ | refine blk_alloc ?_ _)); refine blk_far ?_ NB261_268.out _; (with_reducible repeat (first | refine blk_drewN ?_ _ | refine blk_drew ?_ | refine blk_alloc ?_ _)); exact BK261.out⟩
  have n5_ : Aside0 (((w31.setCell ⟨gb268, 0, none⟩ (.int .i64 t265)).setCell ⟨gb268, 1, none⟩ (.int .i64 t266)).heap[gb268]? = some (.cells #[.int .i64 t265, .int .i64 t266] 34 (0, 0))) := ⟨by (with_reducible repeat (first | refine blk_drewN ?_ _ | refine blk_drew ?_ | refine blk_alloc ?_ _)); refine blk_put (cs := #[.int .i64 t265, .int .i64 0]) ?_ 1 _ rfl; (with_reducible repeat (first | refine blk_drewN ?_ _ | refine blk_drew ?_ | refine blk_alloc ?_ _)); refine blk_put (cs := #[.int .i64 0, .int .i64 0]) ?_ 0 _ rfl; (with_reducible repeat (first | refine blk_drewN ?_ _ | refine blk_drew ?_ | refine blk_alloc ?_ _)); exact BK268.out⟩
  have n6_ : Aside0 (Below w.heap.size w ((w31.setCell ⟨gb268, 0, none⟩ (.int .i64 t265)).setCell ⟨gb268, 1, none⟩ (.int .i64 t266))) := ⟨by repeat (first | (with_reducible first | exact HB.out | apply below_alloc | apply pw_below_drewN | apply below_drew1 | refine below_set ?_ GE261.out | refine below_set ?_ GE268.out) | exact HB.out)⟩
  (try clear HO251)
  (try clear HO254)
  (try clear HO257)
  (try clear HO264)
  (try clear BK261)
  (try clear BK268)
  (try clear HB)
  generalize ((w31.setCell ⟨gb268, 0, none⟩ (.int .i64 t265)).setCell ⟨gb268, 1, none⟩ (.int .i64 t266)) = w34 at n0_ n1_ n2_ n3_ n4_ n5_ n6_ ⊢
  have HO251 := n0_
  have HO254 := n1_
  have HO257 := n2_
  have HO264 := n3_
  have BK261 := n4_
  have BK268 := n5_
  have HB := n6_
  clear n0_ n1_ n2_ n3_ n4_ n5_ n6_
  have n0_ := Aside0.mk (Kd.R_drew HO251.out)
  have n1_ := Aside0.mk (Kd.R_drew HO254.out)
  have n2_ := Aside0.mk (Kd.R_drew HO257.out)
  have n3_ := Aside0.mk (Kd.R_drew HO264.out)
  have n4_ := Aside0.mk (blk_drew BK261.out)
  have n5_ := Aside0.mk (blk_drew BK268.out)
  have n6_ := Aside0.mk (below_drew1 HB.out)
  clear HO251
  clear HO254
  clear HO257
  clear HO264
  clear BK261
  clear BK268
  clear HB
  have HO251 := n0_
  have HO254 := n1_
  have HO257 := n2_
  have HO264 := n3_
  have BK261 := n4_
  have BK268 := n5_
  have HB := n6_
  clear n0_ n1_ n2_ n3_ n4_ n5_ n6_
  refine start_ (n := 10) (S := fun w' => w'.cell? ⟨gb261, 0, none⟩ = some (.int .i64 t258) ∧ w'.cell? ⟨gb261, 1, none⟩ = some (.int .i64 t259)) (ds := []) #[false, false, false, false, false, false, false, false, false, false] (by kernel_rfl) rfl rfl ⟨(blk_cell BK261.out 0).trans rfl, (blk_cell BK261.out 1).trans rfl⟩ (fun hHeld => ?_); refine with_tabW bagnallkeep_SignTwice.tab7 bagnallkeep_SignTwice.bits7 (fun HT_ HW_ => ?_)
  generalize w34.drew = w35 at HO251 HO254 HO257 HO264 BK261 BK268 HB hHeld ⊢
  refine pure_ (i := 0) (N := some 48) (v := ?_) (a' := ?_) #[true, false, false, false, false, false, false, false, false, false] rfl rfl (any_of HT_.out (by kernel_rfl)) (fun _ _ _ h => h) (Or.inl ⟨by rfl, ?_⟩) ?_ ?_
  rotate_left
  · intro w'
    go_simp
    with_reducible rfl
  rotate_left
  · simp only [Act.put, List.setIfInBounds_toArray, List.set_cons_zero, List.set_cons_succ, i64_w, i32_w]
    rfl
  refine pure_ (i := 2) (N := some 50) (v := ?_) (a' := ?_) #[true, false, true, false, false, false, false, false, false, false] rfl rfl (any_of HT_.out (by kernel_rfl)) (fun _ _ _ h => h) (Or.inl ⟨by rfl, ?_⟩) ?_ ?_
  rotate_left
  · intro w'
    go_simp
    with_reducible rfl
  rotate_left
  · simp only [Act.put, List.setIfInBounds_toArray, List.set_cons_zero, List.set_cons_succ, i64_w, i32_w]
    rfl
  refine take_ (i := 1) (N := some 49) (v := ?_) (a' := ?_) #[true, true, true, false, false, false, false, false, false, false] rfl rfl (take_ofW HT_.out HW_.out (by kernel_rfl)) (fun _ _ _ h => h) (Or.inl ⟨by rfl, ?_⟩) hHeld ?_ ?_
  rotate_left
  · rintro w' ⟨s0, s1⟩
    go_simp
    with_reducible rfl
  rotate_left
  · simp only [Act.put, List.setIfInBounds_toArray, List.set_cons_zero, List.set_cons_succ, i64_w, i32_w]
    rfl
  refine one_ (i := 3) (N := some 51) #[true, true, true, true, false, false, false, false, false, false] rfl rfl (one_of HT_.out (by kernel_rfl)) (by decide) (fun K hK => ?_)
  refine goes_ Try.func16 (by kernel_rfl) rfl #[.slice Ao21 t249.length co21] (by rfl) rfl rfl (by (try simp only [List.map_toArray, List.map_cons, List.map_nil]); first | done | rfl | (simp only [List.length_drop, List.length_take]; rfl)) ?_
  with_reducible refine (bagnallkeep_cutBytes.calls _ _ t249 t269 _ ?side1 ?side2 A13.out).mono ?_
  (case side1 => repeat (first | exact (Kd.R_reads' HO251.out).2.2 | (with_reducible refine Kd.C_alloc ?_ _) | (with_reducible refine Kd.C_drewN ?_ _) | (with_reducible refine Kd.C_drew ?_)))
  (case side2 => exact (Kd.R_reads' HO251.out).2.1)
  rintro e w36 ⟨v270, rfl, ho0, hb⟩
  refine ⟨_, rfl, ?_⟩
  have n0_ := Aside0.mk (Kd.R_elder' (by (with_reducible repeat (first | apply Kd.R_alloc | apply Kd.R_drewN | apply Kd.R_drew)); exact HO251.out) (Kd.R_base ho0) hb)
  have n1_ := Aside0.mk (Kd.R_elder' (by (with_reducible repeat (first | apply Kd.R_alloc | apply Kd.R_drewN | apply Kd.R_drew)); exact HO254.out) (Kd.R_base ho0) hb)
  have n2_ := Aside0.mk (Kd.R_elder' (by (with_reducible repeat (first | apply Kd.R_alloc | apply Kd.R_drewN | apply Kd.R_drew)); exact HO257.out) (Kd.R_base ho0) hb)
  have n3_ := Aside0.mk (Kd.R_elder' (by (with_reducible repeat (first | apply Kd.R_alloc | apply Kd.R_drewN | apply Kd.R_drew)); exact HO264.out) (Kd.R_base ho0) hb)
  have n4_ := Aside0.mk (Kd.R_lower (Kd.R_new' (Kd.R_new' (Kd.R_new' (Kd.R_new' ho0 (Kd.R_lt (by (with_reducible repeat (first | apply Kd.R_alloc | apply Kd.R_drewN | apply Kd.R_drew)); exact HO251.out))) (Kd.R_lt (by (with_reducible repeat (first | apply Kd.R_alloc | apply Kd.R_drewN | apply Kd.R_drew)); exact HO254.out))) (Kd.R_lt (by (with_reducible repeat (first | apply Kd.R_alloc | apply Kd.R_drewN | apply Kd.R_drew)); exact HO257.out))) (Kd.R_lt (by (with_reducible repeat (first | apply Kd.R_alloc | apply Kd.R_drewN | apply Kd.R_drew)); exact HO264.out))) (below_size (by repeat (first | (with_reducible first | exact HB.out | apply below_alloc | apply pw_below_drewN | apply below_drew1 | refine below_set ?_ GE261.out | refine below_set ?_ GE268.out) | exact HB.out))))
  have n5_ := Aside0.mk (blk_below (g := gb261) (o := .cells #[.int .i64 t258, .int .i64 t259] 34 (0, 0)) (by (with_reducible repeat (first | refine blk_drewN ?_ _ | refine blk_drew ?_ | refine blk_alloc ?_ _)); exact BK261.out) hb)
  have n6_ := Aside0.mk (blk_below (g := gb268) (o := .cells #[.int .i64 t265, .int .i64 t266] 34 (0, 0)) (by (with_reducible repeat (first | refine blk_drewN ?_ _ | refine blk_drew ?_ | refine blk_alloc ?_ _)); exact BK268.out) hb)
  have n7_ := Aside0.mk (below_step (by repeat (first | (with_reducible first | exact HB.out | apply below_alloc | apply pw_below_drewN | apply below_drew1 | refine below_set ?_ GE261.out | refine below_set ?_ GE268.out) | exact HB.out)) hb)
  clear HO251
  clear HO254
  clear HO257
  clear HO264
  clear BK261
  clear BK268
  clear HB
  have HO251 := n0_
  have HO254 := n1_
  have HO257 := n2_
  have HO264 := n3_
  have HO271 := n4_
  have BK261 := n5_
  have BK268 := n6_
  have HB := n7_
  clear n0_ n1_ n2_ n3_ n4_ n5_ n6_ n7_
  (try clear hb)
  (try clear hb2)
  (try clear hk)
  (try clear hi)
  (try clear ho0)
  obtain ⟨Ao37, co37, eo37⟩ := Kd.R_slice HO271.out
  (first | subst eo37 | (injection eo37 with f1_ f2_ f3_; have f4_ := f1_.symm; have f5_ := f3_.symm; clear f1_ f2_ f3_; subst f4_; subst f5_))
  refine hK.out _ _ ⟨(blk_cell BK261.out 0).trans rfl, (blk_cell BK261.out 1).trans rfl⟩ (fun hHeld => ?_)
  clear hK K
  refine norm_ (a' := ?_) ?_ ?_
  rotate_left
  · show Act.put _ (some 51) _ = _
    simp only [Act.put, List.setIfInBounds_toArray, List.set_cons_zero, List.set_cons_succ, i64_w, i32_w]
    rfl
  refine one_ (i := 4) (N := some 52) #[true, true, true, true, true, false, false, false, false, false] rfl rfl (one_of HT_.out (by kernel_rfl)) (by decide) (fun K hK => ?_)
  refine goes_ Try.func17 (by kernel_rfl) rfl #[.int .i64 t258, .slice Ao37 t269.length co37] (by rfl) rfl rfl (by (try simp only [List.map_toArray, List.map_cons, List.map_nil]); first | done | rfl | (simp only [List.length_drop, List.length_take]; rfl)) ?_
  with_reducible refine (sign_Hash.calls k t258 _ _ t269 t272 t273 _ ?side1 ?side2 A14.out).mono ?_
  (case side1 => repeat (first | exact (Kd.R_reads' HO271.out).2.2 | (with_reducible refine Kd.C_alloc ?_ _) | (with_reducible refine Kd.C_drewN ?_ _) | (with_reducible refine Kd.C_drew ?_)))
  (case side2 => exact (Kd.R_reads' HO271.out).2.1)
  rintro e w' ⟨rfl, ⟨nd, rfl⟩⟩
  refine ⟨_, rfl, ?_⟩
  refine hK.out _ _ ⟨(blk_cell BK261.out 0).trans rfl, (blk_cell BK261.out 1).trans rfl⟩ (fun hHeld => ?_)
  clear hK K
  refine norm_ (a' := ?_) ?_ ?_
  rotate_left
  · show Act.put _ (some 52) _ = _
    simp only [Act.put, List.setIfInBounds_toArray, List.set_cons_zero, List.set_cons_succ, i64_w, i32_w]
    rfl
  refine pure_ (i := 5) (N := some 47) (v := ?_) (a' := ?_) #[true, true, true, true, true, true, false, false, false, false] rfl rfl (any_of HT_.out (by kernel_rfl)) (fun _ _ _ h => h) (Or.inl ⟨by rfl, ?_⟩) ?_ ?_
  rotate_left
  · intro w'
    go_simp
    with_reducible rfl
  rotate_left
  · simp only [Act.put, List.setIfInBounds_toArray, List.set_cons_zero, List.set_cons_succ, i64_w, i32_w]
    rfl
  refine pure_ (i := 6) (N := some 53) (v := ?_) (a' := ?_) #[true, true, true, true, true, true, true, false, false, false] rfl rfl (any_of HT_.out (by kernel_rfl)) (fun _ _ _ h => h) (Or.inl ⟨by rfl, ?_⟩) ?_ ?_
  rotate_left
  · intro w'
    go_simp
    with_reducible rfl
  rotate_left
  · simp only [Act.put, List.setIfInBounds_toArray, List.set_cons_zero, List.set_cons_succ, i64_w, i32_w]
    rfl
  refine pure_ (i := 7) (N := some 54) (v := ?_) (a' := ?_) #[true, true, true, true, true, true, true, true, false, false] rfl rfl (any_of HT_.out (by kernel_rfl)) (fun _ _ _ h => h) (Or.inl ⟨by rfl, ?_⟩) ?_ ?_
  rotate_left
  · intro w'
    go_simp
    with_reducible rfl
  rotate_left
  · simp only [Act.put, List.setIfInBounds_toArray, List.set_cons_zero, List.set_cons_succ, i64_w, i32_w]
    rfl
  refine pure_ (i := 8) (N := some 17) (v := ?_) (a' := ?_) #[true, true, true, true, true, true, true, true, true, false] rfl rfl (any_of HT_.out (by kernel_rfl)) (fun _ _ _ h => h) (Or.inl ⟨by rfl, ?_⟩) ?_ ?_
  rotate_left
  · intro w'
    go_simp
    with_reducible rfl
  rotate_left
  · simp only [Act.put, List.setIfInBounds_toArray, List.set_cons_zero, List.set_cons_succ, i64_w, i32_w]
    rfl
  refine pure_ (i := 9) (N := some 18) (v := ?_) (a' := ?_) #[true, true, true, true, true, true, true, true, true, true] rfl rfl (any_of HT_.out (by kernel_rfl)) (fun _ _ _ h => h) (Or.inl ⟨by rfl, ?_⟩) ?_ ?_
  rotate_left
  · intro w'
    go_simp
    with_reducible rfl
  rotate_left
  · simp only [Act.put, List.setIfInBounds_toArray, List.set_cons_zero, List.set_cons_succ, i64_w, i32_w]
    rfl
  refine done_ (done_of HT_.out (by kernel_rfl)) ?_
  try go_wp2
  (try (rw [drewN_self w36]; generalize hq_ : World.drewN w36 _ = w36; have n0_ : Aside0 (Kd.R (Kd.int .u8) 5 w36 w.heap.size (fun k_ => some k_ ≠ (.slice Ao27 t252.length co27 : Value).ownBlock ∧ some k_ ≠ (.slice Ao23 t255.length co23 : Value).ownBlock ∧ some k_ ≠ (.slice Ao29 t262.length co29 : Value).ownBlock ∧ some k_ ≠ (.slice Ao37 t269.length co37 : Value).ownBlock) (.slice Ao21 t249.length co21) t249) := ⟨by rw [← hq_]; first | exact (by (with_reducible repeat (first | apply Kd.R_alloc | apply Kd.R_drewN | apply Kd.R_drew)); exact Kd.R_mono HO251.out (fun _ hk => ⟨hk.1.1, ⟨hk.1.2.1, ⟨hk.1.2.2, hk.2⟩⟩⟩)) | exact (by (with_reducible repeat (first | apply Kd.R_alloc | apply Kd.R_drewN | apply Kd.R_drew)); exact Kd.R_mono HO251.out (fun _ hk => by first | exact hk | exact hk.2 | simp_all))⟩; have n1_ : Aside0 (Kd.R (Kd.int .u8) 5 w36 w.heap.size (fun k_ => some k_ ≠ (.slice Ao21 t249.length co21 : Value).ownBlock ∧ some k_ ≠ (.slice Ao23 t255.length co23 : Value).ownBlock ∧ some k_ ≠ (.slice Ao29 t262.length co29 : Value).ownBlock ∧ some k_ ≠ (.slice Ao37 t269.length co37 : Value).ownBlock) (.slice Ao27 t252.length co27) t252) := ⟨by rw [← hq_]; first | exact (by (with_reducible repeat (first | apply Kd.R_alloc | apply Kd.R_drewN | apply Kd.R_drew)); exact Kd.R_mono HO254.out (fun _ hk => ⟨hk.1.1, ⟨hk.1.2.1, ⟨hk.1.2.2, hk.2⟩⟩⟩)) | exact (by (with_reducible repeat (first | apply Kd.R_alloc | apply Kd.R_drewN | apply Kd.R_drew)); exact Kd.R_mono HO254.out (fun _ hk => by first | exact hk | exact hk.2 | simp_all))⟩; have n2_ : Aside0 (Kd.R (Kd.int .u8) 5 w36 w.heap.size (fun k_ => some k_ ≠ (.slice Ao21 t249.length co21 : Value).ownBlock ∧ some k_ ≠ (.slice Ao27 t252.length co27 : Value).ownBlock ∧ some k_ ≠ (.slice Ao29 t262.length co29 : Value).ownBlock ∧ some k_ ≠ (.slice Ao37 t269.length co37 : Value).ownBlock) (.slice Ao23 t255.length co23) t255) := ⟨by rw [← hq_]; first | exact (by (with_reducible repeat (first | apply Kd.R_alloc | apply Kd.R_drewN | apply Kd.R_drew)); exact Kd.R_mono HO257.out (fun _ hk => ⟨hk.1.1, ⟨hk.1.2.1, ⟨hk.1.2.2, hk.2⟩⟩⟩)) | exact (by (with_reducible repeat (first | apply Kd.R_alloc | apply Kd.R_drewN | apply Kd.R_drew)); exact Kd.R_mono HO257.out (fun _ hk => by first | exact hk | exact hk.2 | simp_all))⟩; have n3_ : Aside0 (Kd.R (Kd.int .u8) 5 w36 w.heap.size (fun k_ => some k_ ≠ (.slice Ao21 t249.length co21 : Value).ownBlock ∧ some k_ ≠ (.slice Ao27 t252.length co27 : Value).ownBlock ∧ some k_ ≠ (.slice Ao23 t255.length co23 : Value).ownBlock ∧ some k_ ≠ (.slice Ao37 t269.length co37 : Value).ownBlock) (.slice Ao29 t262.length co29) t262) := ⟨by rw [← hq_]; first | exact (by (with_reducible repeat (first | apply Kd.R_alloc | apply Kd.R_drewN | apply Kd.R_drew)); exact Kd.R_mono HO264.out (fun _ hk => ⟨hk.1.1, ⟨hk.1.2.1, ⟨hk.1.2.2, hk.2⟩⟩⟩)) | exact (by (with_reducible repeat (first | apply Kd.R_alloc | apply Kd.R_drewN | apply Kd.R_drew)); exact Kd.R_mono HO264.out (fun _ hk => by first | exact hk | exact hk.2 | simp_all))⟩; have n4_ : Aside0 (Kd.R (Kd.int .u8) 5 w36 w.heap.size (fun k_ => some k_ ≠ (.slice Ao21 t249.length co21 : Value).ownBlock ∧ some k_ ≠ (.slice Ao27 t252.length co27 : Value).ownBlock ∧ some k_ ≠ (.slice Ao23 t255.length co23 : Value).ownBlock ∧ some k_ ≠ (.slice Ao29 t262.length co29 : Value).ownBlock) (.slice Ao37 t269.length co37) t269) := ⟨by rw [← hq_]; first | exact (by (with_reducible repeat (first | apply Kd.R_alloc | apply Kd.R_drewN | apply Kd.R_drew)); exact Kd.R_mono HO271.out (fun _ hk => ⟨hk.1.1.1.2, ⟨hk.1.1.2, ⟨hk.1.2, hk.2⟩⟩⟩)) | exact (by (with_reducible repeat (first | apply Kd.R_alloc | apply Kd.R_drewN | apply Kd.R_drew)); exact Kd.R_mono HO271.out (fun _ hk => by first | exact hk | exact hk.2 | simp_all))⟩; have n5_ : Aside0 (w36.heap[gb261]? = some (.cells #[.int .i64 t258, .int .i64 t259] 34 (0, 0))) := ⟨by rw [← hq_]; exact (by (with_reducible repeat (first | refine blk_drewN ?_ _ | refine blk_drew ?_ | refine blk_alloc ?_ _)); exact BK261.out)⟩; have n6_ : Aside0 (w36.heap[gb268]? = some (.cells #[.int .i64 t265, .int .i64 t266] 34 (0, 0))) := ⟨by rw [← hq_]; exact (by (with_reducible repeat (first | refine blk_drewN ?_ _ | refine blk_drew ?_ | refine blk_alloc ?_ _)); exact BK268.out)⟩; have n7_ : Aside0 (Below w.heap.size w w36) := ⟨by rw [← hq_]; exact (by repeat (first | (with_reducible first | exact HB.out | apply below_alloc | apply pw_below_drewN | apply below_drew1 | refine below_set ?_ GE261.out | refine below_set ?_ GE268.out) | exact HB.out))⟩; clear HO251 HO254 HO257 HO264 HO271 BK261 BK268 HB hq_; have HO251 := n0_; have HO254 := n1_; have HO257 := n2_; have HO264 := n3_; have HO271 := n4_; have BK261 := n5_; have BK268 := n6_; have HB := n7_; clear n0_ n1_ n2_ n3_ n4_ n5_ n6_ n7_))
  have n0_ := Aside0.mk (Kd.R_drew HO251.out)
  have n1_ := Aside0.mk (Kd.R_drew HO254.out)
  have n2_ := Aside0.mk (Kd.R_drew HO257.out)
  have n3_ := Aside0.mk (Kd.R_drew HO264.out)
  have n4_ := Aside0.mk (Kd.R_drew HO271.out)
  have n5_ := Aside0.mk (blk_drew BK261.out)
  have n6_ := Aside0.mk (blk_drew BK268.out)
  have n7_ := Aside0.mk (below_drew1 HB.out)
  clear HO251
  clear HO254
  clear HO257
  clear HO264
  clear HO271
  clear BK261
  clear BK268
  clear HB
  have HO251 := n0_
  have HO254 := n1_
  have HO257 := n2_
  have HO264 := n3_
  have HO271 := n4_
  have BK261 := n5_
  have BK268 := n6_
  have HB := n7_
  clear n0_ n1_ n2_ n3_ n4_ n5_ n6_ n7_
  refine start_ (n := 10) (S := fun w' => w'.cell? ⟨gb268, 0, none⟩ = some (.int .i64 t265) ∧ w'.cell? ⟨gb268, 1, none⟩ = some (.int .i64 t266)) (ds := []) #[false, false, false, false, false, false, false, false, false, false] (by kernel_rfl) rfl rfl ⟨(blk_cell BK268.out 0).trans rfl, (blk_cell BK268.out 1).trans rfl⟩ (fun hHeld => ?_); refine with_tabW bagnallkeep_SignTwice.tab8 bagnallkeep_SignTwice.bits8 (fun HT_ HW_ => ?_)
  generalize w36.drew = w38 at HO251 HO254 HO257 HO264 HO271 BK261 BK268 HB hHeld ⊢
  refine pure_ (i := 0) (N := some 56) (v := ?_) (a' := ?_) #[true, false, false, false, false, false, false, false, false, false] rfl rfl (any_of HT_.out (by kernel_rfl)) (fun _ _ _ h => h) (Or.inl ⟨by rfl, ?_⟩) ?_ ?_
  rotate_left
  · intro w'
    go_simp
    with_reducible rfl
  rotate_left
  · simp only [Act.put, List.setIfInBounds_toArray, List.set_cons_zero, List.set_cons_succ, i64_w, i32_w]
    rfl
  refine pure_ (i := 2) (N := some 58) (v := ?_) (a' := ?_) #[true, false, true, false, false, false, false, false, false, false] rfl rfl (any_of HT_.out (by kernel_rfl)) (fun _ _ _ h => h) (Or.inl ⟨by rfl, ?_⟩) ?_ ?_
  rotate_left
  · intro w'
    go_simp
    with_reducible rfl
  rotate_left
  · simp only [Act.put, List.setIfInBounds_toArray, List.set_cons_zero, List.set_cons_succ, i64_w, i32_w]
    rfl
  refine take_ (i := 1) (N := some 57) (v := ?_) (a' := ?_) #[true, true, true, false, false, false, false, false, false, false] rfl rfl (take_ofW HT_.out HW_.out (by kernel_rfl)) (fun _ _ _ h => h) (Or.inl ⟨by rfl, ?_⟩) hHeld ?_ ?_
  rotate_left
  · rintro w' ⟨s0, s1⟩
    go_simp
    with_reducible rfl
  rotate_left
  · simp only [Act.put, List.setIfInBounds_toArray, List.set_cons_zero, List.set_cons_succ, i64_w, i32_w]
    rfl
  refine one_ (i := 3) (N := some 59) #[true, true, true, true, false, false, false, false, false, false] rfl rfl (one_of HT_.out (by kernel_rfl)) (by decide) (fun K hK => ?_)
  refine goes_ Try.func16 (by kernel_rfl) rfl #[.slice Ao27 t252.length co27] (by rfl) rfl rfl (by (try simp only [List.map_toArray, List.map_cons, List.map_nil]); first | done | rfl | (simp only [List.length_drop, List.length_take]; rfl)) ?_
  with_reducible refine (bagnallkeep_cutBytes.calls _ _ t252 t274 _ ?side1 ?side2 A15.out).mono ?_
  (case side1 => repeat (first | exact (Kd.R_reads' HO254.out).2.2 | (with_reducible refine Kd.C_alloc ?_ _) | (with_reducible refine Kd.C_drewN ?_ _) | (with_reducible refine Kd.C_drew ?_)))
  (case side2 => exact (Kd.R_reads' HO254.out).2.1)
  rintro e w39 ⟨v275, rfl, ho0, hb⟩
  refine ⟨_, rfl, ?_⟩
  have n0_ := Aside0.mk (Kd.R_elder' (by (with_reducible repeat (first | apply Kd.R_alloc | apply Kd.R_drewN | apply Kd.R_drew)); exact HO251.out) (Kd.R_base ho0) hb)
  have n1_ := Aside0.mk (Kd.R_elder' (by (with_reducible repeat (first | apply Kd.R_alloc | apply Kd.R_drewN | apply Kd.R_drew)); exact HO254.out) (Kd.R_base ho0) hb)
  have n2_ := Aside0.mk (Kd.R_elder' (by (with_reducible repeat (first | apply Kd.R_alloc | apply Kd.R_drewN | apply Kd.R_drew)); exact HO257.out) (Kd.R_base ho0) hb)
  have n3_ := Aside0.mk (Kd.R_elder' (by (with_reducible repeat (first | apply Kd.R_alloc | apply Kd.R_drewN | apply Kd.R_drew)); exact HO264.out) (Kd.R_base ho0) hb)
  have n4_ := Aside0.mk (Kd.R_elder' (by (with_reducible repeat (first | apply Kd.R_alloc | apply Kd.R_drewN | apply Kd.R_drew)); exact HO271.out) (Kd.R_base ho0) hb)
  have n5_ := Aside0.mk (Kd.R_lower (Kd.R_new' (Kd.R_new' (Kd.R_new' (Kd.R_new' (Kd.R_new' ho0 (Kd.R_lt (by (with_reducible repeat (first | apply Kd.R_alloc | apply Kd.R_drewN | apply Kd.R_drew)); exact HO251.out))) (Kd.R_lt (by (with_reducible repeat (first | apply Kd.R_alloc | apply Kd.R_drewN | apply Kd.R_drew)); exact HO254.out))) (Kd.R_lt (by (with_reducible repeat (first | apply Kd.R_alloc | apply Kd.R_drewN | apply Kd.R_drew)); exact HO257.out))) (Kd.R_lt (by (with_reducible repeat (first | apply Kd.R_alloc | apply Kd.R_drewN | apply Kd.R_drew)); exact HO264.out))) (Kd.R_lt (by (with_reducible repeat (first | apply Kd.R_alloc | apply Kd.R_drewN | apply Kd.R_drew)); exact HO271.out))) (below_size (by repeat (first | (with_reducible first | exact HB.out | apply below_alloc | apply pw_below_drewN | apply below_drew1 | refine below_set ?_ GE261.out | refine below_set ?_ GE268.out) | exact HB.out))))
  have n6_ := Aside0.mk (blk_below (g := gb261) (o := .cells #[.int .i64 t258, .int .i64 t259] 34 (0, 0)) (by (with_reducible repeat (first | refine blk_drewN ?_ _ | refine blk_drew ?_ | refine blk_alloc ?_ _)); exact BK261.out) hb)
  have n7_ := Aside0.mk (blk_below (g := gb268) (o := .cells #[.int .i64 t265, .int .i64 t266] 34 (0, 0)) (by (with_reducible repeat (first | refine blk_drewN ?_ _ | refine blk_drew ?_ | refine blk_alloc ?_ _)); exact BK268.out) hb)
  have n8_ := Aside0.mk (below_step (by repeat (first | (with_reducible first | exact HB.out | apply below_alloc | apply pw_below_drewN | apply below_drew1 | refine below_set ?_ GE261.out | refine below_set ?_ GE268.out) | exact HB.out)) hb)
  clear HO251
  clear HO254
  clear HO257
  clear HO264
  clear HO271
  clear BK261
  clear BK268
  clear HB
  have HO251 := n0_
  have HO254 := n1_
  have HO257 := n2_
  have HO264 := n3_
  have HO271 := n4_
  have HO276 := n5_
  have BK261 := n6_
  have BK268 := n7_
  have HB := n8_
  clear n0_ n1_ n2_ n3_ n4_ n5_ n6_ n7_ n8_
  (try clear hb)
  (try clear hb2)
  (try clear hk)
  (try clear hi)
  (try clear ho0)
  obtain ⟨Ao40, co40, eo40⟩ := Kd.R_slice HO276.out
  (first | subst eo40 | (injection eo40 with f1_ f2_ f3_; have f4_ := f1_.symm; have f5_ := f3_.symm; clear f1_ f2_ f3_; subst f4_; subst f5_))
  refine hK.out _ _ ⟨(blk_cell BK268.out 0).trans rfl, (blk_cell BK268.out 1).trans rfl⟩ (fun hHeld => ?_)
  clear hK K
  refine norm_ (a' := ?_) ?_ ?_
  rotate_left
  · show Act.put _ (some 59) _ = _
    simp only [Act.put, List.setIfInBounds_toArray, List.set_cons_zero, List.set_cons_succ, i64_w, i32_w]
    rfl
  refine one_ (i := 4) (N := some 60) #[true, true, true, true, true, false, false, false, false, false] rfl rfl (one_of HT_.out (by kernel_rfl)) (by decide) (fun K hK => ?_)
  refine goes_ Try.func17 (by kernel_rfl) rfl #[.int .i64 t265, .slice Ao40 t274.length co40] (by rfl) rfl rfl (by (try simp only [List.map_toArray, List.map_cons, List.map_nil]); first | done | rfl | (simp only [List.length_drop, List.length_take]; rfl)) ?_
  with_reducible refine (sign_Hash.calls k t265 _ _ t274 t277 t278 _ ?side1 ?side2 A16.out).mono ?_
  (case side1 => repeat (first | exact (Kd.R_reads' HO276.out).2.2 | (with_reducible refine Kd.C_alloc ?_ _) | (with_reducible refine Kd.C_drewN ?_ _) | (with_reducible refine Kd.C_drew ?_)))
  (case side2 => exact (Kd.R_reads' HO276.out).2.1)
  rintro e w' ⟨rfl, ⟨nd, rfl⟩⟩
  refine ⟨_, rfl, ?_⟩
  refine hK.out _ _ ⟨(blk_cell BK268.out 0).trans rfl, (blk_cell BK268.out 1).trans rfl⟩ (fun hHeld => ?_)
  clear hK K
  refine norm_ (a' := ?_) ?_ ?_
  rotate_left
  · show Act.put _ (some 60) _ = _
    simp only [Act.put, List.setIfInBounds_toArray, List.set_cons_zero, List.set_cons_succ, i64_w, i32_w]
    rfl
  refine pure_ (i := 5) (N := some 55) (v := ?_) (a' := ?_) #[true, true, true, true, true, true, false, false, false, false] rfl rfl (any_of HT_.out (by kernel_rfl)) (fun _ _ _ h => h) (Or.inl ⟨by rfl, ?_⟩) ?_ ?_
  rotate_left
  · intro w'
    go_simp
    with_reducible rfl
  rotate_left
  · simp only [Act.put, List.setIfInBounds_toArray, List.set_cons_zero, List.set_cons_succ, i64_w, i32_w]
    rfl
  refine pure_ (i := 6) (N := some 61) (v := ?_) (a' := ?_) #[true, true, true, true, true, true, true, false, false, false] rfl rfl (any_of HT_.out (by kernel_rfl)) (fun _ _ _ h => h) (Or.inl ⟨by rfl, ?_⟩) ?_ ?_
  rotate_left
  · intro w'
    go_simp
    with_reducible rfl
  rotate_left
  · simp only [Act.put, List.setIfInBounds_toArray, List.set_cons_zero, List.set_cons_succ, i64_w, i32_w]
    rfl
  refine pure_ (i := 7) (N := some 62) (v := ?_) (a' := ?_) #[true, true, true, true, true, true, true, true, false, false] rfl rfl (any_of HT_.out (by kernel_rfl)) (fun _ _ _ h => h) (Or.inl ⟨by rfl, ?_⟩) ?_ ?_
  rotate_left
  · intro w'
    go_simp
    with_reducible rfl
  rotate_left
  · simp only [Act.put, List.setIfInBounds_toArray, List.set_cons_zero, List.set_cons_succ, i64_w, i32_w]
    rfl
  refine pure_ (i := 8) (N := some 19) (v := ?_) (a' := ?_) #[true, true, true, true, true, true, true, true, true, false] rfl rfl (any_of HT_.out (by kernel_rfl)) (fun _ _ _ h => h) (Or.inl ⟨by rfl, ?_⟩) ?_ ?_
  rotate_left
  · intro w'
    go_simp
    with_reducible rfl
  rotate_left
  · simp only [Act.put, List.setIfInBounds_toArray, List.set_cons_zero, List.set_cons_succ, i64_w, i32_w]
    rfl
  refine pure_ (i := 9) (N := some 20) (v := ?_) (a' := ?_) #[true, true, true, true, true, true, true, true, true, true] rfl rfl (any_of HT_.out (by kernel_rfl)) (fun _ _ _ h => h) (Or.inl ⟨by rfl, ?_⟩) ?_ ?_
  rotate_left
  · intro w'
    go_simp
    with_reducible rfl
  rotate_left
  · simp only [Act.put, List.setIfInBounds_toArray, List.set_cons_zero, List.set_cons_succ, i64_w, i32_w]
    rfl
  refine done_ (done_of HT_.out (by kernel_rfl)) ?_
  have hcz41_0 : w39.cell? ⟨gb261, 0, none⟩ = some (.int .i64 t258) := (blk_cell BK261.out 0).trans rfl
  have hcz41_1 : w39.cell? ⟨gb261, 1, none⟩ = some (.int .i64 t259) := (blk_cell BK261.out 1).trans rfl
  have hfz41_0 := blk_frozen BK261.out 0
  have hfz41_1 := blk_frozen BK261.out 1
  have hcz42_0 : w39.cell? ⟨gb268, 0, none⟩ = some (.int .i64 t265) := (blk_cell BK268.out 0).trans rfl
  have hcz42_1 : w39.cell? ⟨gb268, 1, none⟩ = some (.int .i64 t266) := (blk_cell BK268.out 1).trans rfl
  have hfz42_0 := blk_frozen BK268.out 0
  have hfz42_1 := blk_frozen BK268.out 1
  go_upto_region 10 with (first | ((with_reducible refine gate_callee (f := 23) rfl ?_); refine goesL_ (some 68) rfl rfl Try.func23 (by kernel_rfl) rfl #[.slice Ao21 t249.length co21, .slice Ao27 t252.length co27, .agg #[.int .i64 t258, .int .i64 t259], .agg #[.int .i64 t265, .int .i64 t266]] rfl (by (try simp only [List.map_toArray, List.map_cons, List.map_nil]); first | done | rfl | (simp only [List.length_drop, List.length_take]; rfl)) ?_; (with_reducible refine (sign_Secret.calls k _ _ t249 _ _ t252 t258 t259 t265 t266 t279 t280 _ ?side1 ?side2 ?side3 ?side4 A17.out).mono ?_); (case side1 => repeat (first | exact (Kd.R_reads' HO251.out).2.2 | (with_reducible refine Kd.C_alloc ?_ _) | (with_reducible refine Kd.C_drewN ?_ _) | (with_reducible refine Kd.C_drew ?_))); (case side2 => exact (Kd.R_reads' HO251.out).2.1); (case side3 => repeat (first | exact (Kd.R_reads' HO254.out).2.2 | (with_reducible refine Kd.C_alloc ?_ _) | (with_reducible refine Kd.C_drewN ?_ _) | (with_reducible refine Kd.C_drew ?_))); (case side4 => exact (Kd.R_reads' HO254.out).2.1); rintro e w43 ⟨rfl, hb⟩; refine ⟨_, rfl, ?_⟩; have n0_ := Aside0.mk (Kd.R_below (by (with_reducible repeat (first | apply Kd.R_alloc | apply Kd.R_drewN | apply Kd.R_drew)); exact HO251.out) hb); have n1_ := Aside0.mk (Kd.R_below (by (with_reducible repeat (first | apply Kd.R_alloc | apply Kd.R_drewN | apply Kd.R_drew)); exact HO254.out) hb); have n2_ := Aside0.mk (Kd.R_below (by (with_reducible repeat (first | apply Kd.R_alloc | apply Kd.R_drewN | apply Kd.R_drew)); exact HO257.out) hb); have n3_ := Aside0.mk (Kd.R_below (by (with_reducible repeat (first | apply Kd.R_alloc | apply Kd.R_drewN | apply Kd.R_drew)); exact HO264.out) hb); have n4_ := Aside0.mk (Kd.R_below (by (with_reducible repeat (first | apply Kd.R_alloc | apply Kd.R_drewN | apply Kd.R_drew)); exact HO271.out) hb); have n5_ := Aside0.mk (Kd.R_below (by (with_reducible repeat (first | apply Kd.R_alloc | apply Kd.R_drewN | apply Kd.R_drew)); exact HO276.out) hb); have n6_ := Aside0.mk (blk_below (g := gb261) (o := .cells #[.int .i64 t258, .int .i64 t259] 34 (0, 0)) (by (with_reducible repeat (first | refine blk_drewN ?_ _ | refine blk_drew ?_ | refine blk_alloc ?_ _)); exact BK261.out) hb); have n7_ := Aside0.mk (blk_below (g := gb268) (o := .cells #[.int .i64 t265, .int .i64 t266] 34 (0, 0)) (by (with_reducible repeat (first | refine blk_drewN ?_ _ | refine blk_drew ?_ | refine blk_alloc ?_ _)); exact BK268.out) hb); have n8_ := Aside0.mk (below_step (by repeat (first | (with_reducible first | exact HB.out | apply below_alloc | apply pw_below_drewN | apply below_drew1 | refine below_set ?_ GE261.out | refine below_set ?_ GE268.out) | exact HB.out)) hb); clear HO251; clear HO254; clear HO257; clear HO264; clear HO271; clear HO276; clear BK261; clear BK268; clear HB; have HO251 := n0_; have HO254 := n1_; have HO257 := n2_; have HO264 := n3_; have HO271 := n4_; have HO276 := n5_; have BK261 := n6_; have BK268 := n7_; have HB := n8_; clear n0_ n1_ n2_ n3_ n4_ n5_ n6_ n7_ n8_; (try clear hb); (try clear hb2); (try clear hk); (try clear hi)))
  (try simp only [Act.put, List.setIfInBounds_toArray, List.set_cons_zero, List.set_cons_succ])
  go_cut [88] (fun v88 wc => ∃ (kq : Nat) (x88_17 : Bool), v88 = .bool x88_17 ∧ Aside0 (bagnallkeep_SignTwice.j0 kq t247 t272 t277 t279 t280 x88_17 = some r) ∧ Aside0 (kq ≤ k) ∧ Aside0 (wc.heap[gb261]? = some (.cells #[.int .i64 t258, .int .i64 t259] 34 (0, 0))) ∧ Aside0 (wc.heap[gb268]? = some (.cells #[.int .i64 t265, .int .i64 t266] 34 (0, 0))) ∧ Aside0 (Below w.heap.size w wc))
  case first =>
    have H := HC18.out
    clear HC18
    by_cases c44 : t260 = 0
    · rw [if_pos c44] at H
      have c44b0 : (t260 == 0) = true := beq_iff_eq.mpr c44
      have c44b1 : (t260 != 0) = false := bne_eq_false_iff_eq.mpr c44
      clear c44
      (first | rw [c44b0] | (simp only [i64_w, i32_w]; rw [c44b0]) | skip)
      by_cases c45 : t267 = 0
      · rw [if_pos c45] at H
        have c45b0 : (t267 == 0) = true := beq_iff_eq.mpr c45
        have c45b1 : (t267 != 0) = false := bne_eq_false_iff_eq.mpr c45
        clear c45
        by_cases c46 : t273 = 0
        · rw [if_pos c46] at H
          have c46b0 : (t273 == 0) = true := beq_iff_eq.mpr c46
          have c46b1 : (t273 != 0) = false := bne_eq_false_iff_eq.mpr c46
          clear c46
          by_cases c47 : t278 = 0
          · rw [if_pos c47] at H
            have c47b0 : (t278 == 0) = true := beq_iff_eq.mpr c47
            have c47b1 : (t278 != 0) = false := bne_eq_false_iff_eq.mpr c47
            clear c47
            replace H := Option.bind_eq_some_iff.mp H
            obtain ⟨t281, A480, H⟩ := H
            replace H : (bagnallkeep_SignTwice.j0 k t247 t272 t277 t279 t280 (!t281)) = some r := H
            have A48 := Aside0.mk A480
            clear A480
            have H' := Aside0.mk H
            clear H
            go_wp2_with (first | (go_at_call 20; (with_reducible refine (bagnallkeep_signSure.calls k  t281 _ A48.out).mono ?_); rintro e w49 ⟨rfl, hb⟩; have n0_ := Aside0.mk (Kd.R_below (by (with_reducible repeat (first | apply Kd.R_alloc | apply Kd.R_drewN | apply Kd.R_drew)); exact HO251.out) hb); have n1_ := Aside0.mk (Kd.R_below (by (with_reducible repeat (first | apply Kd.R_alloc | apply Kd.R_drewN | apply Kd.R_drew)); exact HO254.out) hb); have n2_ := Aside0.mk (Kd.R_below (by (with_reducible repeat (first | apply Kd.R_alloc | apply Kd.R_drewN | apply Kd.R_drew)); exact HO257.out) hb); have n3_ := Aside0.mk (Kd.R_below (by (with_reducible repeat (first | apply Kd.R_alloc | apply Kd.R_drewN | apply Kd.R_drew)); exact HO264.out) hb); have n4_ := Aside0.mk (Kd.R_below (by (with_reducible repeat (first | apply Kd.R_alloc | apply Kd.R_drewN | apply Kd.R_drew)); exact HO271.out) hb); have n5_ := Aside0.mk (Kd.R_below (by (with_reducible repeat (first | apply Kd.R_alloc | apply Kd.R_drewN | apply Kd.R_drew)); exact HO276.out) hb); have n6_ := Aside0.mk (blk_below (g := gb261) (o := .cells #[.int .i64 t258, .int .i64 t259] 34 (0, 0)) (by (with_reducible repeat (first | refine blk_drewN ?_ _ | refine blk_drew ?_ | refine blk_alloc ?_ _)); exact BK261.out) hb); have n7_ := Aside0.mk (blk_below (g := gb268) (o := .cells #[.int .i64 t265, .int .i64 t266] 34 (0, 0)) (by (with_reducible repeat (first | refine blk_drewN ?_ _ | refine blk_drew ?_ | refine blk_alloc ?_ _)); exact BK268.out) hb); have n8_ := Aside0.mk (below_step (by repeat (first | (with_reducible first | exact HB.out | apply below_alloc | apply pw_below_drewN | apply below_drew1 | refine below_set ?_ GE261.out | refine below_set ?_ GE268.out) | exact HB.out)) hb); clear HO251; clear HO254; clear HO257; clear HO264; clear HO271; clear HO276; clear BK261; clear BK268; clear HB; have HO251 := n0_; have HO254 := n1_; have HO257 := n2_; have HO264 := n3_; have HO271 := n4_; have HO276 := n5_; have BK261 := n6_; have BK268 := n7_; have HB := n8_; clear n0_ n1_ n2_ n3_ n4_ n5_ n6_ n7_ n8_; (try clear hb); (try clear hb2); (try clear hk); (try clear hi)))
            go_meet
            case rel => exact ⟨_, (!t281), (by first | rfl | (simp; done) | (simp [*]; done)), H', ⟨by first | omega | exact Nat.le_refl _⟩, ⟨by (with_reducible repeat (first | refine blk_drewN ?_ _ | refine blk_drew ?_ | refine blk_alloc ?_ _)); exact BK261.out⟩, ⟨by (with_reducible repeat (first | refine blk_drewN ?_ _ | refine blk_drew ?_ | refine blk_alloc ?_ _)); exact BK268.out⟩, ⟨by repeat (first | (with_reducible first | exact HB.out | apply below_alloc | apply pw_below_drewN | apply below_drew1 | refine below_set ?_ GE261.out | refine below_set ?_ GE268.out) | exact HB.out)⟩⟩
          · rw [if_neg c47] at H
            have c47b0 : (t278 == 0) = false := beq_eq_false_iff_ne.mpr c47
            have c47b1 : (t278 != 0) = true := bne_iff_ne.mpr c47
            have H' := Aside0.mk H
            clear H
            go_wp2
            go_meet
            case rel => exact ⟨_, (true), (by first | rfl | (simp; done) | (simp [*]; done)), H', ⟨by first | omega | exact Nat.le_refl _⟩, ⟨by (with_reducible repeat (first | refine blk_drewN ?_ _ | refine blk_drew ?_ | refine blk_alloc ?_ _)); exact BK261.out⟩, ⟨by (with_reducible repeat (first | refine blk_drewN ?_ _ | refine blk_drew ?_ | refine blk_alloc ?_ _)); exact BK268.out⟩, ⟨by repeat (first | (with_reducible first | exact HB.out | apply below_alloc | apply pw_below_drewN | apply below_drew1 | refine below_set ?_ GE261.out | refine below_set ?_ GE268.out) | exact HB.out)⟩⟩
        · rw [if_neg c46] at H
          have c46b0 : (t273 == 0) = false := beq_eq_false_iff_ne.mpr c46
          have c46b1 : (t273 != 0) = true := bne_iff_ne.mpr c46
          have H' := Aside0.mk H
          clear H
          go_wp2
          go_meet
          case rel => exact ⟨_, (true), (by first | rfl | (simp; done) | (simp [*]; done)), H', ⟨by first | omega | exact Nat.le_refl _⟩, ⟨by (with_reducible repeat (first | refine blk_drewN ?_ _ | refine blk_drew ?_ | refine blk_alloc ?_ _)); exact BK261.out⟩, ⟨by (with_reducible repeat (first | refine blk_drewN ?_ _ | refine blk_drew ?_ | refine blk_alloc ?_ _)); exact BK268.out⟩, ⟨by repeat (first | (with_reducible first | exact HB.out | apply below_alloc | apply pw_below_drewN | apply below_drew1 | refine below_set ?_ GE261.out | refine below_set ?_ GE268.out) | exact HB.out)⟩⟩
      · rw [if_neg c45] at H
        have c45b0 : (t267 == 0) = false := beq_eq_false_iff_ne.mpr c45
        have c45b1 : (t267 != 0) = true := bne_iff_ne.mpr c45
        have H' := Aside0.mk H
        clear H
        go_wp2
        go_meet
        case rel => exact ⟨_, (true), (by first | rfl | (simp; done) | (simp [*]; done)), H', ⟨by first | omega | exact Nat.le_refl _⟩, ⟨by (with_reducible repeat (first | refine blk_drewN ?_ _ | refine blk_drew ?_ | refine blk_alloc ?_ _)); exact BK261.out⟩, ⟨by (with_reducible repeat (first | refine blk_drewN ?_ _ | refine blk_drew ?_ | refine blk_alloc ?_ _)); exact BK268.out⟩, ⟨by repeat (first | (with_reducible first | exact HB.out | apply below_alloc | apply pw_below_drewN | apply below_drew1 | refine below_set ?_ GE261.out | refine below_set ?_ GE268.out) | exact HB.out)⟩⟩
    · rw [if_neg c44] at H
      have c44b0 : (t260 == 0) = false := beq_eq_false_iff_ne.mpr c44
      have c44b1 : (t260 != 0) = true := bne_iff_ne.mpr c44
      (first | rw [c44b0] | (simp only [i64_w, i32_w]; rw [c44b0]) | skip)
      have H' := Aside0.mk H
      clear H
      go_wp2
      go_meet
      case rel => exact ⟨_, (true), (by first | rfl | (simp; done) | (simp [*]; done)), H', ⟨by first | omega | exact Nat.le_refl _⟩, ⟨by (with_reducible repeat (first | refine blk_drewN ?_ _ | refine blk_drew ?_ | refine blk_alloc ?_ _)); exact BK261.out⟩, ⟨by (with_reducible repeat (first | refine blk_drewN ?_ _ | refine blk_drew ?_ | refine blk_alloc ?_ _)); exact BK268.out⟩, ⟨by repeat (first | (with_reducible first | exact HB.out | apply below_alloc | apply pw_below_drewN | apply below_drew1 | refine below_set ?_ GE261.out | refine below_set ?_ GE268.out) | exact HB.out)⟩⟩
  case rest =>
    clear HC18
    try clear c1
    try clear c2
    try clear p2
    try clear c3
    try clear c4
    try clear c8
    try clear c16
    try clear c17
    try clear c18
    try clear c21
    try clear c23
    try clear c32
    try clear c44
    try clear c44b0
    try clear c44b1
    try clear c45
    try clear c45b0
    try clear c45b1
    try clear c46
    try clear c46b0
    try clear c46b1
    try clear c47
    try clear c47b0
    try clear c47b1
    try clear hcz26_0
    try clear hcz26_1
    try clear hcz33_0
    try clear hcz33_1
    try clear hcz41_0
    try clear hcz41_1
    try clear hcz42_0
    try clear hcz42_1
    try clear hfz26_0
    try clear hfz26_1
    try clear hfz33_0
    try clear hfz33_1
    try clear hfz41_0
    try clear hfz41_1
    try clear hfz42_0
    try clear hfz42_1
    obtain ⟨kq, x88_17, rfl, HA, HJ17, BK261, BK268, HB⟩ := hcut
    cases kq with
    | zero => exact absurd HA.out (by simp [bagnallkeep_SignTwice.j0])
    | succ kj17 =>
      have H := HA.out
      clear HA
      simp only [bagnallkeep_SignTwice.j0] at H
      by_cases c50 : x88_17 = true
      · subst c50
        have H1 : (some false) = some r := by rw [if_pos rfl] at H; exact H
        clear H
        have H := H1
        clear H1
        obtain rfl := Option.some.inj H
        go_wp2
        go_ret
        exact ⟨by first | rfl | (simp [errW_none, errW_some] <;> rfl) | (simp [*, errW_none, errW_some] <;> rfl), by repeat (first | (with_reducible first | exact HB.out | apply below_alloc | apply pw_below_drewN | apply below_drew1 | refine below_set ?_ GE261.out | refine below_set ?_ GE268.out) | exact HB.out)⟩
      · replace c50 := Bool.eq_false_iff.mpr c50
        subst c50
        have H1 : (if t272 = t277 then (if t280 = 8 then (some (t279 == 0)) else (some false)) else (if t280 = 0 then (some (t279 == t247)) else (some false))) = some r := by rw [if_neg (show ¬ (false = true) by decide)] at H; exact H
        clear H
        have H := H1
        clear H1
        by_cases c51 : t272 = t277
        · rw [if_pos c51] at H
          have c51b0 : (t272 == t277) = true := beq_iff_eq.mpr c51
          have c51b1 : (t272 != t277) = false := bne_eq_false_iff_eq.mpr c51
          clear c51
          by_cases c52 : t280 = 8
          · rw [if_pos c52] at H
            have c52b0 : (t280 == 8) = true := beq_iff_eq.mpr c52
            have c52b1 : (t280 != 8) = false := bne_eq_false_iff_eq.mpr c52
            clear c52
            obtain rfl := Option.some.inj H
            go_wp2
            go_ret
            exact ⟨by first | rfl | (simp [errW_none, errW_some] <;> rfl) | (simp [*, errW_none, errW_some] <;> rfl), by repeat (first | (with_reducible first | exact HB.out | apply below_alloc | apply pw_below_drewN | apply below_drew1 | refine below_set ?_ GE261.out | refine below_set ?_ GE268.out) | exact HB.out)⟩
          · rw [if_neg c52] at H
            have c52b0 : (t280 == 8) = false := beq_eq_false_iff_ne.mpr c52
            have c52b1 : (t280 != 8) = true := bne_iff_ne.mpr c52
            obtain rfl := Option.some.inj H
            go_wp2
            go_ret
            exact ⟨by first | rfl | (simp [errW_none, errW_some] <;> rfl) | (simp [*, errW_none, errW_some] <;> rfl), by repeat (first | (with_reducible first | exact HB.out | apply below_alloc | apply pw_below_drewN | apply below_drew1 | refine below_set ?_ GE261.out | refine below_set ?_ GE268.out) | exact HB.out)⟩
        · rw [if_neg c51] at H
          have c51b0 : (t272 == t277) = false := beq_eq_false_iff_ne.mpr c51
          have c51b1 : (t272 != t277) = true := bne_iff_ne.mpr c51
          by_cases c53 : t280 = 0
          · rw [if_pos c53] at H
            have c53b0 : (t280 == 0) = true := beq_iff_eq.mpr c53
            have c53b1 : (t280 != 0) = false := bne_eq_false_iff_eq.mpr c53
            clear c53
            obtain rfl := Option.some.inj H
            go_wp2
            go_ret
            exact ⟨by first | rfl | (simp [errW_none, errW_some] <;> rfl) | (simp [*, errW_none, errW_some] <;> rfl), by repeat (first | (with_reducible first | exact HB.out | apply below_alloc | apply pw_below_drewN | apply below_drew1 | refine below_set ?_ GE261.out | refine below_set ?_ GE268.out) | exact HB.out)⟩
          · rw [if_neg c53] at H
            have c53b0 : (t280 == 0) = false := beq_eq_false_iff_ne.mpr c53
            have c53b1 : (t280 != 0) = true := bne_iff_ne.mpr c53
            obtain rfl := Option.some.inj H
            go_wp2
            go_ret
            exact ⟨by first | rfl | (simp [errW_none, errW_some] <;> rfl) | (simp [*, errW_none, errW_some] <;> rfl), by repeat (first | (with_reducible first | exact HB.out | apply below_alloc | apply pw_below_drewN | apply below_drew1 | refine below_set ?_ GE261.out | refine below_set ?_ GE268.out) | exact HB.out)⟩

/-- THE ONE PURE STATEMENT of bagnallkeep_SignTwice: yours. -/
def bagnallkeep_SignTwice.Pure : Prop := ∀ (a0 : Int) (a1 : Int) (l2 : List Int) (l3 : List Int), (Lit.int .i64 a0).wf = true → (Lit.int .i64 a1).wf = true → l2.length ≤ maxLen → l2.length * 1 ≤ 140737488351232 → (∀ x ∈ l2, (Lit.int .u8 x).wf = true) → l3.length ≤ maxLen → l3.length * 1 ≤ 140737488351232 → (∀ x ∈ l3, (Lit.int .u8 x).wf = true) → ∃ k, bagnallkeep_SignTwice.f k a0 a1 l2 l3 = some true
theorem bagnallkeep_SignTwice.walk (P : bagnallkeep_SignTwice.Pure) (a0 : Int) (a1 : Int) (a2 : Option Addr) (len2 cap2 : Nat) (z2 : List Int) (a3 : Option Addr) (len3 cap3 : Nat) (z3 : List Int) (w : World) (w0 : (Lit.int .i64 a0).wf = true) (w1 : (Lit.int .i64 a1).wf = true) (w2 : (a2 = none ∧ len2 = 0 ∧ cap2 = 0 ∧ z2 = []) ∨ ∃ x, a2 = some x ∧ len2 ≤ cap2 ∧ cap2 ≤ maxLen ∧ z2.length = cap2 ∧ (∀ i, i < z2.length → w.cell? (x.add i) = some (.int .u8 (z2.getD i 0))) ∧ ∀ n ∈ z2, (Lit.int .u8 n).wf = true) (y2 : len2 * 1 ≤ 140737488351232) (w3 : (a3 = none ∧ len3 = 0 ∧ cap3 = 0 ∧ z3 = []) ∨ ∃ x, a3 = some x ∧ len3 ≤ cap3 ∧ cap3 ≤ maxLen ∧ z3.length = cap3 ∧ (∀ i, i < z3.length → w.cell? (x.add i) = some (.int .u8 (z3.getD i 0))) ∧ ∀ n ∈ z3, (Lit.int .u8 n).wf = true) (y3 : len3 * 1 ≤ 140737488351232) :
    Calls Try.prog 8 #[.int .i64 a0, .int .i64 a1, .slice a2 len2 cap2, .slice a3 len3 cap3] w fun e w' => e = .returned (.bool true) ∧ Below w.heap.size w w' := by
  obtain ⟨l2, rfl, hr2, hm2, hw2, hc2⟩ := ReadsInt.ofRowC w2
  obtain ⟨l3, rfl, hr3, hm3, hw3, hc3⟩ := ReadsInt.ofRowC w3
  obtain ⟨k, h⟩ := P a0 a1 l2 l3 w0 w1 hm2 y2 hw2 hm3 y3 hw3
  refine (bagnallkeep_SignTwice.calls k a0 a1 _ _ l2 _ _ l3 true w (Kd.C_of_reads (d := (0 : Int)) (h1 := fun _ => rfl) hr2) hc2 (Kd.C_of_reads (d := (0 : Int)) (h1 := fun _ => rfl) hr3) hc3 h).mono ?_
  rintro e w' ⟨rfl, hd⟩
  exact ⟨rfl, hd⟩

end Go.Proofs.Ytfdceninhieheaa.QSign
