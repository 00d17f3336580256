/- strconv.FormatInt at base 16: the walk. -/
import Derived.Test.YtmhfkbgdkgfafaaDoorJsB
import Derived.Lib.ConvBytes
namespace Go.Proofs.YtmhfkbgdkgfafaaDoor.Js
open Go.RowKit Go.Proofs.YtmhfkbgdkgfafaaDoorW.PrintWords Go.Proofs.YtmhfkbgdkgfafaaDoorW.PrintLast Go.Proofs.YtmhfkbgdkgfafaaDoorW.PrintMore
set_option linter.unusedVariables false
set_option linter.unusedSimpArgs false

/-- A digit's byte. -/
def hexB (d : Nat) : UInt8 := if d < 10 then (48 + d).toUInt8 else (87 + d).toUInt8
def digs : ByteArray := ⟨#[48, 49, 50, 51, 52, 53, 54, 55, 56, 57, 97, 98, 99, 100, 101, 102, 103, 104, 105, 106, 107, 108, 109, 110, 111, 112, 113, 114, 115, 116, 117, 118, 119, 120, 121, 122]⟩
theorem digs_at : ∀ d : Fin 16, (bt digs (d.val : Int)) = ((hexB d.val).toNat : Int) := by decide +kernel
theorem in64u (n : Int) (h0 : 0 ≤ n) (h1 : n < 2 ^ 20) : IntKind.u64.wrap n = n := by rw [IntKind.wrap_u64]; omega
theorem and15u (x : Int) (h0 : 0 ≤ x) (h1 : x < 1048576) : bits .and .u64 x 15 = x % 16 := bits_mask .u64 20 (by decide) in64u 4 (by decide) x h0 h1

theorem zeroTA (w : World) : (zeroValue 71).run Tryd.prog w = .ok (.agg (Array.replicate 65 (.int .u8 0))) w := by kernel_rfl
theorem lenTA : Tryd.prog.arrayLen 71 = 65 := by kernel_rfl
theorem zs_at (w : World) (zs : Array Value) (hzs : zs = Array.replicate 65 (.int .u8 0)) (j : Nat) (hj : j < 65) : (w.alloc (.cells zs 71)).cell? ⟨w.heap.size, j, none⟩ = some (.int .u8 0) := by
  rw [World.cell?_alloc_new, hzs]
  simp [Array.getElem?_replicate, hj]

set_option maxHeartbeats 4000000 in
set_option maxRecDepth 100000 in
theorem bits16 (c : Nat) (hc : c < 32) (w : World) (h : Lib.TabIs Tryd.prog w "math/bits.deBruijn64tab" .u8 tab64) :
    Calls Tryd.prog 33 #[.slice none 0 0, .int .u64 (256 + c : Nat), .int .i64 16, .bool false, .bool false] w fun e w' => e = .returned (.tuple #[.slice none 0 0, .string ⟨#[49, hexB (c / 16), hexB (c % 16)]⟩]) ∧ Below w.heap.size w w' := by
  have H := Aside0.mk (Lib.tabBelow_of_tabIs h)
  obtain ⟨u0, hu0⟩ : ∃ u : Int, u = ((256 + c : Nat) : Int) := ⟨_, rfl⟩
  obtain ⟨u1, hu1⟩ : ∃ u : Int, u = ((16 + c / 16 : Nat) : Int) := ⟨_, rfl⟩
  obtain ⟨d0, hd0⟩ : ∃ d : Int, d = ((c % 16 : Nat) : Int) := ⟨_, rfl⟩
  obtain ⟨d1, hd1⟩ : ∃ d : Int, d = ((c / 16 : Nat) : Int) := ⟨_, rfl⟩
  obtain ⟨e0, he0⟩ : ∃ e : Int, e = ((hexB (c % 16)).toNat : Int) := ⟨_, rfl⟩
  obtain ⟨e1, he1⟩ : ∃ e : Int, e = ((hexB (c / 16)).toNat : Int) := ⟨_, rfl⟩
  have ha0 : bits .and .u64 u0 15 = d0 := by rw [and15u u0 (by omega) (by omega)]; omega
  have ha1 : bits .and .u64 u1 15 = d1 := by rw [and15u u1 (by omega) (by omega)]; omega
  have hs0 : u0 / 16 = u1 := by omega
  have hs1 : u1 / 16 = 1 := by omega
  have hb0 : bt digs d0 = e0 := by rw [hd0, he0]; exact digs_at ⟨c % 16, by omega⟩
  have hb1 : bt digs d1 = e1 := by rw [hd1, he1]; exact digs_at ⟨c / 16, by omega⟩
  have hb2 : bt digs 1 = 49 := digs_at ⟨1, by omega⟩
  have hr0 : (0 ≤ d0 ∧ d0 < 36) ∧ 16 ≤ u0 := by omega
  have hr1 : (0 ≤ d1 ∧ d1 < 36) ∧ 16 ≤ u1 := by omega
  have HE := Aside0.mk (And.intro he0 he1)
  rw [← hu0]
  have hz := zeroTA
  have hbt := bt_at
  have hal := lenTA
  obtain ⟨zs, hzs⟩ : ∃ zs, zs = Array.replicate 65 (Value.int .u8 0) := ⟨_, rfl⟩
  rw [← hzs] at hz
  have HZ := Aside0.mk (zs_at w zs hzs)
  unfold digs at hb0 hb1 hb2
  clear h hu0 hu1 hd0 hd1 he0 he1 hzs
  go_enter Tryd.func33, Tryd.ntmps33
  go_wp2_with (first
    | (go_at_call 38; refine (pow2 _).mono ?_; rintro e w1 ⟨rfl, rfl⟩)
    | (go_at_call 39; refine (tz _ (H.out _ (below_alloc (Below.refl _ _) _))).mono ?_; rintro e w1 ⟨rfl, rfl⟩))
  obtain ⟨g, hg⟩ : ∃ g, g = w.heap.size := ⟨_, rfl⟩
  have HB0 := Aside0.mk (show Below w.heap.size w (w.alloc (.cells zs 71)) from below_alloc (Below.refl _ _) _)
  have HF := Aside0.mk (show ∀ j, (w.alloc (.cells zs 71)).frozen? ⟨w.heap.size, j, none⟩ = false from fun j => World.frozen?_alloc_new _ _ _ _)
  have HG := Aside0.mk (show w.heap.size ≤ g by omega)
  generalize w.alloc (.cells zs 71) = W0 at HZ HF HB0 ⊢
  rw [← hg] at HZ HF ⊢
  clear hg H
  have z64 := HZ.out 64 (by omega)
  have z63 := HZ.out 63 (by omega)
  have z62 := HZ.out 62 (by omega)
  have f64 := HF.out 64
  have f63 := HF.out 63
  have f62 := HF.out 62
  go_loopg [1, 13] 2 (fun kq v1 v13 wr => ∃ (u i : Int), v1 = .int .u64 u ∧ v13 = .int .i64 i ∧ ((kq = 2 ∧ u = u0 ∧ i = 65 ∧ wr = W0) ∨ (kq = 1 ∧ u = u1 ∧ i = 64 ∧ wr = W0.setCell ⟨g, 64, none⟩ (.int .u8 e0)) ∨ (kq = 0 ∧ u = 1 ∧ i = 63 ∧ wr = (W0.setCell ⟨g, 64, none⟩ (.int .u8 e0)).setCell ⟨g, 63, none⟩ (.int .u8 e1))))
  case atStart => exact ⟨u0, 65, rfl, rfl, .inl ⟨rfl, rfl, rfl, rfl⟩⟩
  case round =>
    obtain ⟨u, i, rfl, rfl, hq⟩ := hrel
    rcases hq with ⟨hkq, rfl, rfl, rfl⟩ | ⟨hkq, rfl, rfl, rfl⟩ | ⟨hkq, rfl, rfl, rfl⟩
    · go_wp2
      go_roundg 1
      case measure => omega
      case rel => exact ⟨u1, 64, by go_num, by go_num, .inr (.inl ⟨rfl, rfl, rfl, rfl⟩)⟩
    · go_wp2
      go_roundg 0
      case measure => omega
      case rel => exact ⟨1, 63, by go_num, by go_num, .inr (.inr ⟨rfl, rfl, rfl, rfl⟩)⟩
    · have h49 : ∀ h : 1 < (⟨#[48, 49, 50, 51, 52, 53, 54, 55, 56, 57, 97, 98, 99, 100, 101, 102, 103, 104, 105, 106, 107, 108, 109, 110, 111, 112, 113, 114, 115, 116, 117, 118, 119, 120, 121, 122]⟩ : ByteArray).size, ((⟨#[48, 49, 50, 51, 52, 53, 54, 55, 56, 57, 97, 98, 99, 100, 101, 102, 103, 104, 105, 106, 107, 108, 109, 110, 111, 112, 113, 114, 115, 116, 117, 118, 119, 120, 121, 122]⟩ : ByteArray)[1]'h).toNat = 49 := fun _ => rfl
      have hcv : (convert 45 9 (.slice (some ⟨g, 62, none⟩) 3 3)).run Tryd.prog (((W0.setCell ⟨g, 64, none⟩ (.int .u8 e0)).setCell ⟨g, 63, none⟩ (.int .u8 e1)).setCell ⟨g, 62, none⟩ (.int .u8 49)) = .ok (.string ⟨#[49, hexB (c / 16), hexB (c % 16)]⟩) (((W0.setCell ⟨g, 64, none⟩ (.int .u8 e0)).setCell ⟨g, 63, none⟩ (.int .u8 e1)).setCell ⟨g, 62, none⟩ (.int .u8 49)) := by
        refine run_convert_bytes_back (P := Tryd.prog) _ 45 9 5 ⟨g, 62, none⟩ 3 [49, hexB (c / 16), hexB (c % 16)] Tryd.underlying45 Tryd.underlying5 Tryd.underlying9 (fun j hj => ?_)
        match j, hj with
        | 0, _ => exact World.cell?_setCell_same _ _ _ (by rw [World.cell?_setCell_other _ _ _ _ (by simp), World.cell?_setCell_other _ _ _ _ (by simp)]; exact z62)
        | 1, _ =>
          rw [show (⟨g, 62, none⟩ : Addr).add 1 = ⟨g, 63, none⟩ from rfl, World.cell?_setCell_other _ _ _ _ (by simp)]
          rw [World.cell?_setCell_same _ _ _ (by rw [World.cell?_setCell_other _ _ _ _ (by simp)]; exact z63), HE.out.2]; rfl
        | 2, _ =>
          rw [show (⟨g, 62, none⟩ : Addr).add 2 = ⟨g, 64, none⟩ from rfl, World.cell?_setCell_other _ _ _ _ (by simp), World.cell?_setCell_other _ _ _ _ (by simp)]
          rw [World.cell?_setCell_same _ _ _ z64, HE.out.1]; rfl
      go_wp2
      go_ret2
      refine ⟨rfl, ?_⟩
      exact ((HB0.out.setCell (p := ⟨g, 64, none⟩) HG.out _).setCell (p := ⟨g, 63, none⟩) HG.out _).setCell (p := ⟨g, 62, none⟩) HG.out _

set_option maxRecDepth 100000 in
theorem format16i (c : Nat) (hc : c < 32) (w : World) (h : Lib.TabIs Tryd.prog w "math/bits.deBruijn64tab" .u8 tab64) :
    Calls Tryd.prog 26 #[.int .i64 ((256 + c : Nat) : Int), .int .i64 16] w fun e w' => e = .returned (.string ⟨#[49, hexB (c / 16), hexB (c % 16)]⟩) ∧ Below w.heap.size w w' := by
  have HC := Aside0.mk (bits16 c hc w h)
  obtain ⟨u, hu⟩ : ∃ u : Int, u = ((256 + c : Nat) : Int) := ⟨_, rfl⟩
  have h0 : ¬ u < 0 := by omega
  have h2 : IntKind.u64.wrap u = u := by rw [IntKind.wrap_u64]; omega
  rw [← hu] at HC ⊢
  clear h hu hc
  go_enter Tryd.func26, Tryd.ntmps26
  go_wp2_with (first
    | (go_at_call 33; refine HC.out.mono ?_; rintro e w1 ⟨rfl, hb⟩; have HB := Aside0.mk hb; clear hb))
  go_ret
  exact ⟨rfl, HB.out⟩
set_option maxRecDepth 100000 in
theorem format16 (c : Nat) (hc : c < 32) (w : World) (h : Lib.TabIs Tryd.prog w "math/bits.deBruijn64tab" .u8 tab64) :
    Calls Tryd.prog 20 #[.int .i64 ((256 + c : Nat) : Int), .int .i64 16] w fun e w' => e = .returned (.string ⟨#[49, hexB (c / 16), hexB (c % 16)]⟩) ∧ Below w.heap.size w w' := by
  have HC := Aside0.mk (format16i c hc w h)
  obtain ⟨u, hu⟩ : ∃ u : Int, u = ((256 + c : Nat) : Int) := ⟨_, rfl⟩
  rw [← hu] at HC ⊢
  clear h hu hc
  go_enter Tryd.func20, Tryd.ntmps20
  go_wp2_with (first
    | (go_at_call 26; refine HC.out.mono ?_; rintro e w1 ⟨rfl, hb⟩; have HB := Aside0.mk hb; clear hb))
  go_ret
  exact ⟨rfl, HB.out⟩

end Go.Proofs.YtmhfkbgdkgfafaaDoor.Js
