/- What the row's listed variables give the walks: Glob. -/
import Derived.Test.YtmhfkbgdkgfafaaGreatDoorRows
import Derived.Test.YtmhfkbgdkgfafaaGreatDoorGJb
import Derived.LaidMore
import Derived.Lay
import Derived.Stop.Joined
import Derived.Stop.LaidErr
import Derived.Lib.LaidTab
namespace Go.Proofs.YtmhfkbgdkgfafaaGreatDoor.Js
open Go.RowKit Go.Proofs.YtmhfkbgdkgfafaaGreatDoor.QJson Go.Proofs.YtmhfkbgdkgfafaaGreatDoorW.PrintWords Go.Proofs.YtmhfkbgdkgfafaaGreatDoorW.PrintLast Go.Proofs.YtmhfkbgdkgfafaaGreatDoorW.PrintMore
set_option linter.unusedVariables false
set_option linter.unusedSimpArgs false

/-- An array of strings that reads as listed holds them, cell for cell. -/
theorem cells_of_words {H : Type} {enc : TypeId × Value → H} {P : Program} {w : World} {base : Nat} {sp : Nat → Bool} {held : Bool} {fuel : Nat} {t e : TypeId} {n : Nat} {cs : List Value} {zs : List (List UInt8)} {p : List MemPlace}
    (ht : P.underlying t = some (.array n e)) (he : P.underlying e = some .string) (hce : P.cellsOf e = 1) (hct : P.cellsOf t = n)
    (h : DataW.trod enc P w base sp held fuel t cs = some (.agg (zs.map fun z => .lit (.string z)), p)) : cs = zs.map fun z => Value.string ⟨z.toArray⟩ := by
  cases fuel with
  | zero => simp [DataW.trod] at h
  | succ fuel =>
    simp only [DataW.trod, ht, hce, hct, Nat.mul_one] at h
    split at h
    · rename_i hl
      obtain ⟨xs, hm, hx⟩ := Option.map_eq_some_iff.1 h
      have hxs : xs.map (·.1) = zs.map fun z => (DataW.lit (.string z) : DataW H) := by
        have := congrArg Prod.fst hx
        simpa using this
      have hxl : xs.length = n := by simpa using Lib.mapM_length hm
      have hzl : zs.length = n := by
        have := congrArg List.length hxs
        simp at this
        omega
      apply List.ext_getElem?
      intro i
      by_cases hi : i < n
      · obtain ⟨b, hb, hf⟩ := Lib.mapM_at hm i i (by simp [hi])
        obtain ⟨s, hc, rfl, _⟩ := DataW.trod_string he hf
        have h1 : cs[i]? = some (.string s) := by
          have := congrArg (·[0]?) hc
          simpa [List.getElem?_take, List.getElem?_drop] using this
        have h2 : (xs.map (·.1))[i]? = some (DataW.lit (.string s.data.toList) : DataW H) := by simp [hb]
        rw [hxs] at h2
        simp only [List.getElem?_map, Option.map_eq_some_iff, DataW.lit.injEq, Lit.string.injEq] at h2
        obtain ⟨z', hz', e⟩ := h2
        subst e
        simp [h1, hz']
      · rw [List.getElem?_eq_none (by omega), List.getElem?_eq_none (by simp; omega)]
    · cases h

def laid8 : List (String × DataW Unit) := [("math/bits.deBruijn32tab", Rows.laid_math_bits_deBruijn32tab), ("math/bits.deBruijn64tab", Rows.laid_math_bits_deBruijn64tab), ("internal/strconv.uint64pow10", Rows.laid_internal_strconv_uint64pow10), ("unicode/utf8.acceptRanges", Rows.laid_unicode_utf8_acceptRanges), ("strconv.ErrRange", Rows.laid_strconv_ErrRange), ("strconv.ErrSyntax", Rows.laid_strconv_ErrSyntax), ("bagnall/json.words", Rows.laid_bagnall_json_words), ("unicode/utf8.first", Rows.laid_unicode_utf8_first)]
/-- The door's own heap meets the condition. -/
theorem door_met (os : Os) (args : Array Value) : laidMetH Tryz.prog laid8 ((World.laidAll Tryz.prog os laid8).forCall (fun _ _ => 0) ⟨#[], args, []⟩).memory := by
  rw [MakeChecks.laidMetH_plain _ _ _ (by kernel_rfl)]
  exact laidMet_laidAll _ (by kernel_rfl) (by kernel_rfl)
theorem isIface_of {o : Option TypeDesc} (h : (match o with | some (.interface _) => true | _ => false) = true) : ∃ ms, o = some (.interface ms) := by
  match o, h with
  | some (.interface ms), _ => exact ⟨ms, rfl⟩
theorem iface_at {P : Program} {n nm : String} {d : DataW Unit} {r : List (String × DataW Unit)} {W : World} {g : Nat} {ti : TypeId} {ms : Array (String × TypeId)} (h : laidMet P ((n, .iface nm d) :: r) W)
    (hg : P.globalNamed n = some g) (ht : (P.globals[g]?).map (·.type) = some ti) (hi : P.underlying ti = some (.interface ms)) : ∃ u v, W.cell? ⟨g, 0, none⟩ = some (.iface u v) := by
  obtain ⟨ps, ⟨g0, t0, cs0, f0, p0, q0, hg0, ht0, hv0, hd0, _, e0⟩, _, hrows⟩ := h
  obtain rfl := Option.some.inj (hg.symm.trans hg0)
  obtain rfl := Option.some.inj (ht.symm.trans ht0)
  obtain ⟨l0⟩ := cs0
  obtain ⟨f1, u, v, rfl, _, _⟩ := iface_of_trod hi hd0
  exact ⟨u, v, by simpa using World.var?_cell hg0 hv0 0⟩
theorem cell_lt {W : World} {g k : Nat} {v : Value} (h : W.cell? ⟨g, k, none⟩ = some v) : g < W.heap.size := by
  rcases Nat.lt_or_ge g W.heap.size with h' | h'
  · exact h'
  · exfalso
    have : W.heap[g]? = none := Array.getElem?_eq_none h'
    simp [World.cell?, this] at h
theorem words_of {P : Program} {r : List (String × DataW Unit)} {W : World} (h : laidMet Tryz.prog (("bagnall/json.words", Rows.laid_bagnall_json_words) :: r) W) : Words W := by
  obtain ⟨ps, ⟨g0, t0, cs0, f0, p0, q0, hg0, ht0, hv0, hd0, _, e0⟩, _, hrows⟩ := h
  have hg : Tryz.prog.globalNamed "bagnall/json.words" = some 0 := by kernel_rfl
  have ht : (Tryz.prog.globals[0]?).map (·.type) = some 61 := by kernel_rfl
  obtain rfl := Option.some.inj (hg.symm.trans hg0)
  obtain rfl := Option.some.inj (ht.symm.trans ht0)
  have hc := cells_of_words (n := 4) (e := 9) (zs := [[], [110, 117, 108, 108], [102, 97, 108, 115, 101], [116, 114, 117, 101]]) (by kernel_rfl) (by kernel_rfl) (by kernel_rfl) (by kernel_rfl) hd0
  have hx : ∀ i v, cs0.toList[i]? = some v → W.cell? ⟨0, i, none⟩ = some v := fun i v hi => by
    have := World.var?_cell hg0 hv0 i
    rw [this, ← hi, Array.getElem?_toList]
  rw [hc] at hx
  exact ⟨hx 0 _ rfl, hx 1 _ rfl, hx 2 _ rfl, hx 3 _ rfl⟩
/-- What the walks ask. -/
theorem glob_of {W : World} (h : laidMetH Tryz.prog laid8 W) : Glob W.heap.size W := by
  rw [MakeChecks.laidMetH_plain _ _ _ (by kernel_rfl)] at h
  have h1 := laidMet.tail h
  have h2 := laidMet.tail h1
  have h3 := laidMet.tail h2
  have h4 := laidMet.tail h3
  have h5 := laidMet.tail h4
  have h6 := laidMet.tail h5
  obtain ⟨ms, hms⟩ := isIface_of (o := Tryz.prog.underlying 86) (by kernel_rfl)
  obtain ⟨u1, v1, e1⟩ := iface_at (g := 6) (ti := 86) h4 (by kernel_rfl) (by kernel_rfl) hms
  obtain ⟨u2, v2, e2⟩ := iface_at (g := 5) (ti := 86) h5 (by kernel_rfl) (by kernel_rfl) hms
  have hT : Tabs W := ⟨Lib.tabIs_of_head (g := 8) (t := 181) (e := 5) (n := 64) (by kernel_rfl) (by kernel_rfl) (by kernel_rfl) (by kernel_rfl) (by kernel_rfl) (by kernel_rfl) h1, Lib.tabIs_of_head (g := 2) (t := 163) (e := 71) (n := 20) (by kernel_rfl) (by kernel_rfl) (by kernel_rfl) (by kernel_rfl) (by kernel_rfl) (by kernel_rfl) h2⟩
  have hW := words_of (P := Tryz.prog) h6
  refine ⟨Nat.le_refl _, fun w' hb => ?_, fun w' hb => ?_⟩
  · exact ⟨hT.below hb, ⟨_, (hb.cell (p := ⟨5, 0, none⟩) (cell_lt e2)).trans e2, .inr ⟨_, _, rfl⟩⟩, ⟨_, (hb.cell (p := ⟨6, 0, none⟩) (cell_lt e1)).trans e1, .inr ⟨_, _, rfl⟩⟩⟩
  · obtain ⟨a, b, c, d⟩ := hW
    exact ⟨(hb.cell (p := ⟨0, 0, none⟩) (cell_lt a)).trans a, (hb.cell (p := ⟨0, 1, none⟩) (cell_lt b)).trans b, (hb.cell (p := ⟨0, 2, none⟩) (cell_lt c)).trans c, (hb.cell (p := ⟨0, 3, none⟩) (cell_lt d)).trans d⟩
#print axioms glob_of
#print axioms door_met
end Go.Proofs.YtmhfkbgdkgfafaaGreatDoor.Js
