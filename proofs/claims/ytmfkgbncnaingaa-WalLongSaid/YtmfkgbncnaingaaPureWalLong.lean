/- For all lists, WalLong returns true: a packed batch has four bytes more a record, and is read back. No condition. -/
import Derived.Test.YtmfkgbncnaingaaQWalx10
import Derived.Test.YtmfkgbncnaingaaWalPb
namespace Go.Proofs.Ytmfkgbncnaingaa.Pure
open Go.RowKit Go.Proofs.Ytmfkgbncnaingaa.QWal Go.Proofs.Ytmfkgbncnaingaa.Wal Go.Proofs.YtmfkgbncnaingaaW.PrintWords Go.Proofs.YtmfkgbncnaingaaW.PrintLast Go.Proofs.YtmfkgbncnaingaaW.PrintMore

theorem ofGo_pre (z : List (List Int)) : (ofGo z).length = (pre z).length := by
  induction z with
  | nil => rfl
  | cons x l ih => rw [ofGo, pre, List.length_append, List.length_append, frameOf_length, frameOf_length, ih]
theorem long_loop (z : List (List Int)) (hz : Nice z) (K : Nat) (hK : ∀ m, K ≤ m → bagnallkeep_sameBatches.f m [z] [z] = some true) : ∀ (d i : Nat), i + d = z.length → ∀ m, K + d ≤ m → bagnallkeep_WalLong.l0 (m + 1) [z] (ofGo z) 0 ((pre (z.take i)).length : Int) (i : Int) = some true := by
  have hz1 := hz.1
  have ho := hz.ofGo
  have hp := ofGo_pre z
  have r0 : rd_L2 [z] 0 = z := rfl
  intro d
  induction d with
  | zero =>
    intro i hi m hm
    have hr := readOf_flat [z] (fun y hy => by rw [List.mem_singleton.1 hy]; exact hz.good) []
    have hf : flat [z] = ofGo z := by simp [flat]
    rw [List.append_nil, read_nil, hf] at hr
    rw [bagnallkeep_WalLong.l0, if_pos (by simp), r0, if_neg (by omega), if_pos (by show 0 + (ofGo z).length < _; omega), List.nil_append, scan_tells ho.2.2 (by omega), Option.bind_some, hr, if_pos rfl, if_pos rfl, List.take_of_length_le (by omega), if_pos (by omega), if_pos (by show (((ofGo z).length + 0 : Nat) : Int) = _; omega), if_pos (by omega), List.append_nil, hK _ (by omega)]
    rfl
  | succ d ih =>
    intro i hi m hm
    obtain ⟨m, rfl⟩ : ∃ q, m = q + 1 := ⟨m - 1, by omega⟩
    have hi' : i < z.length := by omega
    have h6 := (hz.2 _ (List.getElem_mem hi')).1
    have hpl : (pre (z.take (i + 1))).length = (pre (z.take i)).length + (z[i].length + 4) := by
      rw [List.take_succ_eq_append_getElem hi', pre_append, pre_one, List.length_append, frameOf_length]
    have hle : (pre (z.take i)).length ≤ (pre z).length := by
      have e : pre z = pre (z.take i) ++ pre (z.drop i) := by rw [← pre_append, List.take_append_drop]
      rw [e, List.length_append]; omega
    rw [bagnallkeep_WalLong.l0, if_pos (by simp), r0, if_pos (by omega), if_pos (by omega), rd_L1_get z i hi', show wrap64 ((z[i].length : Int) + 4) = (z[i].length : Int) + 4 from w64 (by omega) (by omega), show wrap64 (((pre (z.take i)).length : Int) + ((z[i].length : Int) + 4)) = ((pre (z.take (i + 1))).length : Int) by rw [w64 (by omega) (by omega), hpl]; omega, show wrap64 ((i : Int) + 1) = ((i + 1 : Nat) : Int) by rw [w64 (by omega) (by omega)]; omega]
    exact ih (i + 1) (by omega) m (by omega)
theorem long_j0 (z : List (List Int)) (hz : Nice z) : ∃ K, ∀ m, K ≤ m → bagnallkeep_WalLong.j0 (m + 2) [z] = some true := by
  obtain ⟨K, hK⟩ := batches_same [z] [z] (small_good _ (fun y hy => by rw [List.mem_singleton.1 hy]; exact hz.good) (by have := hz.ofGo.2.1; simp [flat]; omega))
  refine ⟨K + z.length, fun m hm => ?_⟩
  rw [bagnallkeep_WalLong.j0, if_pos (by simp), show rd_L2 [z] 0 = z from rfl, pack_tells hz, Option.bind_some]
  exact long_loop z hz K (fun m hm => by rw [hK m hm]; simp) z.length 0 (by omega) m hm

theorem WalLong : bagnallkeep_WalLong.Pure := by
  intro l0 _ _ _
  obtain ⟨bs, ⟨hb, hn⟩, K, hK⟩ := batches l0 1 (by omega)
  match bs, hb with
  | [], _ =>
    obtain ⟨K2, hK2⟩ := long_j0 [[5]] ⟨by decide, fun x hx => by rw [List.mem_singleton.1 hx]; exact ⟨by decide, fun y hy => by rw [List.mem_singleton.1 hy]; decide⟩⟩
    refine ⟨max K K2 + 2, ?_⟩
    unfold bagnallkeep_WalLong.f
    have h := hK (max K K2 + 2) (by omega)
    rw [show ((1 : Nat) : Int) = 1 from rfl] at h
    rw [h, Option.bind_some, if_pos (by decide)]
    exact hK2 _ (by omega)
  | [z], _ =>
    obtain ⟨K2, hK2⟩ := long_j0 z (hn z List.mem_cons_self)
    refine ⟨max K K2 + 2, ?_⟩
    unfold bagnallkeep_WalLong.f
    have h := hK (max K K2 + 2) (by omega)
    rw [show ((1 : Nat) : Int) = 1 from rfl] at h
    rw [h, Option.bind_some, if_neg (by simp)]
    exact hK2 _ (by omega)
  | _ :: _ :: _, hb => exact absurd hb (by simp)

end Go.Proofs.Ytmfkgbncnaingaa.Pure
