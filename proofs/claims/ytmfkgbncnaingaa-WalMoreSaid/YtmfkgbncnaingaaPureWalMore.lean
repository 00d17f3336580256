/- For all lists, WalMore returns true: what stands behind whole batches is read as if it stood alone. No condition. -/
import Derived.Test.YtmfkgbncnaingaaQWalx8
import Derived.Test.YtmfkgbncnaingaaWalPb
namespace Go.Proofs.Ytmfkgbncnaingaa.Pure
open Go.RowKit Go.Proofs.Ytmfkgbncnaingaa.QWal Go.Proofs.Ytmfkgbncnaingaa.Wal Go.Proofs.YtmfkgbncnaingaaW.PrintWords Go.Proofs.YtmfkgbncnaingaaW.PrintLast Go.Proofs.YtmfkgbncnaingaaW.PrintMore

theorem WalMore : bagnallkeep_WalMore.Pure := by
  intro l0 l1 _ _ _ _ h1 w1
  have b1 := (bytes_wf w1).take 200
  obtain ⟨bs, ⟨hb, hn⟩, K, hK⟩ := batches l0 12 (by omega)
  obtain ⟨hf, hB⟩ := flat_len bs hn
  have hd : (l1.take 200).length ≤ 200 := by rw [List.length_take]; omega
  have hr := readOf_flat bs (fun z hz => (hn z hz).good) (l1.take 200)
  have hs := small_read (hB.append b1) (by rw [List.length_append]; omega)
  have hu : (readOf (l1.take 200)).2 ≤ 200 := by
    obtain ⟨rest, e1, e2, _⟩ := read_is b1
    have := congrArg List.length e1
    rw [List.length_append] at this; omega
  have hy : (readOf (l1.take 200)).1.length ≤ 200 := by
    obtain ⟨rest, e1, _, e3⟩ := read_is b1
    have h2 := (readOf_flat bs (fun z hz => (hn z hz).good) (l1.take 200))
    have h3 := hs.1
    rw [h2] at h3
    have : ∀ a : List (List (List Int)), (∀ z ∈ a, Wal.Good z) → a.length ≤ (flat a).length := by
      intro a
      induction a with
      | nil => exact fun _ => by simp
      | cons z l ih =>
        intro h
        have i1 := ih fun y hy => h y (List.mem_cons_of_mem _ hy)
        have hg := h z List.mem_cons_self
        have : 1 ≤ (ofGo z).length := by
          cases z with
          | nil => exact absurd rfl hg.1
          | cons x t => rw [ofGo, List.length_append, frameOf_length]; omega
        rw [flat, List.length_append, List.length_cons]; omega
    have h4 := this _ e3
    have h5 := congrArg List.length e1
    rw [List.length_append] at h5; omega
  rw [hr] at hs
  obtain ⟨K2, hK2⟩ := batches_same _ _ hs
  refine ⟨max (max K K2) 100, ?_⟩
  unfold bagnallkeep_WalMore.f
  have h := hK (max (max K K2) 100) (by omega)
  rw [show ((12 : Nat) : Int) = 12 from rfl] at h
  rw [h, Option.bind_some, packed_tells bs hn (by omega) _ (by omega), Option.bind_some, cut_tells l1 (by omega), Option.bind_some]
  dsimp only
  rw [if_pos (by show 0 + (flat bs).length < _; omega), Option.bind_some, List.nil_append, if_pos (by omega), scan_tells (hB.append b1) (by rw [List.length_append]; omega), Option.bind_some, cut_tells _ (by omega), Option.bind_some, List.take_take, Nat.min_self, scan_tells b1 (by omega), Option.bind_some, one_tells, Option.bind_some, if_pos rfl, if_pos rfl, if_pos rfl, if_pos rfl, if_pos one_five, hr]
  dsimp only
  rw [if_pos (by rw [w64 (by omega) (by omega)]; omega), if_pos (by show 0 + bs.length < _; omega), Option.bind_some, List.nil_append, if_pos (by omega), hK2 _ (by omega), decide_eq_true rfl]
  rfl

end Go.Proofs.Ytmfkgbncnaingaa.Pure
