/- For every string, BaseFixed returns true: a string that can be decoded is the encoding of the decoded bytes. No condition. -/
import Derived.Test.YtolnkahidgobhaaQBasex7
import Derived.Test.YtolnkahidgobhaaBasePb
namespace Go.Proofs.Ytolnkahidgobhaa.Pure
open Go.RowKit Go.Proofs.Ytolnkahidgobhaa.QBase Go.Proofs.Ytolnkahidgobhaa.Base Go.Proofs.YtolnkahidgobhaaW.PrintWords Go.Proofs.YtolnkahidgobhaaW.PrintLast Go.Proofs.YtolnkahidgobhaaW.PrintMore

theorem BaseFixed : bagnallkeep_BaseFixed.Pure := by
  intro s _
  unfold bagnallkeep_BaseFixed.f
  by_cases hs : s.size ≤ 1200
  · rw [Bytes_tells s hs, Option.bind_some]
    cases hd : decGo 0 0 s.data.toList with
    | none =>
      rw [show told none = ([], 4) from rfl]
      rw [if_neg (by decide), if_pos (by decide), Sure_tells, Option.bind_some, if_pos rfl, if_neg (by decide)]
      rfl
    | some r =>
      obtain ⟨h1, h2, h3⟩ := fixed _ _ hd
      have hlen : s.data.toList.length = s.size := by rw [Array.length_toList]; rfl
      rw [show told (some r) = (r, 0) from rfl, if_pos rfl]
      by_cases hr : (r.length : Int) > 600
      · rw [if_pos hr, Sure_tells]; rfl
      · rw [if_neg hr, if_pos (by simp; omega), List.nil_append, Text_tells r h2 (by omega), Option.bind_some, if_pos rfl, toList_of, h1, if_pos (toList_data s).symm, Sure_tells]; rfl
  · unfold base_Bytes.f
    rw [if_pos (by omega), Option.bind_some, if_neg (by decide), if_pos (by decide), Sure_tells, Option.bind_some, if_pos rfl, if_pos (by decide)]

end Go.Proofs.Ytolnkahidgobhaa.Pure
