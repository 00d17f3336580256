/- What the encoding's functions tell of bytes. -/
import Derived.Test.YtolnkahidgobhaaQBasex2
import Derived.Test.YtolnkahidgobhaaBasePa
namespace Go.Proofs.Ytolnkahidgobhaa.Pure
open Go.RowKit Go.Proofs.Ytolnkahidgobhaa.QBase Go.Proofs.Ytolnkahidgobhaa.Base Go.Proofs.YtolnkahidgobhaaW.PrintWords Go.Proofs.YtolnkahidgobhaaW.PrintLast Go.Proofs.YtolnkahidgobhaaW.PrintMore

theorem bytes_wf {l : List Int} (h : ∀ x ∈ l, (Lit.int .u8 x).wf = true) : Bytes l := fun x hx => by
  have h1 := h x hx
  simp [Lit.wf, IntKind.min, IntKind.max, IntKind.bits, IntKind.signed] at h1
  omega
theorem Bytes.take {l : List Int} (h : Bytes l) (n : Nat) : Bytes (l.take n) := fun x hx => h x (List.mem_of_mem_take hx)
theorem Bytes.append {x y : List Int} (h : Bytes x) (k : Bytes y) : Bytes (x ++ y) := fun z hz => by
  rcases List.mem_append.1 hz with hz | hz
  · exact h z hz
  · exact k z hz
theorem Text_tells (l : List Int) (h : Bytes l) (hl : l.length ≤ 600) : base_Text.f l = some (⟨(enc l).toArray⟩, 0) := by
  unfold base_Text.f base_Of.f
  rw [if_neg (by omega), if_pos ⟨by omega, (bytesIn_iff l).2 h⟩]
  rfl
theorem Sure_tells : bagnallkeep_baseSure.f = some true := by
  unfold bagnallkeep_baseSure.f
  rw [Text_tells [0] (fun x hx => by rw [List.mem_singleton.1 hx]; omega) (by decide)]
  decide +kernel
theorem Bytes_tells (s : ByteArray) (h : s.size ≤ 1200) : base_Bytes.f s = some (told (decGo 0 0 s.data.toList)) := by
  unfold base_Bytes.f
  rw [if_neg (by omega)]
theorem toList_of (l : List UInt8) : (⟨l.toArray⟩ : ByteArray).toList = l := by rw [ByteArray.toList_eq]
theorem size_of (l : List UInt8) : (⟨l.toArray⟩ : ByteArray).size = l.length := by simp [ByteArray.size]
theorem mn_nat (n k : Nat) : mn (n : Int) (k : Int) = ((min n k : Nat) : Int) := by unfold mn; split <;> omega
theorem toList_data (s : ByteArray) : s.toList = s.data.toList := by rw [ByteArray.toList_eq]

end Go.Proofs.Ytolnkahidgobhaa.Pure
