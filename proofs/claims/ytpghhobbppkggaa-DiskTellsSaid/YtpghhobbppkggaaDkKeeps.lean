/- The walk of DiskKeeps. -/
import Derived.Test.YtpghhobbppkggaaDkRoom
namespace Go.Proofs.Ytpghhobbppkggaa
open Go.RowKit

theorem extract_prefix {a b : ByteArray} (h : a.data.toList <+: b.data.toList) : a.size ≤ b.size ∧ b.extract 0 a.size = a := by
  have hl := h.length_le
  have e1 : a.data.toList.length = a.size := by simp
  have e2 : b.data.toList.length = b.size := by simp
  refine ⟨by omega, ?_⟩
  apply ByteArray.ext
  apply Array.toList_inj.1
  rw [Dk.take_data, ← e1]
  exact (List.prefix_iff_eq_take.1 h).symm

theorem crash_used (d : Dk) (k : Int) : (d.crash k).used ≤ d.used := by
  have h1 := Dk.ext_le d.s0 (Dk.kept k d.s0)
  have h2 := Dk.ext_le d.s1 (Dk.kept k d.s1)
  have e : (⟨#[]⟩ : ByteArray).size = 0 := rfl
  show (d.h0 ++ d.s0.extract 0 (Dk.kept k d.s0)).size + (⟨#[]⟩ : ByteArray).size + (d.h1 ++ d.s1.extract 0 (Dk.kept k d.s1)).size + (⟨#[]⟩ : ByteArray).size ≤ d.h0.size + d.s0.size + d.h1.size + d.s1.size
  rw [ByteArray.size_append, ByteArray.size_append, e]
  omega

theorem keeps_law {N : Nat} {d : Dk} {s0 s1 : ByteArray} (h : Dk.Inv N d s0 s1) (k : Int) :
    (s0.data.toList <+: ((d.crash k).read 0).data.toList ∧ ((d.crash k).read 0).data.toList <+: (d.read 0).data.toList) ∧
    (s1.data.toList <+: ((d.crash k).read 1).data.toList ∧ ((d.crash k).read 1).data.toList <+: (d.read 1).data.toList) := by
  have e0 : ∀ x : ByteArray, (x ++ (⟨#[]⟩ : ByteArray)).data.toList = x.data.toList := fun x => by simp
  refine ⟨⟨?_, ?_⟩, ⟨?_, ?_⟩⟩
  · show _ <+: ((d.h0 ++ _) ++ (⟨#[]⟩ : ByteArray)).data.toList
    rw [e0, Dk.app_data]; exact h.safe0.trans (List.prefix_append _ _)
  · show ((d.h0 ++ d.s0.extract 0 (Dk.kept k d.s0)) ++ (⟨#[]⟩ : ByteArray)).data.toList <+: (d.h0 ++ d.s0).data.toList
    rw [e0, Dk.app_data, Dk.app_data, Dk.take_data]
    exact (List.prefix_append_right_inj _).2 (List.take_prefix _ _)
  · show _ <+: ((d.h1 ++ _) ++ (⟨#[]⟩ : ByteArray)).data.toList
    rw [e0, Dk.app_data]; exact h.safe1.trans (List.prefix_append _ _)
  · show ((d.h1 ++ d.s1.extract 0 (Dk.kept k d.s1)) ++ (⟨#[]⟩ : ByteArray)).data.toList <+: (d.h1 ++ d.s1).data.toList
    rw [e0, Dk.app_data, Dk.app_data, Dk.take_data]
    exact (List.prefix_append_right_inj _).2 (List.take_prefix _ _)

end Go.Proofs.Ytpghhobbppkggaa
