/- A slice's cells as a text. -/
import Derived.Test.YtalncnblcfcmcaaDoorShBlock
import Derived.Test.YtalncnblcfcmcaaDoorOwnB
import Derived.Deep.RegionHeld3
namespace Go.Proofs.YtalncnblcfcmcaaDoor
open Go.RowKit

theorem row_string {y : World} {g n cap : Nat} {l : List UInt8} (h : Row y g (bcells l)) (hl : l.length = n) :
    (convert 52 9 (.slice (some ⟨g, 0, none⟩) n cap)).run Tryd.prog y = .ok (.string ⟨l.toArray⟩) y := by
  subst hl
  have key := run_convert_bytes_arg (P := Tryd.prog) y 52 5 Tryd.underlying52 Tryd.underlying5 g 0 l.length cap (l.map fun b => (b.toNat : Int)) (by simp) (fun i hi => by
    have e : (⟨g, 0 + i, none⟩ : Addr) = ⟨g, i, none⟩ := by rw [Nat.zero_add]
    rw [e, (h i (.int .u8 ((l[i]'hi).toNat : Int)) (by simp [bcells, hi])).1]
    simp [hi]) 9 Tryd.underlying9
  rw [key]
  have e2 : strOfNums (l.map fun b => (b.toNat : Int)) = ⟨l.toArray⟩ := by
    apply ByteArray.ext
    apply Array.toList_inj.1
    rw [strOfNums_data, List.map_map]
    simp [Function.comp_def]
  rw [e2]


end Go.Proofs.YtalncnblcfcmcaaDoor
