/- A byte of a text, of its list. -/
import Derived.Test.YtalncnblcfcmcaaDoorShHex
namespace Go.Proofs.YtalncnblcfcmcaaDoor
open Go.RowKit

theorem byte_at (s : ByteArray) {k : Nat} (h : k < s.size) : s.data.toList.getD k 0 = s[k] := by
  have hl : k < s.data.toList.length := h
  rw [List.getD_eq_getElem?_getD, List.getElem?_eq_getElem hl]
  rfl

end Go.Proofs.YtalncnblcfcmcaaDoor
