/- Slices of bytes that a call makes: their cells, and the text that they are turned into. -/
import Derived.Test.YtalncnblcfcmcaaDoorKit
import Derived.OwnWalk
import Derived.Laws.OwnMore
import Derived.Laws.BytesArg
namespace Go.Proofs.YtalncnblcfcmcaaDoor
open Go.RowKit

theorem Tryd.infoU8 : (Tryd.prog.info? 5).map (fun i => (i.zero, i.size, i.bytes)) = some (some (.int .u8 0), 1, 1) := by kernel_rfl

/-- bytes as cells -/
def bcells (l : List UInt8) : List Value := l.map fun b => .int .u8 (b.toNat : Int)

theorem own_form {w : World} {base e n : Nat} {v : Value} {xs : List Value} (h : w.ownsRow base e 1 v n xs) (hn : 0 < n) : ∃ g cap, v = .slice (some ⟨g, 0, none⟩) n cap := by
  obtain ⟨_, ⟨_, h0⟩ | ⟨g, cap, _, rfl, _⟩⟩ := h
  · omega
  · exact ⟨g, cap, rfl⟩

theorem own_string {w : World} {base : Nat} {v : Value} {l : List UInt8} (h : w.ownsRow base 5 1 v l.length (bcells l)) (hn : 0 < l.length) :
    (convert 52 9 v).run Tryd.prog w = .ok (.string ⟨l.toArray⟩) w := by
  obtain ⟨g, cap, rfl⟩ := own_form h hn
  have key := run_convert_bytes_arg (P := Tryd.prog) w 52 5 Tryd.underlying52 Tryd.underlying5 g 0 l.length cap (l.map fun b => (b.toNat : Int)) (by simp) (fun i hi => by
    have e : (⟨g, 0 + i, none⟩ : Addr) = ⟨g, i, none⟩ := by rw [Nat.zero_add]
    rw [e, h.cellAt i (by omega)]
    simp [bcells, hi]) 9 Tryd.underlying9
  rw [key]
  have e2 : strOfNums (l.map fun b => (b.toNat : Int)) = ⟨l.toArray⟩ := by
    apply ByteArray.ext
    apply Array.toList_inj.1
    rw [strOfNums_data, List.map_map]
    simp [Function.comp_def]
  rw [e2]

theorem byte_toNat {n : Nat} (h : n < 256) : (UInt8.ofNat n).toNat = n := by simp; omega
theorem bcells_snoc (l : List UInt8) (x : Nat) (hx : x < 256) : bcells l ++ [.int .u8 (x : Int)] = bcells (l ++ [UInt8.ofNat x]) := by
  unfold bcells
  rw [List.map_append, List.map_singleton, byte_toNat hx]

end Go.Proofs.YtalncnblcfcmcaaDoor