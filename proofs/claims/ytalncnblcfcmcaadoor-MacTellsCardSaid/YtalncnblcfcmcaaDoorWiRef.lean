/- The walks of the document's own Put, PutText: each gives what the code gives. -/
import Derived.Test.YtalncnblcfcmcaaDoorWiGetText
import Derived.Deep.Cut
namespace Go.Proofs.YtalncnblcfcmcaaDoor
open Go.RowKit

theorem conv1 (w : World) (c : Nat) : (convert 52 9 (.slice (some ⟨w.heap.size, 0, none⟩) 1 1)).run Tryd.prog (w.alloc (.cells #[.int .u8 (c : Int)] 5)) = .ok (.string ⟨#[UInt8.ofNat c]⟩) (w.alloc (.cells #[.int .u8 (c : Int)] 5)) := by
  have h := run_convert_bytes_arg (P := Tryd.prog) (w.alloc (.cells #[.int .u8 (c : Int)] 5)) 52 5 Tryd.underlying52 Tryd.underlying5 w.heap.size 0 1 1 [(c : Int)] rfl (fun i hi => by
    rw [World.cell?_alloc_mark]
    match i, hi with
    | 0, _ => rfl) 9 Tryd.underlying9
  exact h

theorem bytes_snoc (l : List UInt8) (b : UInt8) : ((⟨l.toArray⟩ : ByteArray) ++ (⟨#[b]⟩ : ByteArray)) = ⟨(l ++ [b]).toArray⟩ := by
  apply ByteArray.ext
  apply Array.toList_inj.1
  simp

set_option maxHeartbeats 1000000 in
theorem rPut_any (u : Nat) (w : World) (hu : u < 18446744073709551616) :
    Calls Tryd.prog 50 #[.int .u64 (u : Int)] w fun e w' => e = .returned (.string ⟨(Wi.put u).toArray⟩) ∧ Below w.heap.size w w' := by
  have HP0 := Lib.hid (Puts.start hu)
  clear hu
  go_enter Tryd.func50, Tryd.ntmps50
  go_wp2_with fail
  go_loopw [0, 3] (fun s0 v wr => ∃ (l : List UInt8) (x : Nat), s0 = .int .u64 (x : Int) ∧ Puts u l x ∧ v = .string ⟨l.toArray⟩ ∧ Below w.heap.size w wr) (fun s0 _ _ => (intOf s0).toNat)
  case atStart => exact ⟨[], u, rfl, HP0.out, rfl, Below.refl _ _⟩
  case round =>
    clear HP0
    obtain ⟨l, x, rfl, hP, rfl, hbel⟩ := hrel
    have hls : (⟨l.toArray⟩ : ByteArray).size ≤ 9 := by show l.toArray.size ≤ 9; simpa using hP.le
    have hws := hbel.size
    by_cases hx : 128 ≤ x
    · have hx' : (128 : Int) ≤ (x : Int) := by omega
      have hwx : IntKind.u64.wrap ((x : Int) / 128) = (x : Int) / 128 := by have := hP.x64; rw [IntKind.wrap_u64]; omega
      obtain ⟨c, hc⟩ : ∃ c, x % 128 + 128 = c := ⟨_, rfl⟩
      have hor := byte_or x c hc
      have hor2 : bits .or .u8 ((x : Int) % 128) 128 = (c : Int) := by
        have := byte_or (x % 128) c (by omega)
        rwa [show ((x % 128 : Nat) : Int) % 256 = (x : Int) % 128 by omega] at this
      obtain ⟨hP2, _⟩ := hP.next hx
      rw [hc] at hP2
      have HP2 := Lib.hid hP2; clear hP2 hP hc
      have kc := conv1 wr c
      have HBS := Lib.hid (bytes_snoc l (UInt8.ofNat c))
      generalize (⟨l.toArray⟩ : ByteArray) = q at hls HBS ⊢
      have HB := Lib.hid (hbel.alloc hws (.cells #[.int .u8 (c : Int)] 5))
      go_wp2_with fail
      go_roundw
      case rel => exact ⟨l ++ [UInt8.ofNat c], x / 128, by go_num, HP2.out, by rw [← HBS.out], HB.out⟩
      case measure => simp [intOf]; omega
    · have hx' : ¬ (128 : Int) ≤ (x : Int) := by omega
      have hmod : (x : Int) % 256 = (x : Int) := by omega
      have hd := hP.done (by omega)
      have HD := Lib.hid hd; clear hd hP
      have kc := conv1 wr x
      have HBS := Lib.hid (bytes_snoc l (UInt8.ofNat x))
      generalize (⟨l.toArray⟩ : ByteArray) = q at hls HBS ⊢
      have HB := Lib.hid (hbel.alloc hws (.cells #[.int .u8 (x : Int)] 5))
      go_wp2_with fail
      go_ret
      exact ⟨ret_str (by rw [HD.out, ← HBS.out]), HB.out⟩

theorem rPutText_any (t : ByteArray) (w : World) (ht : t.size ≤ 9007199254740992) :
    Calls Tryd.prog 49 #[.string t] w fun e w' => e = .returned (.string (Wi.putText t)) ∧ Below w.heap.size w w' := by
  have hp := (Wi.put_len t.size).2
  have HP := Lib.hid (fun w => rPut_any t.size w (by omega))
  have HT := Lib.hid (show Wi.putText t = ⟨(Wi.put t.size).toArray⟩ ++ t from rfl)
  obtain ⟨q, hq⟩ : ∃ q, (⟨(Wi.put t.size).toArray⟩ : ByteArray) = q := ⟨_, rfl⟩
  have hqs : q.size ≤ 10 := by rw [← hq]; show (Wi.put t.size).toArray.size ≤ 10; simpa using hp
  rw [hq] at HP HT
  clear hq hp
  go_enter Tryd.func49, Tryd.ntmps49
  go_wp2_with fail
  refine (HP.out _).mono ?_
  rintro e w1 ⟨rfl, hb⟩
  go_wp2_with fail
  go_ret
  exact ⟨ret_str (by rw [HT.out]), hb⟩

end Go.Proofs.YtalncnblcfcmcaaDoor
