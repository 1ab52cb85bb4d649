/- The walks of wire.Put and wire.PutText. -/
import Derived.Test.YtalncnblcfcmcaaDoorWiPlain
import Derived.Test.YtalncnblcfcmcaaDoorOwnB
import Derived.OwnWalk
import Derived.Laws.OwnMore
import Derived.Laws.BytesArg
import Derived.Laws.BitsAllLaws
import Derived.Handy
import Derived.Deep.Cut
namespace Go.Proofs.YtalncnblcfcmcaaDoor
open Go.RowKit

theorem or128_all : (List.range 256).all (fun y => y ||| 128 == y % 128 + 128) = true := by kernel_rfl
theorem or128 (y : Nat) (h : y < 256) : y ||| 128 = y % 128 + 128 := by
  have := List.all_eq_true.1 or128_all y (List.mem_range.2 h)
  simpa using this
theorem byte_or (x c : Nat) (hc : x % 128 + 128 = c) : bits .or .u8 ((x : Int) % 256) 128 = (c : Int) := by
  rw [← hc, show (x : Int) % 256 = ((x % 256 : Nat) : Int) from by omega]
  have h := u8_or_nat (x % 256) 128 (Nat.mod_lt _ (by omega)) (by omega)
  rw [or128 _ (Nat.mod_lt _ (by omega)), Nat.mod_mod_of_dvd _ (by omega)] at h
  exact h

/-- what is put so far -/
structure Puts (u : Nat) (l : List UInt8) (x : Nat) : Prop where
  le : l.length ≤ 9
  x64 : x < 18446744073709551616
  lt : x < 128 ^ (10 - l.length)
  all : Wi.put u = l ++ Wi.putN (9 - l.length) x

theorem Puts.start {u : Nat} (hu : u < 18446744073709551616) : Puts u [] u := ⟨by simp, hu, Nat.lt_trans hu Wi.two64, rfl⟩
theorem Puts.next {u x : Nat} {l : List UInt8} (h : Puts u l x) (hx : 128 ≤ x) : Puts u (l ++ [UInt8.ofNat (x % 128 + 128)]) (x / 128) ∧ l.length ≤ 8 := by
  have hl : l.length ≤ 8 := by
    rcases Nat.lt_or_ge 8 l.length with h1 | h1
    · have := h.lt
      have h2 := h.le
      rw [show 10 - l.length = 1 by omega] at this
      simp at this; omega
    · exact h1
  obtain ⟨m, hm⟩ : ∃ m, 9 - l.length = m + 1 := ⟨8 - l.length, by omega⟩
  refine ⟨⟨by simp; omega, by have := h.x64; omega, ?_, ?_⟩, hl⟩
  · have := h.lt
    rw [show 10 - l.length = (m + 1) + 1 by omega, Nat.pow_succ] at this
    rw [List.length_append, List.length_singleton, show 10 - (l.length + 1) = m + 1 by omega]
    exact Nat.div_lt_of_lt_mul (by rw [Nat.mul_comm]; exact this)
  · rw [h.all, hm, Wi.putN, if_neg (by omega), List.length_append, List.length_singleton, show 9 - (l.length + 1) = m by omega]
    simp
theorem Puts.done {u x : Nat} {l : List UInt8} (h : Puts u l x) (hx : x < 128) : Wi.put u = l ++ [UInt8.ofNat x] := by
  rw [h.all]
  cases 9 - l.length with
  | zero => rfl
  | succ m => rw [Wi.putN, if_pos hx]

set_option maxHeartbeats 1000000 in
theorem Put_any (u : Nat) (w : World) (hu : u < 18446744073709551616) :
    Calls Tryd.prog 46 #[.int .u64 (u : Int)] w fun e w' => e = .returned (.string ⟨(Wi.put u).toArray⟩) ∧ Below w.heap.size w w' := by
  obtain ⟨i0, hi, hz0, hz1, hz2⟩ := info_parts Tryd.infoU8
  have HP0 := Lib.hid (Puts.start hu)
  clear hu
  go_enter Tryd.func46, Tryd.ntmps46
  go_wp2_with fail
  go_loopw [0, 3] (fun s0 v wr => ∃ (l : List UInt8) (x : Nat), s0 = .int .u64 (x : Int) ∧ Puts u l x ∧ wr.ownsRow w.heap.size 5 1 v l.length (bcells l) ∧ Below w.heap.size w wr) (fun s0 _ _ => (intOf s0).toNat)
  case atStart => exact ⟨[], u, rfl, HP0.out, World.ownsRow_nil _ _ _ _, Below.refl _ _⟩
  case round =>
    clear HP0
    obtain ⟨l, x, rfl, hP, hown, hbel⟩ := hrel
    by_cases hx : 128 ≤ x
    · have hx' : (128 : Int) ≤ (x : Int) := by omega
      obtain ⟨c, hc⟩ : ∃ c, x % 128 + 128 = c := ⟨_, rfl⟩
      have hor := byte_or x c hc
      have hc256 : c < 256 := by omega
      obtain ⟨hP2, hle⟩ := hP.next hx
      rw [hc] at hP2
      have HP2 := Lib.hid hP2; clear hP2 hP hc
      have hws := hbel.size
      go_wp2_with (at_builtin; refine wpList_append_own _ rfl _ _ 52 rfl w.heap.size 5 i0 (.int .u8 0) 1 1 Tryd.underlying52 hi hz0 hz1 hz2 rfl (by decide) _ _ _ rfl (hown.alloc _) ⟨wr.heap.size, 0, none⟩ 1 1 [.int .u8 (c : Int)] rfl rfl ?c1 ?c2 ?c3 ?c4 ?c5 ?_)
      case c1 =>
        intro j u hj
        match j, hj with
        | 0, hj => simp at hj; subst hj; simp [Addr.add]
      case c2 => intro u hu; simp at hu; subst hu; rfl
      case c3 => unfold maxLen; omega
      case c4 => omega
      case c5 => simp; omega
      · intro v' w1 hown' hgrow _
        have hb1 : Below w.heap.size w w1 := (hbel.alloc hws (.cells #[.int .u8 (c : Int)] 5)).grown hgrow (by simp; omega) (fun j e => (hown.lt j e).1)
        rw [bcells_snoc l c hc256] at hown'
        have HO := Lib.hid hown'
        have HB := Lib.hid hb1
        clear hown' hgrow hb1 hor hown hbel hws
        go_wp2_with fail
        go_roundw
        case rel => exact ⟨l ++ [UInt8.ofNat c], x / 128, by go_num, HP2.out, by simpa using HO.out, HB.out⟩
        case measure => simp [intOf]; omega
    · have hx' : ¬ (128 : Int) ≤ (x : Int) := by omega
      have hd := hP.done (by omega)
      have hmod : (x : Int) % 256 = (x : Int) := by omega
      have hx256 : x < 256 := by omega
      have hle := hP.le
      have HD := Lib.hid hd; clear hd hP
      have hws := hbel.size
      go_wp2_with (at_builtin; refine wpList_append_own _ rfl _ _ 52 rfl w.heap.size 5 i0 (.int .u8 0) 1 1 Tryd.underlying52 hi hz0 hz1 hz2 rfl (by decide) _ _ _ rfl (hown.alloc _) ⟨wr.heap.size, 0, none⟩ 1 1 [.int .u8 (x : Int)] rfl rfl ?d1 ?d2 ?d3 ?d4 ?d5 ?_)
      case d2 => rfl
      case d3 => unfold maxLen; omega
      case d4 => omega
      case d5 => first | omega | (simp; omega)
      · intro v' w1 hown' hgrow _
        have hb1 : Below w.heap.size w w1 := (hbel.alloc hws (.cells #[.int .u8 (x : Int)] 5)).grown hgrow (by simp; omega) (fun j e => (hown.lt j e).1)
        rw [bcells_snoc l x hx256] at hown'
        have kc := own_string (l := l ++ [UInt8.ofNat x]) (by simpa using hown') (by simp)
        have HB := Lib.hid hb1
        clear hown' hgrow hb1 hown hbel hws
        go_wp2_with fail
        go_ret
        exact ⟨ret_str (by rw [HD.out]), HB.out⟩

/-- a text as bytes -/
def Wi.putText (t : ByteArray) : ByteArray := ⟨(Wi.put t.size).toArray⟩ ++ t

theorem PutText_any (t : ByteArray) (w : World) (ht : t.size ≤ 9007199254740992) :
    Calls Tryd.prog 45 #[.string t] w fun e w' => e = .returned (.string (Wi.putText t)) ∧ Below w.heap.size w w' := by
  have hp := (Wi.put_len t.size).2
  have HP := Lib.hid (fun w => Put_any t.size w (by omega))
  have HT := Lib.hid (show Wi.putText t = ⟨(Wi.put t.size).toArray⟩ ++ t from rfl)
  obtain ⟨q, hq⟩ : ∃ q, (⟨(Wi.put t.size).toArray⟩ : ByteArray) = q := ⟨_, rfl⟩
  have hqs : q.size ≤ 10 := by rw [← hq]; show (Wi.put t.size).toArray.size ≤ 10; simpa using hp
  rw [hq] at HP HT
  clear hq hp
  go_enter Tryd.func45, Tryd.ntmps45
  go_wp2_with fail
  refine (HP.out _).mono ?_
  rintro e w1 ⟨rfl, hb⟩
  go_wp2_with fail
  go_ret
  exact ⟨ret_str (by rw [HT.out]), hb⟩

end Go.Proofs.YtalncnblcfcmcaaDoor
