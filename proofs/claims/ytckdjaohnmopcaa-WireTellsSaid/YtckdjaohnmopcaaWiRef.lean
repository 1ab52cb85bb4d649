/- The walks of the document's own Put, PutText, Add, Sub, Mul: each gives what the code gives. -/
import Derived.Test.YtckdjaohnmopcaaWiProd
import Derived.Deep.Cut
namespace Go.Proofs.Ytckdjaohnmopcaa
open Go.RowKit

theorem conv1 (w : World) (c : Nat) : (convert 37 9 (.slice (some ⟨w.heap.size, 0, none⟩) 1 1)).run Try.prog (w.alloc (.cells #[.int .u8 (c : Int)] 5)) = .ok (.string ⟨#[UInt8.ofNat c]⟩) (w.alloc (.cells #[.int .u8 (c : Int)] 5)) := by
  have h := run_convert_bytes_arg (P := Try.prog) (w.alloc (.cells #[.int .u8 (c : Int)] 5)) 37 5 Try.underlying37 Try.underlying5 w.heap.size 0 1 1 [(c : Int)] rfl (fun i hi => by
    rw [World.cell?_alloc_mark]
    match i, hi with
    | 0, _ => rfl) 9 Try.underlying9
  exact h

theorem bytes_snoc (l : List UInt8) (b : UInt8) : ((⟨l.toArray⟩ : ByteArray) ++ (⟨#[b]⟩ : ByteArray)) = ⟨(l ++ [b]).toArray⟩ := by
  apply ByteArray.ext
  apply Array.toList_inj.1
  simp

set_option maxHeartbeats 1000000 in
theorem rPut_any (u : Nat) (w : World) (hu : u < 18446744073709551616) :
    Calls Try.prog 18 #[.int .u64 (u : Int)] w fun e w' => e = .returned (.string ⟨(Wi.put u).toArray⟩) ∧ Below w.heap.size w w' := by
  have HP0 := Lib.hid (Puts.start hu)
  clear hu
  go_enter Try.func18, Try.ntmps18
  go_wp2_with fail
  go_loopw [0, 3] (fun s0 v wr => ∃ (l : List UInt8) (x : Nat), s0 = .int .u64 (x : Int) ∧ Puts u l x ∧ v = .string ⟨l.toArray⟩ ∧ Below w.heap.size w wr) (fun s0 _ _ => (intOf s0).toNat)
  case atStart => exact ⟨[], u, rfl, HP0.out, rfl, Below.refl _ _⟩
  case round =>
    clear HP0
    obtain ⟨l, x, rfl, hP, rfl, hbel⟩ := hrel
    have hls : (⟨l.toArray⟩ : ByteArray).size ≤ 9 := by show l.toArray.size ≤ 9; simpa using hP.le
    have hws := hbel.size
    by_cases hx : 128 ≤ x
    · have hx' : (128 : Int) ≤ (x : Int) := by omega
      have hwx : IntKind.u64.wrap ((x : Int) / 128) = (x : Int) / 128 := by have := hP.x64; rw [IntKind.wrap_u64]; omega
      obtain ⟨c, hc⟩ : ∃ c, x % 128 + 128 = c := ⟨_, rfl⟩
      have hor := byte_or x c hc
      have hor2 : bits .or .u8 ((x : Int) % 128) 128 = (c : Int) := by
        have := byte_or (x % 128) c (by omega)
        rwa [show ((x % 128 : Nat) : Int) % 256 = (x : Int) % 128 by omega] at this
      obtain ⟨hP2, _⟩ := hP.next hx
      rw [hc] at hP2
      have HP2 := Lib.hid hP2; clear hP2 hP hc
      have kc := conv1 wr c
      have HBS := Lib.hid (bytes_snoc l (UInt8.ofNat c))
      generalize (⟨l.toArray⟩ : ByteArray) = q at hls HBS ⊢
      have HB := Lib.hid (hbel.alloc hws (.cells #[.int .u8 (c : Int)] 5))
      go_wp2_with fail
      go_roundw
      case rel => exact ⟨l ++ [UInt8.ofNat c], x / 128, by go_num, HP2.out, by rw [← HBS.out], HB.out⟩
      case measure => simp [intOf]; omega
    · have hx' : ¬ (128 : Int) ≤ (x : Int) := by omega
      have hmod : (x : Int) % 256 = (x : Int) := by omega
      have hd := hP.done (by omega)
      have HD := Lib.hid hd; clear hd hP
      have kc := conv1 wr x
      have HBS := Lib.hid (bytes_snoc l (UInt8.ofNat x))
      generalize (⟨l.toArray⟩ : ByteArray) = q at hls HBS ⊢
      have HB := Lib.hid (hbel.alloc hws (.cells #[.int .u8 (x : Int)] 5))
      go_wp2_with fail
      go_ret
      exact ⟨ret_str (by rw [HD.out, ← HBS.out]), HB.out⟩

theorem rPutText_any (t : ByteArray) (w : World) (ht : t.size ≤ 9007199254740992) :
    Calls Try.prog 20 #[.string t] w fun e w' => e = .returned (.string (Wi.putText t)) ∧ Below w.heap.size w w' := by
  have hp := (Wi.put_len t.size).2
  have HP := Lib.hid (fun w => rPut_any t.size w (by omega))
  have HT := Lib.hid (show Wi.putText t = ⟨(Wi.put t.size).toArray⟩ ++ t from rfl)
  obtain ⟨q, hq⟩ : ∃ q, (⟨(Wi.put t.size).toArray⟩ : ByteArray) = q := ⟨_, rfl⟩
  have hqs : q.size ≤ 10 := by rw [← hq]; show (Wi.put t.size).toArray.size ≤ 10; simpa using hp
  rw [hq] at HP HT
  clear hq hp
  go_enter Try.func20, Try.ntmps20
  go_wp2_with fail
  refine (HP.out _).mono ?_
  rintro e w1 ⟨rfl, hb⟩
  go_wp2_with fail
  go_ret
  exact ⟨ret_str (by rw [HT.out]), hb⟩

theorem rAdd_any (a b : Nat) (w : World) (ha : a < 18446744073709551616) (hb : b < 18446744073709551616) :
    Calls Try.prog 21 #[.int .u64 (a : Int), .int .u64 (b : Int)] w fun e w' => e = .returned (Wi.two (Wi.add a b)) ∧ w = w' := by
  obtain ⟨c, hc⟩ : ∃ c, 18446744073709551615 - b = c := ⟨_, rfl⟩
  have hw1 : IntKind.u64.wrap (18446744073709551615 - (b : Int)) = (c : Int) := by rw [IntKind.wrap_u64]; omega
  by_cases h : a + b < 18446744073709551616
  · have hr := Lib.hid (show Wi.add a b = (a + b, true) from if_pos h)
    have hw2 : IntKind.u64.wrap ((a : Int) + (b : Int)) = ((a + b : Nat) : Int) := by rw [IntKind.wrap_u64]; omega
    have hcm : ¬ ((c : Int) < (a : Int)) := by omega
    generalize a + b = d at hw2 hr
    clear h ha hb hc
    go_enter Try.func21, Try.ntmps21
    go_wp2_with fail
    go_ret2
    exact ⟨by rw [hr.out]; rfl, rfl⟩
  · have hr := Lib.hid (show Wi.add a b = (0, false) from if_neg h)
    have hcm : (c : Int) < (a : Int) := by omega
    clear h ha hb hc
    go_enter Try.func21, Try.ntmps21
    go_wp2_with fail
    go_ret2
    exact ⟨by rw [hr.out]; rfl, rfl⟩

theorem rSub_any (a b : Nat) (w : World) (ha : a < 18446744073709551616) (hb : b < 18446744073709551616) :
    Calls Try.prog 22 #[.int .u64 (a : Int), .int .u64 (b : Int)] w fun e w' => e = .returned (Wi.two (Wi.sub a b)) ∧ w = w' := by
  by_cases h : b ≤ a
  · have hr := Lib.hid (show Wi.sub a b = (a - b, true) from if_pos h)
    have hw2 : IntKind.u64.wrap ((a : Int) - (b : Int)) = ((a - b : Nat) : Int) := by rw [IntKind.wrap_u64]; omega
    have hcm : ¬ ((a : Int) < (b : Int)) := by omega
    generalize a - b = d at hw2 hr
    clear h ha hb
    go_enter Try.func22, Try.ntmps22
    go_wp2_with fail
    go_ret2
    exact ⟨by rw [hr.out]; rfl, rfl⟩
  · have hr := Lib.hid (show Wi.sub a b = (0, false) from if_neg h)
    have hcm : (a : Int) < (b : Int) := by omega
    clear h ha hb
    go_enter Try.func22, Try.ntmps22
    go_wp2_with fail
    go_ret2
    exact ⟨by rw [hr.out]; rfl, rfl⟩

theorem mul_fits {a b : Nat} (hb : 0 < b) : a * b < 18446744073709551616 ↔ a ≤ 18446744073709551615 / b := by
  rw [Nat.le_div_iff_mul_le hb]; omega

theorem rMul_any (a b : Nat) (w : World) (_ha : a < 18446744073709551616) (hb : b < 18446744073709551616) :
    Calls Try.prog 23 #[.int .u64 (a : Int), .int .u64 (b : Int)] w fun e w' => e = .returned (Wi.two (Wi.mul a b)) ∧ w = w' := by
  by_cases hb0 : b = 0
  · subst hb0
    have hr := Lib.hid (show Wi.mul a 0 = (0, true) from by rw [mul_yes (by omega)]; simp)
    have hw2 : IntKind.u64.wrap 0 = 0 := by decide
    clear hb
    go_enter Try.func23, Try.ntmps23
    go_wp2_with fail
    go_ret2
    exact ⟨by rw [hr.out]; rfl, rfl⟩
  · have hbz : ¬ ((b : Int) = 0) := by omega
    have hbn : ((b : Int) != 0) = true := by simpa using hbz
    obtain ⟨c, hc⟩ : ∃ c, 18446744073709551615 / b = c := ⟨_, rfl⟩
    have hcl : c ≤ 18446744073709551615 := by rw [← hc]; exact Nat.div_le_self _ _
    have hdv : (18446744073709551615 : Int) / (b : Int) = (c : Int) := by rw [← hc]; exact (Int.natCast_ediv 18446744073709551615 b).symm
    have hdt : (18446744073709551615 : Int).tdiv (b : Int) = (c : Int) := by rw [Int.tdiv_eq_ediv_of_nonneg (by decide)]; exact hdv
    have hwc : IntKind.u64.wrap (c : Int) = (c : Int) := by rw [IntKind.wrap_u64]; omega
    have hb0' : (0 : Int) < (b : Int) := by omega
    have hmf := mul_fits (a := a) (show 0 < b by omega)
    rw [hc] at hmf
    have hwr := wrap_mul a b
    by_cases h : a * b < 18446744073709551616
    · have hr := Lib.hid (mul_yes h)
      rw [Nat.mod_eq_of_lt h] at hwr
      have hle : a ≤ c := hmf.1 h
      have hcm : ¬ ((c : Int) < (a : Int)) := by omega
      have hcmb : decide ((c : Int) < (a : Int)) = false := decide_eq_false hcm
      have hcmn : decide (c < a) = false := decide_eq_false (by omega)
      generalize a * b = d at hwr hr
      clear h hb hc hcl hle hmf hb0
      go_enter Try.func23, Try.ntmps23
      go_wp2_with fail
      go_ret2
      exact ⟨by rw [hr.out]; rfl, rfl⟩
    · have hr := Lib.hid (mul_no h)
      have hgt : c < a := by
        rcases Nat.lt_or_ge c a with h1 | h1
        · exact h1
        · exact absurd (hmf.2 h1) h
      have hcm : (c : Int) < (a : Int) := by omega
      have hcmb : decide ((c : Int) < (a : Int)) = true := decide_eq_true hcm
      have hcmn : decide (c < a) = true := decide_eq_true hgt
      clear h hb hc hcl hgt hmf hb0 hwr
      go_enter Try.func23, Try.ntmps23
      go_wp2_with fail
      go_ret2
      exact ⟨by rw [hr.out]; rfl, rfl⟩

end Go.Proofs.Ytckdjaohnmopcaa
