/- The walk of wire.GetText. -/
import Derived.Test.YtalncnblcfcmcaaDoorWiGet
import Derived.Lib.MinMax
namespace Go.Proofs.YtalncnblcfcmcaaDoor
open Go.RowKit

theorem get_true {s : ByteArray} {a : Int} {n : Nat} {f : Int} (h : Wi.get s a = (n, f, true)) :
    ∃ a' : Nat, a = (a' : Int) ∧ f = ((a' + (Wi.put n).length : Nat) : Int) ∧ a' + (Wi.put n).length ≤ s.size ∧ n < 18446744073709551616 ∧ (s.data.toList.drop a').take (Wi.put n).length = Wi.put n := by
  unfold Wi.get at h
  split at h
  · simp at h
  · rename_i h0
    obtain ⟨a', rfl⟩ := Int.eq_ofNat_of_zero_le (show 0 ≤ a by omega)
    rw [Int.toNat_natCast] at h
    split at h
    · simp at h
    · rename_i u c hc
      obtain ⟨e1, e2⟩ := Prod.mk.inj h
      obtain ⟨e2, _⟩ := Prod.mk.inj e2
      subst e1; subst e2
      obtain ⟨h1, h2, h3, h4⟩ := Wi.at0_some hc
      subst h2
      refine ⟨a', rfl, by omega, ?_, h1, h4⟩
      have hl := congrArg List.length h4
      rw [List.length_take, List.length_drop] at hl
      have := (Wi.put_len u).1
      have e : s.data.toList.length = s.size := by simp
      omega
theorem get_false {s : ByteArray} {a : Int} {n : Nat} {f : Int} (h : Wi.get s a = (n, f, false)) : n = 0 ∧ f = 0 := by
  unfold Wi.get at h
  split at h
  · simp at h; omega
  · split at h
    · simp at h; omega
    · simp at h

namespace Wi
/-- the text that stands at a place -/
def getText (s : ByteArray) (a m : Int) : ByteArray × Int × Bool :=
  if (get s a).2.2 = true ∧ 0 ≤ m ∧ ((get s a).1 : Int) ≤ m ∧ ((get s a).1 : Int) ≤ (s.size : Int) - (get s a).2.1
  then (s.extract (get s a).2.1.toNat ((get s a).2.1.toNat + (get s a).1), (get s a).2.1 + ((get s a).1 : Int), true) else (⟨#[]⟩, 0, false)
def tval (r : ByteArray × Int × Bool) : Value := .tuple #[.string r.1, .int .i64 r.2.1, .bool r.2.2]
end Wi

set_option maxHeartbeats 4000000 in
theorem GetText_any (s : ByteArray) (a m : Int) (w : World) (hz : s.size ≤ 9007199254740992) :
    Calls Tryd.prog 30 #[.string s, .int .i64 a, .int .i64 m] w fun e w' => e = .returned (Wi.tval (Wi.getText s a m)) ∧ Below w.heap.size w w' := by
  have HGET := fun w => Get_any s a w hz
  obtain ⟨R, hR⟩ : ∃ R, Wi.getText s a m = R := ⟨_, rfl⟩
  rw [hR]
  unfold Wi.getText at hR
  obtain ⟨r, hr⟩ : ∃ r, Wi.get s a = r := ⟨_, rfl⟩
  rw [hr] at HGET hR
  obtain ⟨n, f, ok⟩ := r
  unfold Wi.val at HGET
  simp only at HGET hR
  have HGET := Lib.hid HGET
  cases ok
  case false =>
    obtain ⟨rfl, rfl⟩ := get_false hr
    have HRR := Lib.hid (show (⟨#[]⟩, 0, false) = R by rw [← hR, if_neg (by simp)])
    clear hR hr
    go_enter Tryd.func30, Tryd.ntmps30
    go_wp2_with fail
    refine (HGET.out _).mono ?_
    rintro e w1 ⟨rfl, hb⟩
    go_wp2_with fail
    go_ret3
    exact ⟨by rw [← HRR.out]; rfl, hb⟩
  case true =>
    obtain ⟨a', rfl, rfl, hfs, hn, -⟩ := get_true hr
    clear hr
    obtain ⟨F, hF⟩ : ∃ F, a' + (Wi.put n).length = F := ⟨_, rfl⟩
    rw [hF] at hfs HGET hR
    clear hF
    by_cases hm : m < 0
    · have HRR := Lib.hid (show (⟨#[]⟩, 0, false) = R by rw [← hR, if_neg (by omega)])
      clear hR hn
      go_enter Tryd.func30, Tryd.ntmps30
      go_wp2_with fail
      refine (HGET.out _).mono ?_
      rintro e w1 ⟨rfl, hb⟩
      go_wp2_with fail
      go_ret3
      exact ⟨by rw [← HRR.out]; rfl, hb⟩
    · obtain ⟨M, rfl⟩ := Int.eq_ofNat_of_zero_le (show 0 ≤ m by omega)
      obtain ⟨K, hK⟩ : ∃ K, min M (s.size - F) = K := ⟨_, rfl⟩
      have hMn : min (M : Int) ((s.size : Int) - (F : Int)) = (K : Int) := by omega
      have hKs : K ≤ 9007199254740992 := by omega
      have hKw : IntKind.u64.wrap (K : Int) = (K : Int) := by rw [IntKind.wrap_u64]; omega
      have hm0 : ¬ ((M : Int) < 0) := by omega
      by_cases hle : n ≤ K
      · have hnw : IntKind.i64.wrap (n : Int) = (n : Int) := by rw [IntKind.wrap_i64]; omega
        have HRR := Lib.hid (show (s.extract F (F + n), ((F + n : Nat) : Int), true) = R by rw [← hR, if_pos ⟨rfl, by omega, by omega, by omega⟩]; simp)
        have h1 : ¬ ((K : Int) < (n : Int)) := by omega
        have h2 : (0 : Int) ≤ (F : Int) := by omega
        have h3 : (F : Int) ≤ ((F + n : Nat) : Int) := by omega
        have h4 : ((F + n : Nat) : Int) ≤ (s.size : Int) := by omega
        have h5 : (F : Int) + (n : Int) = ((F + n : Nat) : Int) := by omega
        have h6 : (n : Int) ≤ 9007199254740992 := by omega
        have h7 : (0 : Int) ≤ (n : Int) := by omega
        have hs0 : (F : Int) ≤ (s.size : Int) := by omega
        generalize F + n = G at HRR h3 h4 h5
        clear hR hn hK hm hle
        go_enter Tryd.func30, Tryd.ntmps30
        go_wp2_with fail
        refine (HGET.out _).mono ?_
        rintro e w1 ⟨rfl, hb⟩
        go_wp2_with fail
        go_ret3
        exact ⟨by rw [← HRR.out]; rfl, hb⟩
      · have HRR := Lib.hid (show (⟨#[]⟩, 0, false) = R by rw [← hR, if_neg (by omega)])
        have h1 : (K : Int) < (n : Int) := by omega
        have hs0 : (F : Int) ≤ (s.size : Int) := by omega
        clear hR hn hK hm hle
        go_enter Tryd.func30, Tryd.ntmps30
        go_wp2_with fail
        refine (HGET.out _).mono ?_
        rintro e w1 ⟨rfl, hb⟩
        go_wp2_with fail
        go_ret3
        exact ⟨by rw [← HRR.out]; rfl, hb⟩

end Go.Proofs.YtalncnblcfcmcaaDoor
