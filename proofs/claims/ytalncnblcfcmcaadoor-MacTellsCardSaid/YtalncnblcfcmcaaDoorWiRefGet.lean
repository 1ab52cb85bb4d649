/- The walks of the document's own Get and GetText. -/
import Derived.Test.YtalncnblcfcmcaaDoorWiRef
import Derived.Test.YtalncnblcfcmcaaDoorWiCanon
import Derived.Test.YtalncnblcfcmcaaDoorWiGetText
namespace Go.Proofs.YtalncnblcfcmcaaDoor
open Go.RowKit

/-- a byte more, where nothing is lost -/
theorem nx_sum {t : List UInt8} {j u x : Nat} (h : Wi.Scan t j u) (hj : j < t.length) (h9 : j ≤ 9) (h1 : j = 9 → x % 128 ≤ 1) :
    Wi.nx u x j = u + 128 ^ j * (x % 128) ∧ u + 128 ^ j * (x % 128) < 18446744073709551616 ∧ x % 128 * 2 ^ (7 * j) = 128 ^ j * (x % 128) := by
  have hl : (t.take j).length = j := by simp; omega
  have hu := Wi.low_lt (t.take j)
  rw [hl, ← h.lo h9] at hu
  have hlt : u + 128 ^ j * (x % 128) < 18446744073709551616 := by
    have hx : x % 128 < 128 := Nat.mod_lt _ (by omega)
    rcases Nat.lt_or_ge j 9 with h8 | h8
    · have hp := Wi.pow_le (show j ≤ 8 by omega)
      have : 128 ^ j * (x % 128) ≤ 72057594037927936 * 127 := Nat.mul_le_mul hp (by omega)
      omega
    · obtain rfl : j = 9 := by omega
      have e : (128 : Nat) ^ 9 = 9223372036854775808 := by decide
      rw [e] at hu ⊢
      have := h1 rfl
      omega
  refine ⟨?_, hlt, ?_⟩
  · rw [Wi.nx_low hu h9, Nat.mod_eq_of_lt hlt]
  · rw [Wi.pow7, Nat.mul_comm]

theorem data_at2 {s : ByteArray} {a j p : Nat} (hp : p < s.size) (hap : a + j = p) : ∃ h : j < (s.data.toList.drop a).length, (s.data.toList.drop a)[j] = s[p] := by
  subst hap
  refine ⟨by simp; omega, ?_⟩
  rw [List.getElem_drop]
  simp
  rfl

set_option maxHeartbeats 8000000 in
theorem rGet_in (s : ByteArray) (a : Nat) (w : World) (hs : a < s.size) (hz : s.size ≤ 9007199254740992) :
    Calls Tryd.prog 34 #[.string s, .int .i64 (a : Int)] w fun e w' => e = .returned (Wi.val (Wi.get s a)) ∧ w = w' := by
  obtain ⟨r, hr⟩ : ∃ r, Wi.get s a = r := ⟨_, rfl⟩
  rw [hr]
  have HR := Lib.hid hr; clear hr
  have ha1 : ¬ ((a : Int) < 0) := by omega
  have ha2 : (a : Int) < (s.size : Int) := by omega
  have ha3 : ¬ ((s.size : Int) ≤ (a : Int)) := by omega
  go_enter Tryd.func34, Tryd.ntmps34
  go_wp2_with fail
  go_loop [7, 8] (fun v7 v8 => ∃ (j U : Nat), a + j ≤ s.size ∧ j ≤ 10 ∧ v8 = .int .i64 (j : Int) ∧ v7 = .int .u64 (U : Int) ∧ Wi.Scan (s.data.toList.drop a) j U) (fun _ v8 => 10 - (intOf v8).toNat)
  case atStart => exact ⟨0, 0, by omega, by omega, rfl, rfl, Wi.Scan.start _⟩
  case round =>
    obtain ⟨j, U, h1, h2, rfl, rfl, hS⟩ := hrel
    have HS := Lib.hid hS; clear hS
    have hlen : (s.data.toList.drop a).length = s.size - a := by simp
    have HL := Lib.hid hlen; clear hlen
    have hj0 : (0 : Int) ≤ (j : Int) := by omega
    by_cases hp : a + j < s.size ∧ j < 10
    · obtain ⟨hp1, hp2⟩ := hp
      obtain ⟨p, hpe⟩ : ∃ p, a + j = p := ⟨_, rfl⟩
      have hap : (a : Int) + (j : Int) = (p : Int) := by omega
      have hp3 : p < s.size := by omega
      have hp1' : (p : Int) < (s.size : Int) := by omega
      have hp2' : (j : Int) < 10 := by omega
      have hp0 : (0 : Int) ≤ (p : Int) := by omega
      obtain ⟨hj, hje⟩ := data_at2 (s := s) (a := a) hp3 hpe
      have hjl : j + 1 ≤ (s.data.toList.drop a).length := hj
      obtain ⟨x, hx⟩ : ∃ x, s[p].toNat = x := ⟨_, rfl⟩
      have hx256 : x < 256 := by have := UInt8.toNat_lt s[p]; omega
      have HN := fun (hb : 128 ≤ (s.data.toList.drop a)[j].toNat) => HS.out.next hj (by omega) hb
      have HD := fun (hb : (s.data.toList.drop a)[j].toNat < 128) => Wi.at0_ref HS.out hj (by omega) hb
      have HX := fun (h1 : j = 9 → x % 128 ≤ 1) => nx_sum (x := x) HS.out hj (by omega) h1
      rw [hje, hx] at HN HD
      obtain ⟨d, hd⟩ : ∃ d, x % 128 = d := ⟨_, rfl⟩
      have hd' : (x : Int) % 128 = (d : Int) := by omega
      have hdw : IntKind.u64.wrap (d : Int) = (d : Int) := by rw [IntKind.wrap_u64]; omega
      by_cases hc1 : j = 9 ∧ 1 < d
      · obtain ⟨rfl, hd1⟩ := hc1
        have hd1' : (1 : Int) < (d : Int) := by omega
        have hnv : Wi.at0 (s.data.toList.drop a) = none := by
          by_cases hb : x < 128
          · rw [HD hb, if_pos (.inl ⟨rfl, by omega⟩)]
          · exact (HN (by omega)).never hjl (.inl rfl)
        have hget := get_never hnv
        rw [HR.out] at hget
        have HG := Lib.hid hget
        clear HN HD HX hd hje hj hjl hget hnv hx256 HS HL
        go_wp2_with fail
        go_ret3
        exact ⟨by rw [HG.out]; rfl, rfl⟩
      · obtain ⟨hn1, hn2, hn3⟩ := HX (fun e => by
          rcases Nat.lt_or_ge 1 d with h | h
          · exact absurd ⟨e, h⟩ hc1
          · omega)
        rw [hn1] at HN
        rw [hd] at hn2 hn3 HN
        obtain ⟨E, hE⟩ : ∃ E, 128 ^ j * d = E := ⟨_, rfl⟩
        rw [hE] at hn2 hn3 HN
        obtain ⟨V, hV⟩ : ∃ V, U + E = V := ⟨_, rfl⟩
        rw [hV] at hn2 HN
        have hsh : IntKind.u64.wrap ((d : Int) * 2 ^ (7 * j)) = (E : Int) := by
          rw [show (d : Int) * 2 ^ (7 * j) = ((d * 2 ^ (7 * j) : Nat) : Int) from by rw [Int.natCast_mul, Int.natCast_pow]; rfl, hn3, IntKind.wrap_u64]; omega
        have hsum : IntKind.u64.wrap ((U : Int) + (E : Int)) = (V : Int) := by rw [IntKind.wrap_u64]; omega
        have hc : (((j : Int) == 9) = false) ∨ (((j : Int) == 9) = true ∧ ¬ (1 : Int) < (d : Int)) := by
          by_cases h9 : j = 9
          · exact .inr ⟨by simpa using (by omega : (j : Int) = 9), by omega⟩
          · exact .inl (by simpa using (by omega : ¬ (j : Int) = 9))
        have HNN := Lib.hid HN; clear HN
        have HDD := Lib.hid HD; clear HD
        have hVE := Lib.hid (show V = U + 128 ^ j * d by rw [hE, hV])
        have HXD := Lib.hid hd
        have HC1 := Lib.hid hc1
        clear HX hn1 hn2 hn3 hE hV hd hje hj hjl hx256 hc1
        rcases hc with h9 | ⟨h9, h9d⟩
        all_goals
          go_upto_region 12 with fail
          by_cases hb : 128 ≤ x
          · have hb1 : (128 : Int) ≤ (x : Int) := by omega
            have hn := HNN.out hb
            clear HDD HNN hVE HXD HC1
            have HS2 := Lib.hid hn; clear hn
            go_wp2_with fail
            go_round
            case rel => exact ⟨j + 1, V, by omega, by omega, by go_num, rfl, HS2.out⟩
            case measure => simp [intOf]; omega
          · have hb1 : ¬ (128 : Int) ≤ (x : Int) := by omega
            have hd0 := HDD.out (by omega)
            have hdx : x % 128 = x := by omega
            rw [hdx] at HXD
            by_cases hz0 : 0 < j ∧ x = 0
            · rw [if_pos (.inr hz0)] at hd0
              have hget := get_never hd0
              rw [HR.out] at hget
              have HG := Lib.hid hget
              obtain ⟨hz1, rfl⟩ := hz0
              have hz2 : (0 : Int) < (j : Int) := by omega
              have hz3 : decide (0 < j) = true := decide_eq_true hz1
              clear hd0 hget HDD HNN HS HL hVE HXD HC1
              go_wp2_with fail
              go_ret3
              exact ⟨by rw [HG.out]; rfl, rfl⟩
            · rw [if_neg (by
                rintro (⟨e1, e2⟩ | e)
                · exact HC1.out ⟨e1, by have := HXD.out; omega⟩
                · exact hz0 e)] at hd0
              have hget := get_found hd0
              rw [HR.out] at hget
              rw [show U + 128 ^ j * x = V by rw [hVE.out, ← HXD.out]] at hget
              have HG := Lib.hid hget
              have hp5 : (p : Int) + 1 = (a : Int) + ((j + 1 : Nat) : Int) := by omega
              have HP5 := Lib.hid hp5; clear hp5
              have hw : (0 : Int) < (j : Int) ∧ ¬ ((x : Int) = 0) ∧ decide (0 < j) = true ∧ ((x : Int) == 0) = false ∧ (x == 0) = false ∨ ¬ ((0 : Int) < (j : Int)) ∧ decide (0 < j) = false := by
                rcases Nat.eq_zero_or_pos j with h | h
                · exact .inr ⟨by omega, decide_eq_false (by omega)⟩
                · have : x ≠ 0 := fun e => hz0 ⟨h, e⟩
                  exact .inl ⟨by omega, by omega, decide_eq_true h, by simpa using (by omega : ¬ (x : Int) = 0), by simpa using this⟩
              clear hd0 hget HDD HNN HS HL hVE HXD HC1 hz0
              rcases hw with ⟨e1, e2, e3, e4, e5⟩ | ⟨e1, e2⟩
              all_goals
                go_wp2_with fail
                go_ret3
                exact ⟨by rw [HG.out, ← HP5.out]; rfl, rfl⟩
    · have hget := get_never (HS.out.never (by rw [HL.out]; omega) (by rw [HL.out]; omega))
      rw [HR.out] at hget
      have HG := Lib.hid hget
      clear HS HL hget
      by_cases hj10 : j < 10
      · have hj1 : (j : Int) < 10 := by omega
        have hj2 : ¬ ((a : Int) + (j : Int) < (s.size : Int)) := by omega
        have haj : (a : Int) + (j : Int) ≤ 9007199254740992 := by omega
        go_wp2_with fail
        go_ret3
        exact ⟨by rw [HG.out]; rfl, rfl⟩
      · have hj1 : ¬ ((j : Int) < 10) := by omega
        go_wp2_with fail
        go_ret3
        exact ⟨by rw [HG.out]; rfl, rfl⟩

theorem rGet_any (s : ByteArray) (a : Int) (w : World) (hz : s.size ≤ 9007199254740992) :
    Calls Tryd.prog 34 #[.string s, .int .i64 a] w fun e w' => e = .returned (Wi.val (Wi.get s a)) ∧ w = w' := by
  by_cases h : a < 0 ∨ (s.size : Int) ≤ a
  · obtain ⟨r, hr⟩ : ∃ r, Wi.get s a = r := ⟨_, rfl⟩
    rw [hr]
    have hz := get_out h
    rw [hr] at hz
    have HR := Lib.hid hz; clear hz hr
    by_cases ha : a < 0
    case' neg =>
      have ha2 : ¬ (a < (s.size : Int)) := by omega
      have ha3 : (s.size : Int) ≤ a := by omega
    all_goals
      clear h
      go_enter Tryd.func34, Tryd.ntmps34
      go_wp2_with fail
      go_ret3
      exact ⟨by rw [HR.out]; rfl, rfl⟩
  · obtain ⟨n, rfl⟩ := Int.eq_ofNat_of_zero_le (show 0 ≤ a by omega)
    exact rGet_in s n w (by omega) hz

set_option maxHeartbeats 4000000 in
theorem rGetText_any (s : ByteArray) (a m : Int) (w : World) (hz : s.size ≤ 9007199254740992) (wm : m < 9223372036854775808) :
    Calls Tryd.prog 33 #[.string s, .int .i64 a, .int .i64 m] w fun e w' => e = .returned (Wi.tval (Wi.getText s a m)) ∧ w = w' := by
  have HGET := fun w => rGet_any s a w hz
  obtain ⟨R, hR⟩ : ∃ R, Wi.getText s a m = R := ⟨_, rfl⟩
  rw [hR]
  unfold Wi.getText at hR
  obtain ⟨r, hr⟩ : ∃ r, Wi.get s a = r := ⟨_, rfl⟩
  rw [hr] at HGET hR
  obtain ⟨n, f, ok⟩ := r
  unfold Wi.val at HGET
  simp only at HGET hR
  have HGET := Lib.hid HGET
  cases ok
  case false =>
    obtain ⟨rfl, rfl⟩ := get_false hr
    have HRR := Lib.hid (show (⟨#[]⟩, 0, false) = R by rw [← hR, if_neg (by simp)])
    clear hR hr wm
    go_enter Tryd.func33, Tryd.ntmps33
    go_wp2_with fail
    refine (HGET.out _).mono ?_
    rintro e w1 ⟨rfl, rfl⟩
    go_wp2_with fail
    go_ret3
    exact ⟨by rw [← HRR.out]; rfl, rfl⟩
  case true =>
    obtain ⟨a', rfl, rfl, hfs, hn, -⟩ := get_true hr
    clear hr
    obtain ⟨F, hF⟩ : ∃ F, a' + (Wi.put n).length = F := ⟨_, rfl⟩
    rw [hF] at hfs HGET hR
    clear hF
    by_cases hm : m < 0
    · have HRR := Lib.hid (show (⟨#[]⟩, 0, false) = R by rw [← hR, if_neg (by omega)])
      clear hR hn wm
      go_enter Tryd.func33, Tryd.ntmps33
      go_wp2_with fail
      refine (HGET.out _).mono ?_
      rintro e w1 ⟨rfl, rfl⟩
      go_wp2_with fail
      go_ret3
      exact ⟨by rw [← HRR.out]; rfl, rfl⟩
    · obtain ⟨M, rfl⟩ := Int.eq_ofNat_of_zero_le (show 0 ≤ m by omega)
      obtain ⟨K, hK⟩ : ∃ K, s.size - F = K := ⟨_, rfl⟩
      have hKe : (s.size : Int) - (F : Int) = (K : Int) := by omega
      have hKs : K ≤ 9007199254740992 := by omega
      have hKw : IntKind.u64.wrap (K : Int) = (K : Int) := by rw [IntKind.wrap_u64]; omega
      have hMw : IntKind.u64.wrap (M : Int) = (M : Int) := by rw [IntKind.wrap_u64]; omega
      have hm0 : ¬ ((M : Int) < 0) := by omega
      by_cases hle : n ≤ M ∧ n ≤ K
      · have hnw : IntKind.i64.wrap (n : Int) = (n : Int) := by rw [IntKind.wrap_i64]; omega
        have HRR := Lib.hid (show (s.extract F (F + n), ((F + n : Nat) : Int), true) = R by rw [← hR, if_pos ⟨rfl, by omega, by omega, by omega⟩]; simp)
        have h1 : ¬ ((K : Int) < (n : Int)) := by omega
        have h1b : ¬ ((M : Int) < (n : Int)) := by omega
        have h2 : (0 : Int) ≤ (F : Int) := by omega
        have h3 : (F : Int) ≤ ((F + n : Nat) : Int) := by omega
        have h4 : ((F + n : Nat) : Int) ≤ (s.size : Int) := by omega
        have h5 : (F : Int) + (n : Int) = ((F + n : Nat) : Int) := by omega
        have h6 : (n : Int) ≤ 9007199254740992 := by omega
        have h7 : (0 : Int) ≤ (n : Int) := by omega
        have hs0 : (F : Int) ≤ (s.size : Int) := by omega
        generalize F + n = G at HRR h3 h4 h5
        clear hR hn hK hm hle wm
        go_enter Tryd.func33, Tryd.ntmps33
        go_wp2_with fail
        refine (HGET.out _).mono ?_
        rintro e w1 ⟨rfl, rfl⟩
        go_wp2_with fail
        go_ret3
        exact ⟨by rw [← HRR.out]; rfl, rfl⟩
      · have HRR := Lib.hid (show (⟨#[]⟩, 0, false) = R by rw [← hR, if_neg (by omega)])
        have hs0 : (F : Int) ≤ (s.size : Int) := by omega
        have hw : (M : Int) < (n : Int) ∨ ¬ ((M : Int) < (n : Int)) ∧ (K : Int) < (n : Int) := by omega
        clear hR hn hK hm hle wm
        rcases hw with h1 | ⟨h1, h2⟩
        all_goals
          go_enter Tryd.func33, Tryd.ntmps33
          go_wp2_with fail
          refine (HGET.out _).mono ?_
          rintro e w1 ⟨rfl, rfl⟩
          go_wp2_with fail
          go_ret3
          exact ⟨by rw [← HRR.out]; rfl, rfl⟩

end Go.Proofs.YtalncnblcfcmcaaDoor
