/- The walks of disk.deed, and of what it is given to do. -/
import Derived.Test.YtpghhobbppkggaaDkCrash
import Derived.Test.YtpghhobbppkggaaRow
import Derived.Laws.Closers25b
import Derived.Lib.Strings
namespace Go.Proofs.Ytpghhobbppkggaa
open Go.RowKit

theorem doWrite_any (h x s : ByteArray) (b : Nat) (w : World) (hb : w.cell? ⟨b, 0, none⟩ = some (.string s)) (hz : x.size + s.size ≤ 9007199254740992) :
    Calls Try.prog 31 #[.agg #[.string h, .string x], .pointer (some ⟨b, 0, none⟩)] w fun e w' => e = .returned (.agg #[.string h, .string (x ++ s)]) ∧ Below w.heap.size w w' := by
  have hlt := World.block_lt_of_cell? w _ hb
  go_enter Try.func31, Try.ntmps31
  go_wp2_with fail
  go_returns
  exact ⟨rfl, by go_grown⟩

theorem extract_all (s : ByteArray) (k : Nat) (h : s.size ≤ k) : s.extract 0 k = s := by
  apply ByteArray.ext
  apply Array.toList_inj.1
  rw [Lib.extract_data, List.drop_zero, List.take_of_length_le (by simpa using h)]
theorem extract_none (s : ByteArray) : s.extract 0 0 = ⟨#[]⟩ := by
  apply ByteArray.ext
  apply Array.toList_inj.1
  simp

/-- what Sync makes of a file -/
theorem doSync_any (h x : ByteArray) (w : World) (hz : h.size + x.size ≤ 9007199254740992) :
    Calls Try.prog 34 #[.agg #[.string h, .string x]] w fun e w' => e = .returned (.agg #[.string (h ++ x), .string ⟨#[]⟩]) ∧ Below w.heap.size w w' := by
  have hf0 := fun w => fileAll_any h x w (by unfold maxLen; omega)
  obtain ⟨R, hRR⟩ : ∃ R, h ++ x = R := ⟨_, rfl⟩
  rw [hRR] at hf0 ⊢
  have hf := Lib.hid hf0; clear hf0
  have HRR := Lib.hid hRR; clear hRR
  go_enter Try.func34, Try.ntmps34
  have hcase : h = ⟨#[]⟩ ∧ x = ⟨#[]⟩ ∨ h = ⟨#[]⟩ ∧ ¬ x.toList = [] ∨ ¬ h.toList = [] := by
    by_cases h1 : h.toList = []
    · by_cases h2 : x.toList = []
      · exact .inl ⟨(toList_nil_iff_emptyBytes _).1 h1, (toList_nil_iff_emptyBytes _).1 h2⟩
      · exact .inr (.inl ⟨(toList_nil_iff_emptyBytes _).1 h1, h2⟩)
    · exact .inr (.inr h1)
  rcases hcase with ⟨rfl, rfl⟩ | hcase
  · clear hf hz
    go_wp2_with fail
    go_returns
    exact ⟨by rw [← HRR.out]; rfl, by go_grown⟩
  · rcases hcase with ⟨rfl, hx⟩ | hh
    all_goals
      go_wp2_with fail
      refine (hf.out _).mono ?_
      rintro e w1 ⟨rfl, hb1⟩
      have hR : Row w1 (w.heap.size + 1) [.string ⟨#[]⟩, .string ⟨#[]⟩] := by
        have := (Row.new (w.alloc (.cells #[.string _, .string x] 23)) [.string ⟨#[]⟩, .string ⟨#[]⟩] 23).below hb1 (by simp)
        simpa using this
      obtain ⟨c0, c1, f0, f1⟩ := hR.two
      have hs := hb1.size
      simp at hs
      have HB := Lib.hid hb1; clear hb1
      have HR := Lib.hid hR; clear hR
      go_wp2_with fail
      obtain ⟨c0', c1', _, _⟩ := ((HR.out.set 0 (.string R) (by simp)).set 1 (.string ⟨#[]⟩) (by simp)).two
      have hB : Below w.heap.size w ((w1.setCell ⟨w.heap.size + 1, 0, none⟩ (.string R)).setCell ⟨w.heap.size + 1, 1, none⟩ (.string ⟨#[]⟩)) := by
        refine Below.setCell (p := ⟨w.heap.size + 1, 1, none⟩) ?_ (by simp) (.string ⟨#[]⟩)
        refine Below.setCell (p := ⟨w.heap.size + 1, 0, none⟩) ?_ (by simp) (.string R)
        refine Below.trans ?_ (HB.out.mono (by simp; omega))
        go_grown
      generalize World.setCell (World.setCell _ _ _) _ _ = w2 at c0' c1' hB ⊢
      refine bodyPost_ret (by simp [results, Try.results34, go_sem, c0', c1']; try rfl) rfl ?_
      exact ⟨rfl, hB⟩

theorem doCut_any (h x : ByteArray) (n : Int) (b : Nat) (w : World) (hb : w.cell? ⟨b, 0, none⟩ = some (.int .i64 n)) (wn : n < 9223372036854775808) :
    Calls Try.prog 36 #[.agg #[.string h, .string x], .pointer (some ⟨b, 0, none⟩)] w fun e w' => e = .returned (.agg #[.string (h.extract 0 n.toNat), .string (x.extract 0 (n.toNat - h.size))]) ∧ Below w.heap.size w w' := by
  have hlt := World.block_lt_of_cell? w _ hb
  go_enter Try.func36, Try.ntmps36
  by_cases hn : n < 0
  · have h1 : ¬ ((h.size : Int) < 0) := by omega
    have h2 : ¬ ((x.size : Int) < 0) := by omega
    have HA := Lib.hid (show h.extract 0 n.toNat = ⟨#[]⟩ by rw [Int.toNat_of_nonpos (by omega)]; exact extract_none _)
    have HB := Lib.hid (show x.extract 0 (n.toNat - h.size) = ⟨#[]⟩ by rw [Int.toNat_of_nonpos (by omega), Nat.zero_sub]; exact extract_none _)
    go_upto_region 3 with fail
    go_region
    go_wp2_with fail
    go_returns
    exact ⟨by rw [HA.out, HB.out]; rfl, by go_grown⟩
  obtain ⟨m, rfl⟩ := Int.eq_ofNat_of_zero_le (show 0 ≤ n by omega)
  rw [Int.toNat_natCast]
  by_cases hm : (h.size : Int) < (m : Int)
  · obtain ⟨q, hq⟩ : ∃ q, m = h.size + q := ⟨m - h.size, by omega⟩
    subst hq
    have HA := Lib.hid (show h.extract 0 (h.size + q) = h from extract_all _ _ (by omega))
    have he : h.size + q - h.size = q := by omega
    rw [he]
    have he2 : ((h.size : Int) + (q : Int) - (h.size : Int)) = (q : Int) := by omega
    have hq0 : (0 : Int) ≤ (q : Int) := by omega
    have hwr : IntKind.i64.wrap (q : Int) = (q : Int) := by rw [IntKind.wrap_i64]; omega
    by_cases hx : (x.size : Int) < (q : Int)
    · have HB := Lib.hid (show x.extract 0 q = x from extract_all _ _ (by omega))
      go_upto_region 3 with fail
      go_region
      go_wp2_with fail
      go_returns
      exact ⟨by rw [HA.out, HB.out], by go_grown⟩
    · go_upto_region 3 with fail
      go_region
      go_wp2_with fail
      go_returns
      exact ⟨by rw [HA.out], by go_grown⟩
  · have h2 : ¬ ((x.size : Int) < 0) := by omega
    have hm' : (m : Int) ≤ (h.size : Int) := by omega
    have hm0 : (0 : Int) ≤ (m : Int) := by omega
    have HB := Lib.hid (show x.extract 0 (m - h.size) = ⟨#[]⟩ by rw [Nat.sub_eq_zero_of_le (by omega)]; exact extract_none _)
    go_upto_region 3 with fail
    go_region
    go_wp2_with fail
    go_returns
    exact ⟨by rw [HB.out]; rfl, by go_grown⟩

end Go.Proofs.Ytpghhobbppkggaa
