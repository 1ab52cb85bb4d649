/- The walks of the document's own put, New, known, Allows. -/
import Derived.Test.YtalncnblcfcmcaaDoorMcRefA
import Derived.Test.YtalncnblcfcmcaaDoorMcBox
import Derived.Test.YtalncnblcfcmcaaDoorWiRefGet
namespace Go.Proofs.YtalncnblcfcmcaaDoor
open Go.RowKit

set_option maxHeartbeats 4000000 in
theorem rput_any (c : Cav) (w : World) (hn : c.n < 18446744073709551616) :
    Calls Tryd.prog 35 #[c.val] w fun e w' => e = .returned (.string (Mc.putc c)) ∧ Below w.heap.size w w' := by
  have H1 := Lib.hid (fun w => rPut_any (Mc.u64 c.k) w (Mc.u64_lt c.k))
  have H2 := Lib.hid (fun w => rPut_any c.n w hn)
  have h1 := (Wi.put_len (Mc.u64 c.k)).2
  have h2 := (Wi.put_len c.n).2
  have hw : IntKind.u64.wrap c.k = (Mc.u64 c.k : Int) := by rw [IntKind.wrap_u64]; unfold Mc.u64; omega
  obtain ⟨p, hp⟩ : ∃ q : ByteArray, ⟨(Wi.put (Mc.u64 c.k)).toArray⟩ = q := ⟨_, rfl⟩
  obtain ⟨q, hq⟩ : ∃ q : ByteArray, ⟨(Wi.put c.n).toArray⟩ = q := ⟨_, rfl⟩
  have sp : p.size ≤ 10 := by rw [← hp]; show (Wi.put (Mc.u64 c.k)).toArray.size ≤ 10; simpa using h1
  have sq : q.size ≤ 10 := by rw [← hq]; show (Wi.put c.n).toArray.size ≤ 10; simpa using h2
  have hc : ¬ (9223372036854775807 < p.size + q.size) := by omega
  rw [hp] at H1
  rw [hq] at H2
  have HE := Lib.hid (show Mc.putc c = p ++ q from by unfold Mc.putc; rw [hp, hq])
  generalize Mc.putc c = z at HE ⊢
  generalize Mc.u64 c.k = kk at hw H1 h1
  obtain ⟨k, n⟩ := c
  unfold Cav.val Cav.cells
  simp only at hw H2
  clear hp hq h1 h2
  go_enter Tryd.func35, Tryd.ntmps35
  go_upto_region 1 with fail
  have c0 : (w.alloc (.cells #[.int .i64 k, .int .u64 (n : Int)] 41)).cell? ⟨w.heap.size, 0, none⟩ = some (.int .i64 k) := by rw [World.cell?_alloc_mark]; rfl
  have c1 : (w.alloc (.cells #[.int .i64 k, .int .u64 (n : Int)] 41)).cell? ⟨w.heap.size, 1, none⟩ = some (.int .u64 (n : Int)) := by rw [World.cell?_alloc_mark]; rfl
  have hb0 : Below w.heap.size w (w.alloc (.cells #[.int .i64 k, .int .u64 (n : Int)] 41)).drew := ((Below.refl _ _).alloc (Nat.le_refl _) _).drew
  have hlt : w.heap.size < (w.alloc (.cells #[.int .i64 k, .int .u64 (n : Int)] 41)).heap.size := by simp
  have hK : Cs2 w (w.alloc (.cells #[.int .i64 k, .int .u64 (n : Int)] 41)).drew k n := ⟨c0, c1, hlt, hb0⟩
  clear c0 c1 hb0 hlt
  generalize w.alloc (.cells #[.int .i64 k, .int .u64 (n : Int)] 41) = x at hK ⊢
  have HK := Lib.hid hK
  clear hK
  go_region_held3 (fun y => y.cell? ⟨w.heap.size, 0, none⟩ = some (.int .i64 k) ∧ y.cell? ⟨w.heap.size, 1, none⟩ = some (.int .u64 (n : Int))) (exact ⟨HK.out.c0, HK.out.c1⟩)
    ((first
      | (go_at_call 50; ((with_reducible refine (H1.out _).mono ?_); rintro e u ⟨rfl, hbu⟩; have HKn := Lib.hid (HK.out.below hbu); clear HK hbu; have HK := HKn; clear HKn))
      | (go_at_call 50; ((with_reducible refine (H2.out _).mono ?_); rintro e u ⟨rfl, hbu⟩; have HKn := Lib.hid (HK.out.below hbu); clear HK hbu; have HK := HKn; clear HKn))))
  all_goals (go_wp2_with fail; go_ret; exact ⟨ret_str HE.out.symm, HK.out.b⟩)

set_option maxHeartbeats 4000000 in
theorem rNew_any (hS : SumC) (key t : ByteArray) (w : World) (hk : key.size ≤ 281474976710656) (ht : t.size ≤ 281474976710000) :
    Calls Tryd.prog 20 #[.string key, .string t] w fun e w' => e = .returned (tokv t (.slice none 0 0) (Mc.signB key t)) ∧ Below w.heap.size w w' := by
  have HS := Lib.hid (fun y => rSign_any hS key t y hk ht)
  unfold tokv
  generalize Mc.signB key t = sg at HS ⊢
  go_enter Tryd.func20, Tryd.ntmps20
  go_upto_region 1 with fail
  have hr : Row (w.alloc (.cells #[.string ⟨#[]⟩, .slice none 0 0, .string ⟨#[]⟩] 31)) w.heap.size [.string ⟨#[]⟩, .slice none 0 0, .string ⟨#[]⟩] := Row.at rfl (by simp)
  have hb : Below w.heap.size w (w.alloc (.cells #[.string ⟨#[]⟩, .slice none 0 0, .string ⟨#[]⟩] 31)) := (Below.refl _ _).alloc (Nat.le_refl _) _
  have hlt : w.heap.size < (w.alloc (.cells #[.string ⟨#[]⟩, .slice none 0 0, .string ⟨#[]⟩] 31)).heap.size := by simp
  generalize w.alloc (.cells #[.string ⟨#[]⟩, .slice none 0 0, .string ⟨#[]⟩] 31) = x at hr hb hlt ⊢
  go_wp2_with (go_at_call 19; (with_reducible refine (HS.out _).mono ?_); rintro e z ⟨rfl, hbz⟩; have hr2 := hr.below hbz hlt; obtain ⟨c0, c1, c2, f0, f1, f2⟩ := Row.three hr2)
  have hb2 := hb.trans (hbz.mono hb.size)
  have hr3 := ((hr2.set 0 (.string t) (by simp)).set 1 (.slice none 0 0) (by simp)).set 2 (.string sg) (by simp)
  have hb3 := ((hb2.setCell (p := ⟨w.heap.size, 0, none⟩) (Nat.le_refl _) (.string t)).setCell (p := ⟨w.heap.size, 1, none⟩) (Nat.le_refl _) (.slice none 0 0)).setCell (p := ⟨w.heap.size, 2, none⟩) (Nat.le_refl _) (.string sg)
  obtain ⟨o0, o1, o2, _⟩ := Row.three hr3
  generalize World.setCell _ _ _ = wz at hb3 o0 o1 o2 ⊢
  refine bodyPost_ret (by simp [results, Tryd.results20, go_sem, o0, o1, o2]; try rfl) rfl ?_
  exact ⟨rfl, hb3⟩

set_option maxHeartbeats 4000000 in
theorem rknown_any (v : Value) (l : List Cav) (w : World) (hv : CavsAt w v l) (hbig : l.length ≤ 9223372036854775807) :
    Calls Tryd.prog 41 #[v] w fun e w' => e = .returned (.bool (Mc.fits l)) ∧ w = w' := by
  obtain ⟨a, cap, rfl⟩ := hv.form
  have hbi : (l.length : Int) ≤ 9223372036854775807 := by omega
  have HV := Lib.hid hv
  have HF := Lib.hid (show Mc.fits l = (decide (l.length ≤ 8) && !(l.any fun c => !Mc.known c)) from rfl)
  generalize Mc.fits l = q at HF ⊢
  clear hv
  go_enter Tryd.func41, Tryd.ntmps41
  go_wp2_with fail
  go_loopw [3] (fun s3 wr => ∃ i : Nat, i ≤ l.length ∧ s3 = .int .i64 (i : Int) ∧ ((l.take i).any fun c => !Mc.known c) = false ∧ wr = w) (fun s3 _ => l.length - (intOf s3).toNat)
  case atStart => exact ⟨0, by omega, rfl, rfl, rfl⟩
  case round =>
    obtain ⟨i, hi, rfl, hno, rfl⟩ := hrel
    have hi0 : (0 : Int) ≤ (i : Int) := by omega
    by_cases hlt : i < l.length
    · have hlt' : (i : Int) < (l.length : Int) := by omega
      obtain ⟨b, off, cp, hfu, q0, q1⟩ := (HV.out.get).2 i hlt
      cases hfu
      have hmem := List.getElem_mem hlt
      have hsn : ((l.take (i + 1)).any fun c => !Mc.known c) = !Mc.known l[i] := by rw [List.take_add_one, List.getElem?_eq_getElem hlt, List.any_append, hno]; simp
      have hbad : Mc.known l[i] = false → q = false := fun h => by
        rw [HF.out]
        have : (l.any fun c => !Mc.known c) = true := List.any_eq_true.2 ⟨l[i], hmem, by rw [h]; rfl⟩
        rw [this]; simp
      have HH := Lib.hid (⟨hsn, hbad⟩ : _ ∧ _)
      generalize l[i] = c at q0 q1 HH
      obtain ⟨ck, cn⟩ := c
      simp only at q0 q1
      clear hno hsn hbad hmem
      by_cases h1 : ck = 1
      · subst h1
        go_wp2_with fail
        refine ⟨⟨i + 1, by omega, by go_num, by rw [HH.out.1]; rfl, trivial⟩, by simp only [intOf]; omega⟩
      · by_cases h2 : ck = 2
        · subst h2
          go_wp2_with fail
          refine ⟨⟨i + 1, by omega, by go_num, by rw [HH.out.1]; rfl, trivial⟩, by simp only [intOf]; omega⟩
        · have hq := HH.out.2 (by unfold Mc.known; simp [h1, h2])
          have e1 : (ck != 1) = true := by simp [h1]
          have e2 : (ck != 2) = true := by simp [h2]
          subst hq
          clear HF HH
          go_wp2_with fail
          all_goals first
            | (go_ret; exact ⟨rfl, rfl⟩)
            | (exfalso; rename_i h; simp [h1, h2] at h)
    · obtain rfl : i = l.length := by omega
      have hlt' : ¬ (l.length : Int) < (l.length : Int) := by omega
      rw [List.take_length] at hno
      have hq : q = decide ((l.length : Int) ≤ 8) := by rw [HF.out, hno, Bool.not_false, Bool.and_true, decide_eq_decide]; omega
      clear hno HF
      subst hq
      go_wp2_with fail
      go_ret
      exact ⟨ret_bool (by simp), rfl⟩

theorem Box.newR (x : World) (t : ByteArray) (a : Option Addr) (n cap : Nat) (s : ByteArray) {l : List Cav} (hv : CavsAt x (.slice a n cap) l) : Box (x.alloc (.cells #[.string t, .slice a n cap, .string s] 31)) x.heap.size t (.slice a n cap) s l :=
  ⟨Row.at rfl (by simp), hv.alloc _, by simp⟩

theorem and_all {r n : Nat} (hr : r < 18446744073709551616) (hn : n < 18446744073709551616) : (n &&& r = r) ↔ (r &&& (18446744073709551615 - n) = 0) := by
  have hb : ∀ i, (18446744073709551615 - n).testBit i = (decide (i < 64) && !n.testBit i) := fun i => by
    have := Nat.testBit_two_pow_sub_succ (n := 64) (x := n) (by simpa using hn) i
    rwa [show 2 ^ 64 - (n + 1) = 18446744073709551615 - n by omega] at this
  constructor
  · intro h
    apply Nat.eq_of_testBit_eq
    intro i
    rw [Nat.testBit_and, hb, Nat.zero_testBit]
    have h1 := congrArg (fun z => z.testBit i) h
    simp only [Nat.testBit_and] at h1
    cases e : r.testBit i with
    | false => simp
    | true =>
      rw [e] at h1
      simp at h1
      rw [h1]; simp
  · intro h
    apply Nat.eq_of_testBit_eq
    intro i
    rw [Nat.testBit_and]
    have h1 := congrArg (fun z => z.testBit i) h
    simp only [Nat.testBit_and, Nat.zero_testBit, hb] at h1
    cases e : r.testBit i with
    | false => simp
    | true =>
      have hi : i < 64 := by
        apply Decidable.byContradiction
        intro h2
        have hp : 2 ^ 64 ≤ 2 ^ i := Nat.pow_le_pow_right (by omega) (by omega)
        have h64 : (2 : Nat) ^ 64 = 18446744073709551616 := by decide
        have := Nat.testBit_lt_two_pow (x := r) (i := i) (by omega)
        rw [this] at e; cases e
      rw [e, decide_eq_true hi] at h1
      simp at h1
      rw [h1]; rfl
theorem andNot_and {r n : Nat} (hr : r < 18446744073709551616) (hn : n < 18446744073709551616) : decide (bits .andNot .u64 (r : Int) (n : Int) = 0) = decide (bits .and .u64 (n : Int) (r : Int) = (r : Int)) := by
  rw [u64_andNot_nat r n hr hn, u64_and_nat n r hn hr, decide_eq_decide]
  have := and_all hr hn
  omega

set_option maxRecDepth 100000 in
set_option maxHeartbeats 4000000 in
theorem rAllows_any (t : ByteArray) (v : Value) (l : List Cav) (s : ByteArray) (r rd : Nat) (w : World) (hv : CavsAt w v l) (hbig : l.length ≤ 9223372036854775807) (hok : ∀ c ∈ l, c.n < 18446744073709551616) (hr : r < 18446744073709551616) :
    Calls Tryd.prog 24 #[tokv t v s, .int .u64 (r : Int), .int .u64 (rd : Int)] w fun e w' => e = .returned (.bool (Mc.allows l r rd)) ∧ Below w.heap.size w w' := by
  obtain ⟨a, cap, rfl⟩ := hv.form
  have hbi : (l.length : Int) ≤ 9223372036854775807 := by omega
  have HV := Lib.hid hv
  have HOK := Lib.hid hok
  have HF := Lib.hid (show Mc.allows l r rd = !(l.any (Mc.stop r rd)) from rfl)
  have HR := Lib.hid hr
  generalize Mc.allows l r rd = q at HF ⊢
  unfold tokv
  clear hv hok hr
  go_enter Tryd.func24, Tryd.ntmps24
  go_upto_region 1 with fail
  have HB := Lib.hid (Box.newR w t a l.length cap s HV.out)
  have HW := Lib.hid (show Below w.heap.size w (w.alloc (.cells #[.string t, .slice a l.length cap, .string s] 31)) from (Below.refl _ _).alloc (Nat.le_refl _) _)
  generalize w.alloc (.cells #[.string t, .slice a l.length cap, .string s] 31) = x0 at HB HW ⊢
  obtain ⟨bt, hbt⟩ : ∃ b, w.heap.size = b := ⟨_, rfl⟩
  rw [hbt] at HB ⊢
  have HBT := Lib.hid hbt
  clear hbt
  go_wp2_with fail
  go_loopw [7] (fun s7 wr => ∃ i : Nat, i ≤ l.length ∧ s7 = .int .i64 (i : Int) ∧ (l.take i).any (Mc.stop r rd) = false ∧ Box wr bt t (.slice a l.length cap) s l ∧ Below w.heap.size w wr) (fun s7 _ => l.length - (intOf s7).toNat)
  case atStart => exact ⟨0, by omega, rfl, rfl, HB.out, HW.out⟩
  case round =>
    clear HB HW
    obtain ⟨i, hi, rfl, hno, hB, hW⟩ := hrel
    have hi0 : (0 : Int) ≤ (i : Int) := by omega
    obtain ⟨d0, d1, d2, _⟩ := Row.three hB.r
    by_cases hlt : i < l.length
    · have hlt' : (i : Int) < (l.length : Int) := by omega
      obtain ⟨b, off, cp, hfu, q0, q1⟩ := (hB.cv.get).2 i hlt
      cases hfu
      have hmem := List.getElem_mem hlt
      have hc := HOK.out _ hmem
      have hsn : (l.take (i + 1)).any (Mc.stop r rd) = Mc.stop r rd l[i] := by rw [List.take_add_one, List.getElem?_eq_getElem hlt, List.any_append, hno]; simp
      have hbad : Mc.stop r rd l[i] = true → q = false := fun h => by
        rw [HF.out, List.any_eq_true.2 ⟨l[i], hmem, h⟩]; rfl
      generalize l[i] = c at q0 q1 hsn hbad hc
      obtain ⟨ck, cn⟩ := c
      simp only at q0 q1 hc
      have hst : Mc.stop r rd ⟨ck, cn⟩ = ((ck == 1 && !(decide (bits .and .u64 (cn : Int) (r : Int) = (r : Int)))) || (ck == 2 && decide ((cn : Int) < (rd : Int)))) := by
        rw [← andNot_and HR.out hc]; rfl
      rw [hst] at hsn hbad
      have HH := Lib.hid (⟨hsn, hbad⟩ : _ ∧ _)
      generalize hz : bits .and .u64 (cn : Int) (r : Int) = z at HH
      have hB1 := hB.alloc (.cells #[.int .i64 ck, .int .u64 (cn : Int)] 41)
      have hW1 := hW.alloc hW.size (.cells #[.int .i64 ck, .int .u64 (cn : Int)] 41)
      have e0 : (wr.alloc (.cells #[.int .i64 ck, .int .u64 (cn : Int)] 41)).cell? ⟨wr.heap.size, 0, none⟩ = some (.int .i64 ck) := by rw [World.cell?_alloc_mark]; rfl
      have e1 : (wr.alloc (.cells #[.int .i64 ck, .int .u64 (cn : Int)] 41)).cell? ⟨wr.heap.size, 1, none⟩ = some (.int .u64 (cn : Int)) := by rw [World.cell?_alloc_mark]; rfl
      have HB := Lib.hid hB1
      have HW := Lib.hid hW1
      clear hno hsn hbad hmem hst hB hW hB1 hW1
      go_upto_region 5 with fail
      by_cases h1 : ck = 1
      · subst h1
        by_cases hzr : z = (r : Int)
        · subst hzr
          go_wp2_with fail
          refine ⟨⟨i + 1, by omega, by go_num, by rw [HH.out.1]; simp, HB.out, HW.out⟩, by simp only [intOf]; omega⟩
        · have hzb : (z != (r : Int)) = true := by simp [hzr]
          have hq := HH.out.2 (by simp [hzr])
          subst hq
          clear HH HF
          go_wp2_with fail
          go_ret
          exact ⟨rfl, HW.out⟩
      · have hb1 : (ck == 1) = false := by simp [h1]
        by_cases h2 : ck = 2
        · subst h2
          by_cases h3 : (cn : Int) < (rd : Int)
          · have hd3 : decide ((cn : Int) < (rd : Int)) = true := by simp; omega
            have hq := HH.out.2 (by simp [h3])
            subst hq
            clear HH HF
            go_wp2_with fail
            go_ret
            exact ⟨rfl, HW.out⟩
          · have hd3 : decide ((cn : Int) < (rd : Int)) = false := by simp; omega
            go_wp2_with fail
            refine ⟨⟨i + 1, by omega, by go_num, by rw [HH.out.1]; simp [h3], HB.out, HW.out⟩, by simp only [intOf]; omega⟩
        · have hb2 : (ck == 2) = false := by simp [h2]
          go_wp2_with fail
          refine ⟨⟨i + 1, by omega, by go_num, by rw [HH.out.1]; simp [h1, h2], HB.out, HW.out⟩, by simp only [intOf]; omega⟩
    · obtain rfl : i = l.length := by omega
      have hlt' : ¬ (l.length : Int) < (l.length : Int) := by omega
      rw [List.take_length] at hno
      have HQ := Lib.hid (show q = true from by rw [HF.out, hno]; rfl)
      have HW := Lib.hid hW
      clear hno HF hB hW
      go_wp2_with fail
      go_ret
      exact ⟨ret_bool (by rw [HQ.out]), HW.out⟩

end Go.Proofs.YtalncnblcfcmcaaDoor
