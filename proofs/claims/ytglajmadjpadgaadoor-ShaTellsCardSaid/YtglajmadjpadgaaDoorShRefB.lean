/- The walk of the document's own Parse. -/
import Derived.Test.YtglajmadjpadgaaDoorShRefA
import Derived.Test.YtglajmadjpadgaaDoorShPar
namespace Go.Proofs.YtglajmadjpadgaaDoor
open Go.RowKit

namespace Sh
/-- what so many digits add for a letter -/
def part (c : UInt8) : Nat → Nat
  | 0 => 0
  | k + 1 => part c k + if digit k = c then k else 0
theorem part_all : (List.range 256).all (fun n => part (UInt8.ofNat n) 16 == val (UInt8.ofNat n)) = true := by kernel_rfl
theorem part_val (c : UInt8) : part c 16 = val c := by
  have h := List.all_eq_true.1 part_all c.toNat (List.mem_range.2 (UInt8.toNat_lt c))
  simpa using h
theorem part_lt (c : UInt8) : ∀ k, part c k ≤ k * k
  | 0 => Nat.le_refl _
  | k + 1 => by
    have h := part_lt c k
    rw [part]
    have e : (k + 1) * (k + 1) = k * k + 2 * k + 1 := by simp [Nat.add_mul, Nat.mul_add]; omega
    split <;> omega
end Sh

theorem conv_byte (y : World) (a : Nat) (ha : a < 256) : (convert 27 9 (.slice (some ⟨y.heap.size, 0, none⟩) 1 1)).run Tryd.prog (y.alloc (.cells #[.int .u8 (a : Int)] 5)) = .ok (.string ⟨#[UInt8.ofNat a]⟩) (y.alloc (.cells #[.int .u8 (a : Int)] 5)) :=
  row_string (l := [UInt8.ofNat a]) (Row.at (b := y.heap.size) (w := y) rfl (by simp [bcells]; omega)) rfl

set_option maxHeartbeats 4000000 in
theorem refParse_any (s : ByteArray) (w : World) (hs : s.size ≤ 140737488351232) :
    Calls Tryd.prog 10 #[.string s] w fun e w' => e = .returned (.tuple #[.string ⟨(Sh.parse s.data.toList).1.toArray⟩, .bool (Sh.parse s.data.toList).2]) ∧ Below w.heap.size w w' := by
  go_enter Tryd.func10, Tryd.ntmps10
  go_wp2_with fail
  go_loopw [4, 5] (fun s4 s5 wr => ∃ (k : Nat) (o : ByteArray), k ≤ s.size / 2 ∧ s5 = .int .i64 ((2 * k : Nat) : Int) ∧ s4 = .string o ∧ o.data.toList = Sh.outsN s.data.toList k ∧ Below w.heap.size w wr) (fun _ s5 _ => s.size - (intOf s5).toNat)
  case atStart => exact ⟨0, _, by omega, rfl, rfl, rfl, Below.refl _ _⟩
  case round =>
    obtain ⟨k, o, hk, rfl, rfl, ho, hbel⟩ := hrel
    have hos : o.size = k := by
      have h := congrArg List.length ho
      rw [Sh.outsN_len] at h
      exact h
    obtain ⟨i, hik⟩ : ∃ i, 2 * k = i := ⟨_, rfl⟩
    rw [hik]
    by_cases hlt : i + 1 < s.size
    · have hlt' : (i : Int) + 1 < (s.size : Int) := by omega
      have hi0 : (0 : Int) ≤ (i : Int) := by omega
      have hi1 : (i : Int) < (s.size : Int) := by omega
      have hi2 : (0 : Int) ≤ (i : Int) + 1 := by omega
      have hw1 : IntKind.i64.wrap ((i : Int) + 1) = (i : Int) + 1 := by rw [IntKind.wrap_i64]; omega
      have htn : ((i : Int) + 1).toNat = i + 1 := by omega
      have hsn : Sh.outsN s.data.toList (k + 1) = Sh.outsN s.data.toList k ++ [UInt8.ofNat (Sh.part s[i] 16 * 16 + Sh.part s[i + 1] 16)] := by
        rw [Sh.outsN, hik, byte_at s (by omega), byte_at s hlt, Sh.part_val, Sh.part_val]
      generalize hc1 : s[i] = c1 at hsn
      generalize hc2 : s[i + 1] = c2 at hsn
      have l1 := Sh.val_lt c1
      have l2 := Sh.val_lt c2
      rw [← Sh.part_val] at l1 l2
      have HO := Lib.hid ho; clear ho
      have HSN := Lib.hid hsn; clear hsn
      have HB := Lib.hid hbel; clear hbel
      go_wp2_with fail
      go_loopw [6, 7] (fun s6 s7 wy => ∃ j : Nat, j ≤ 16 ∧ s7 = .int .i64 (j : Int) ∧ s6 = .int .i64 ((Sh.part c1 j * 16 + Sh.part c2 j : Nat) : Int) ∧ Below w.heap.size w wy) (fun _ s7 _ => 16 - (intOf s7).toNat)
      case atStart => exact ⟨0, by omega, rfl, rfl, HB.out⟩
      case round =>
        clear HB
        obtain ⟨j, hj, rfl, rfl, hbj⟩ := hrel
        have HB := Lib.hid hbj; clear hbj
        have p1 := Sh.part_lt c1 j
        have p2 := Sh.part_lt c2 j
        by_cases h16 : j < 16
        · have h16' : (j : Int) < 16 := by omega
          have hjj : j * j ≤ 15 * 15 := Nat.mul_le_mul (by omega) (by omega)
          have hw8 : IntKind.u8.wrap (j : Int) = (j : Int) := by rw [IntKind.wrap_u8]; omega
          have D := Lib.hid (fun (w : World) (n : Nat) => show Calls Tryd.prog 16 #[.int .u8 (j : Int)] (w.drewN n) fun e w'' => e = .returned (.int .u8 ((Sh.digit j).toNat : Int)) ∧ ∃ m, w'' = w.drewN m from (refdigit_any j (w.drewN n) h16).mono (by rintro e u ⟨rfl, rfl⟩; exact ⟨rfl, _, rfl⟩))
          have e1 : Sh.part c1 (j + 1) = Sh.part c1 j + if Sh.digit j = c1 then j else 0 := rfl
          have e2 : Sh.part c2 (j + 1) = Sh.part c2 j + if Sh.digit j = c2 then j else 0 := rfl
          generalize Sh.digit j = d at D e1 e2
          generalize Sh.part c1 j = q1 at *
          generalize Sh.part c2 j = q2 at *
          have hm : IntKind.i64.wrap (16 * (j : Int)) = 16 * (j : Int) := by rw [IntKind.wrap_i64]; omega
          have hm2 : IntKind.i64.wrap (((q1 * 16 + q2 : Nat) : Int) + 16 * (j : Int)) = ((q1 * 16 + q2 + 16 * j : Nat) : Int) := by rw [IntKind.wrap_i64]; omega
          have hm3 : IntKind.i64.wrap (((q1 * 16 + q2 + 16 * j : Nat) : Int) + (j : Int)) = ((q1 * 16 + q2 + 16 * j + j : Nat) : Int) := by rw [IntKind.wrap_i64]; omega
          have hm4 : IntKind.i64.wrap (((q1 * 16 + q2 : Nat) : Int) + (j : Int)) = ((q1 * 16 + q2 + j : Nat) : Int) := by rw [IntKind.wrap_i64]; omega
          have hne : ∀ c : UInt8, d ≠ c → ¬ (d.toNat : Int) = (c.toNat : Int) := fun c h e => h (UInt8.toNat_inj.1 (by omega))
          have heq : ∀ c : UInt8, d = c → (d.toNat : Int) = (c.toNat : Int) := fun c h => by rw [h]
          by_cases h1 : d = c1
          · by_cases h2 : d = c2
            · have x1 := heq _ h1
              rw [if_pos h1] at e1
              have x2 := heq _ h2
              rw [if_pos h2] at e2
              clear h1 h2 heq hne
              go_wp2_with fail
              go_quiet ((go_at_call 16; with_reducible exact D.out _ _))
              go_wp2_with fail
              have HB2 := Lib.hid (below_drewN HB.out nq)
              clear HB
              generalize wr.drewN nq = wz at HB2 ⊢
              go_quiet ((go_at_call 16; with_reducible exact D.out _ _))
              go_wp2_with fail
              refine ⟨⟨j + 1, by omega, by go_num, ?_, below_drewN HB2.out _⟩, by simp only [intOf]; omega⟩
              rw [e1, e2]
              go_num
            · have x1 := heq _ h1
              rw [if_pos h1] at e1
              have x2 := hne _ h2
              rw [if_neg h2] at e2
              clear h1 h2 heq hne
              go_wp2_with fail
              go_quiet ((go_at_call 16; with_reducible exact D.out _ _))
              go_wp2_with fail
              have HB2 := Lib.hid (below_drewN HB.out nq)
              clear HB
              generalize wr.drewN nq = wz at HB2 ⊢
              go_quiet ((go_at_call 16; with_reducible exact D.out _ _))
              go_wp2_with fail
              refine ⟨⟨j + 1, by omega, by go_num, ?_, below_drewN HB2.out _⟩, by simp only [intOf]; omega⟩
              rw [e1, e2]
              go_num
          · by_cases h2 : d = c2
            · have x1 := hne _ h1
              rw [if_neg h1] at e1
              have x2 := heq _ h2
              rw [if_pos h2] at e2
              clear h1 h2 heq hne
              go_wp2_with fail
              go_quiet ((go_at_call 16; with_reducible exact D.out _ _))
              go_wp2_with fail
              have HB2 := Lib.hid (below_drewN HB.out nq)
              clear HB
              generalize wr.drewN nq = wz at HB2 ⊢
              go_quiet ((go_at_call 16; with_reducible exact D.out _ _))
              go_wp2_with fail
              refine ⟨⟨j + 1, by omega, by go_num, ?_, below_drewN HB2.out _⟩, by simp only [intOf]; omega⟩
              rw [e1, e2]
              go_num
            · have x1 := hne _ h1
              rw [if_neg h1] at e1
              have x2 := hne _ h2
              rw [if_neg h2] at e2
              clear h1 h2 heq hne
              go_wp2_with fail
              go_quiet ((go_at_call 16; with_reducible exact D.out _ _))
              go_wp2_with fail
              have HB2 := Lib.hid (below_drewN HB.out nq)
              clear HB
              generalize wr.drewN nq = wz at HB2 ⊢
              go_quiet ((go_at_call 16; with_reducible exact D.out _ _))
              go_wp2_with fail
              refine ⟨⟨j + 1, by omega, by go_num, ?_, below_drewN HB2.out _⟩, by simp only [intOf]; omega⟩
              rw [e1, e2]
              go_num
        · obtain rfl : j = 16 := by omega
          have h16' : ¬ ((16 : Nat) : Int) < 16 := by omega
          obtain ⟨c, hc⟩ : ∃ c, Sh.part c1 16 * 16 + Sh.part c2 16 = c := ⟨_, rfl⟩
          have HSN2 := HSN.out
          rw [hc] at HSN2 ⊢
          have hc256 : c < 256 := by omega
          have hcw : (c : Int) % 256 = (c : Int) := by omega
          have kc := conv_byte wr c hc256
          obtain ⟨o1, ho1⟩ : ∃ o : ByteArray, ⟨#[UInt8.ofNat c]⟩ = o := ⟨_, rfl⟩
          have so1 : o1.size = 1 := by rw [← ho1]; rfl
          have hcat : ¬ (9223372036854775807 < o.size + o1.size) := by omega
          have HN := Lib.hid (show (o ++ o1).data.toList = Sh.outsN s.data.toList (k + 1) from by rw [HSN2, ← HO.out, ← ho1]; simp)
          rw [ho1] at kc
          clear ho1 HSN2 HSN p1 p2 l1 l2 hc
          go_wp2_with fail
          refine ⟨⟨k + 1, _, by omega, ?_, rfl, HN.out, HB.out.alloc HB.out.size _⟩, by simp only [intOf]; omega⟩
          rw [← hik]
          go_num
    · have hke : k = s.size / 2 := by omega
      have hlt' : ¬ (i : Int) + 1 < (s.size : Int) := by omega
      have hw1 : IntKind.i64.wrap ((i : Int) + 1) = (i : Int) + 1 := by rw [IntKind.wrap_i64]; omega
      have hoe : (⟨(Sh.outsN s.data.toList k).toArray⟩ : ByteArray) = o := by rw [← ho]
      have HX := Lib.hid (fun w => refHex_any o w (by omega))
      have HP := Lib.hid (show Sh.parse s.data.toList = if Sh.hex o.data.toList = s.data.toList then (o.data.toList, true) else ([], false) from by unfold Sh.parse; rw [show s.data.toList.length = s.size from rfl, ← hke, ← ho])
      generalize Sh.hex o.data.toList = hx at HX HP
      obtain ⟨y, hy⟩ : ∃ q : ByteArray, ⟨hx.toArray⟩ = q := ⟨_, rfl⟩
      rw [hy] at HX
      have HB := Lib.hid hbel
      have HEQ := Lib.hid (show (y.toList == s.toList) = decide (hx = s.data.toList) from by rw [← hy, Lib.toList_data, Lib.toList_data]; show (hx == s.data.toList) = _; rw [Bool.eq_iff_iff]; simp)
      clear hbel hy hke hk hik hoe ho
      go_wp2_with (go_at_call 14; refine (HX.out _).mono ?_; rintro e w1 ⟨rfl, hb1⟩)
      all_goals (go_ret2; refine ⟨?_, HB.out.trans (hb1.mono HB.out.size)⟩)
      all_goals (rename_i hcnd; rw [HEQ.out] at hcnd; rw [HP.out])
      · rw [if_neg (by simpa using hcnd)]; rfl
      · rw [if_pos (by simpa using hcnd)]; rfl

end Go.Proofs.YtglajmadjpadgaaDoor
