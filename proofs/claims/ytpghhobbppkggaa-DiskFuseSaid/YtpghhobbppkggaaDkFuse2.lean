/- The walk of DiskFuse. -/
import Derived.Test.YtpghhobbppkggaaDkFuse
import Derived.Test.YtpghhobbppkggaaU8sOpen
namespace Go.Proofs.Ytpghhobbppkggaa
open Go.RowKit

/-- the disk's variable, behind some rounds -/
structure Sf (w wr : World) (g : Nat) (d : Dk) : Prop where
  r : Row wr g d.cells
  b : Below w.heap.size w wr
  lt : g < wr.heap.size
  le : w.heap.size ≤ g
theorem Sf.below {w wr w1 : World} {g : Nat} {d : Dk} (h : Sf w wr g d) (hb : Below wr.heap.size wr w1) : Sf w w1 g d :=
  ⟨h.r.below hb h.lt, h.b.trans (hb.mono h.b.size), Nat.lt_of_lt_of_le h.lt hb.size, h.le⟩
theorem Sf.lay {w wr : World} {g : Nat} {d : Dk} (h : Sf w wr g d) (c : Dk) : Sf w (lay wr g c) g c :=
  ⟨Row.lay h.r c, Below.set8 h.b h.le _ _ _ _ _ _ _ _, by rw [lay_size]; exact h.lt, h.le⟩

set_option maxRecDepth 100000 in
set_option maxHeartbeats 8000000 in
theorem DiskFuse_core (nn : Nat) (v : Value) (l : List Nat) (k : Int) (w : World) (hv : U8sAt w v l) (hok : ∀ a ∈ l, a < 256) (_hn : nn < 256) :
    Calls Try.prog 6 #[.int .u8 (nn : Int), v, .int .i64 k] w fun e w' => e = .returned (.bool true) ∧ Below w.heap.size w w' := by
  obtain ⟨a, cap, rfl, hc⟩ := hv.form
  have HCC := Lib.hid hc; clear hc hv
  have HOK := Lib.hid hok; clear hok
  obtain ⟨m, hm⟩ : ∃ m : Nat, (nn : Int) % 20 = (m : Int) := ⟨nn % 20, by omega⟩
  have hm20 : m < 20 := by omega
  have hm20' : (m : Int) < 20 := by omega
  have hm0' : (0 : Int) ≤ (m : Int) := by omega
  have HM := Lib.hid hm; clear hm
  have HN := Lib.hid (fun w => new_any 1000 w)
  have HAR := Lib.hid (fun w => arm_any (Dk.new 1000) m k w)
  have HI0 := Lib.hid (fused_new m k)
  generalize (Dk.new 1000).arm m k = z at HAR HI0
  generalize Dk.new 1000 = y at HN HAR
  unfold Dk.val at HAR HN
  go_enter Try.func6, Try.ntmps6
  go_wp2_with fail
  refine (examples_any _).mono ?_
  rintro e w1 ⟨rfl, hb1⟩
  go_upto_region 5 with fail
  rw [HM.out]
  go_wp2_with fail
  refine (HN.out _).mono ?_
  rintro e w2 ⟨rfl, hb2⟩
  go_wp2_with fail
  refine (HAR.out _).mono ?_
  rintro e w3 ⟨rfl, hb3⟩
  have hb := below4 hb1 (below4 hb2 hb3)
  clear hb1 hb2 hb3 HAR HN HM
  have HB := Lib.hid hb; clear hb
  obtain ⟨g, hg⟩ : ∃ g, w3.heap.size = g := ⟨_, rfl⟩
  go_wp2_with fail
  go_loopw [10] (fun v10 wr => ∃ (i : Nat) (d : Dk), i ≤ m + 1 ∧ v10 = .int .i64 i ∧ Fused m i d ∧ Sf w wr g d) (fun v10 _ => m + 1 - (intOf v10).toNat)
  case atStart =>
    exact ⟨0, z, Nat.zero_le _, rfl, HI0.out, Row.at hg rfl, HB.out.alloc HB.out.size _, by simp; omega, by rw [← hg]; exact HB.out.size⟩
  case round =>
    clear HI0 HB hg
    obtain ⟨i, d, hi, rfl, hI, hS⟩ := hrel
    have HS := Lib.hid hS
    by_cases hi' : i ≤ m
    case pos =>
      have hle : (i : Int) ≤ (m : Int) := by omega
      have h0' : (0 : Int) ≤ (i : Int) := by omega
      have hu : d.used ≤ 40 := by have := hI.used; omega
      have hsz : d.size < 9223372036854775808 := by rw [hI.size]; omega
      have hfu : d.fuse < 9223372036854775808 := by rw [hI.fuse]; omega
      have hdn : d.down = false := by rw [hI.down]; simp; omega
      obtain ⟨c0, c1, c2, c3, c4, c5, c6, c7, f0, f1, f2, f3, f4, f5, f6, f7⟩ := Row.eight hS.r
      rw [hdn] at c5
      clear hS
      have HI := Lib.hid hI; clear hI
      have hsp : (∃ K : Nat, K < 256 ∧ ∃ h : i < l.length, l[i] = K) ∨ ¬ i < l.length := by
        by_cases h : i < l.length
        · exact .inl ⟨l[i], HOK.out _ (List.getElem_mem h), h, rfl⟩
        · exact .inr h
      rcases hsp with ⟨K, hK, hil, hKe⟩ | hil
      case' inl =>
        have hil' : (i : Int) < (l.length : Int) := by omega
        obtain ⟨b, off, rfl, hcell⟩ := HCC.out i hil
        rw [hKe] at hcell
        have hcell' := (HS.out.b.cell (p := ⟨b, off + i, none⟩) (World.block_lt_of_cell? w _ hcell)).trans hcell
        clear hcell hKe
        obtain ⟨F, hF⟩ : ∃ F, (K : Int) / 3 % 2 = F := ⟨_, rfl⟩
        have hF2 : F = 0 ∨ F = 1 := by omega
        have hK0 : (0 : Int) ≤ (K : Int) := by omega
        have hK1 : (K : Int) ≤ 255 := by omega
        have hq : (K : Int) % 3 = 0 ∨ (K : Int) % 3 = 1 ∨ (K : Int) % 3 = 2 := by omega
        have HF := Lib.hid hF; clear hF
      case' inr =>
        have hil' : ¬ (i : Int) < (l.length : Int) := by omega
        obtain ⟨F, hF⟩ : ∃ F : Int, (0 : Int) = F := ⟨_, rfl⟩
        have hF2 : F = 0 ∨ F = 1 := by omega
        have HF := Lib.hid hF; clear hF
      case inl =>
        by_cases hlt : i < m
        · have hlm : (if i < m then (0 : Int) else 12) = 0 := if_pos hlt
          have hlt' : (i : Int) < (m : Int) := by omega
          have hne' : ¬ ((i : Int) = (m : Int)) := by omega
          rcases hq with hq | hq | hq
          · have hl := fused_write HI.out hi' hm20 F hF2
            have HC := fun w => show Calls Try.prog 10 #[d.val, .int .i64 F, .string two] w fun e w' => e = .returned (.tuple #[(d.write F two).1.val, .int .i64 0]) ∧ Below w.heap.size w w' from by have := write_any d F two w (by rw [two_size]; omega) hfu hsz; rw [hl.2, hlm] at this; exact this
            have HR := Lib.hid hl.1
            clear hl hlm
            generalize (d.write F two).1 = r at HC HR
            unfold Dk.val two at HC
            rw [hdn] at HC
            have HC := Lib.hid HC
            go_wp2_with fail
            try rw [HF.out]
            refine (HC.out _).mono ?_
            rintro e w1 ⟨rfl, hb1⟩
            have hS1 := HS.out.below hb1
            obtain ⟨d0, d1, d2, d3, d4, d5, d6, d7, g0, g1, g2, g3, g4, g5, g6, g7⟩ := Row.eight hS1.r
            go_upto_region 20 with fail
            have hS2 := hS1.lay r
            unfold lay set8 at hS2
            generalize World.setCell _ _ _ = wz at hS2 ⊢
            clear hS1 hb1 HS d0 d1 d2 d3 d4 d5 d6 d7 g0 g1 g2 g3 g4 g5 g6 g7 c0 c1 c2 c3 c4 c5 c6 c7 f0 f1 f2 f3 f4 f5 f6 f7
            have HS2 := Lib.hid hS2
            have hrd : r.down = false := by rw [HR.out.down]; simp; try omega
            obtain ⟨c0, c1, c2, c3, c4, c5, c6, c7, f0, f1, f2, f3, f4, f5, f6, f7⟩ := Row.eight hS2.r
            clear hS2
            rw [hrd] at c5
            clear hrd
            go_wp2_with fail
            go_roundw
            case rel => exact ⟨i + 1, r, by omega, by go_num, HR.out, HS2.out⟩
            case measure => simp [intOf] <;> omega
          · have hl := fused_sync HI.out hi' F hF2
            have HC := fun w => show Calls Try.prog 12 #[d.val, .int .i64 F] w fun e w' => e = .returned (.tuple #[(d.sync F).1.val, .int .i64 0]) ∧ Below w.heap.size w w' from by have := sync_any d F w (by omega) hfu; rw [hl.2, hlm] at this; exact this
            have HR := Lib.hid hl.1
            clear hl hlm
            generalize (d.sync F).1 = r at HC HR
            unfold Dk.val at HC
            rw [hdn] at HC
            have HC := Lib.hid HC
            go_wp2_with fail
            try rw [HF.out]
            refine (HC.out _).mono ?_
            rintro e w1 ⟨rfl, hb1⟩
            have hS1 := HS.out.below hb1
            obtain ⟨d0, d1, d2, d3, d4, d5, d6, d7, g0, g1, g2, g3, g4, g5, g6, g7⟩ := Row.eight hS1.r
            go_upto_region 20 with fail
            have hS2 := hS1.lay r
            unfold lay set8 at hS2
            generalize World.setCell _ _ _ = wz at hS2 ⊢
            clear hS1 hb1 HS d0 d1 d2 d3 d4 d5 d6 d7 g0 g1 g2 g3 g4 g5 g6 g7 c0 c1 c2 c3 c4 c5 c6 c7 f0 f1 f2 f3 f4 f5 f6 f7
            have HS2 := Lib.hid hS2
            have hrd : r.down = false := by rw [HR.out.down]; simp; try omega
            obtain ⟨c0, c1, c2, c3, c4, c5, c6, c7, f0, f1, f2, f3, f4, f5, f6, f7⟩ := Row.eight hS2.r
            clear hS2
            rw [hrd] at c5
            clear hrd
            go_wp2_with fail
            go_roundw
            case rel => exact ⟨i + 1, r, by omega, by go_num, HR.out, HS2.out⟩
            case measure => simp [intOf] <;> omega
          · have hl := fused_cut HI.out hi' F 3 hF2
            have HC := fun w => show Calls Try.prog 14 #[d.val, .int .i64 F, .int .i64 3] w fun e w' => e = .returned (.tuple #[(d.cut F 3).1.val, .int .i64 0]) ∧ Below w.heap.size w w' from by have := cut_any d F 3 w (by omega) hfu (by omega); rw [hl.2, hlm] at this; exact this
            have HR := Lib.hid hl.1
            clear hl hlm
            generalize (d.cut F 3).1 = r at HC HR
            unfold Dk.val at HC
            rw [hdn] at HC
            have HC := Lib.hid HC
            go_wp2_with fail
            try rw [HF.out]
            refine (HC.out _).mono ?_
            rintro e w1 ⟨rfl, hb1⟩
            have hS1 := HS.out.below hb1
            obtain ⟨d0, d1, d2, d3, d4, d5, d6, d7, g0, g1, g2, g3, g4, g5, g6, g7⟩ := Row.eight hS1.r
            go_upto_region 20 with fail
            have hS2 := hS1.lay r
            unfold lay set8 at hS2
            generalize World.setCell _ _ _ = wz at hS2 ⊢
            clear hS1 hb1 HS d0 d1 d2 d3 d4 d5 d6 d7 g0 g1 g2 g3 g4 g5 g6 g7 c0 c1 c2 c3 c4 c5 c6 c7 f0 f1 f2 f3 f4 f5 f6 f7
            have HS2 := Lib.hid hS2
            have hrd : r.down = false := by rw [HR.out.down]; simp; try omega
            obtain ⟨c0, c1, c2, c3, c4, c5, c6, c7, f0, f1, f2, f3, f4, f5, f6, f7⟩ := Row.eight hS2.r
            clear hS2
            rw [hrd] at c5
            clear hrd
            go_wp2_with fail
            go_roundw
            case rel => exact ⟨i + 1, r, by omega, by go_num, HR.out, HS2.out⟩
            case measure => simp [intOf] <;> omega
        · have hlm : (if i < m then (0 : Int) else 12) = 12 := if_neg hlt
          obtain rfl : i = m := by omega
          have hlt' : ¬ (i : Int) < (i : Int) := by omega
          rcases hq with hq | hq | hq
          · have hl := fused_write HI.out hi' hm20 F hF2
            have HC := fun w => show Calls Try.prog 10 #[d.val, .int .i64 F, .string two] w fun e w' => e = .returned (.tuple #[(d.write F two).1.val, .int .i64 12]) ∧ Below w.heap.size w w' from by have := write_any d F two w (by rw [two_size]; omega) hfu hsz; rw [hl.2, hlm] at this; exact this
            have HR := Lib.hid hl.1
            clear hl hlm
            generalize (d.write F two).1 = r at HC HR
            unfold Dk.val two at HC
            rw [hdn] at HC
            have HC := Lib.hid HC
            go_wp2_with fail
            try rw [HF.out]
            refine (HC.out _).mono ?_
            rintro e w1 ⟨rfl, hb1⟩
            have hS1 := HS.out.below hb1
            obtain ⟨d0, d1, d2, d3, d4, d5, d6, d7, g0, g1, g2, g3, g4, g5, g6, g7⟩ := Row.eight hS1.r
            go_upto_region 20 with fail
            have hS2 := hS1.lay r
            unfold lay set8 at hS2
            generalize World.setCell _ _ _ = wz at hS2 ⊢
            clear hS1 hb1 HS d0 d1 d2 d3 d4 d5 d6 d7 g0 g1 g2 g3 g4 g5 g6 g7 c0 c1 c2 c3 c4 c5 c6 c7 f0 f1 f2 f3 f4 f5 f6 f7
            have HS2 := Lib.hid hS2
            have hrd : r.down = true := by rw [HR.out.down]; simp; try omega
            obtain ⟨c0, c1, c2, c3, c4, c5, c6, c7, f0, f1, f2, f3, f4, f5, f6, f7⟩ := Row.eight hS2.r
            clear hS2
            rw [hrd] at c5
            clear hrd
            go_wp2_with fail
            go_roundw
            case rel => exact ⟨i + 1, r, by omega, by go_num, HR.out, HS2.out⟩
            case measure => simp [intOf] <;> omega
          · have hl := fused_sync HI.out hi' F hF2
            have HC := fun w => show Calls Try.prog 12 #[d.val, .int .i64 F] w fun e w' => e = .returned (.tuple #[(d.sync F).1.val, .int .i64 12]) ∧ Below w.heap.size w w' from by have := sync_any d F w (by omega) hfu; rw [hl.2, hlm] at this; exact this
            have HR := Lib.hid hl.1
            clear hl hlm
            generalize (d.sync F).1 = r at HC HR
            unfold Dk.val at HC
            rw [hdn] at HC
            have HC := Lib.hid HC
            go_wp2_with fail
            try rw [HF.out]
            refine (HC.out _).mono ?_
            rintro e w1 ⟨rfl, hb1⟩
            have hS1 := HS.out.below hb1
            obtain ⟨d0, d1, d2, d3, d4, d5, d6, d7, g0, g1, g2, g3, g4, g5, g6, g7⟩ := Row.eight hS1.r
            go_upto_region 20 with fail
            have hS2 := hS1.lay r
            unfold lay set8 at hS2
            generalize World.setCell _ _ _ = wz at hS2 ⊢
            clear hS1 hb1 HS d0 d1 d2 d3 d4 d5 d6 d7 g0 g1 g2 g3 g4 g5 g6 g7 c0 c1 c2 c3 c4 c5 c6 c7 f0 f1 f2 f3 f4 f5 f6 f7
            have HS2 := Lib.hid hS2
            have hrd : r.down = true := by rw [HR.out.down]; simp; try omega
            obtain ⟨c0, c1, c2, c3, c4, c5, c6, c7, f0, f1, f2, f3, f4, f5, f6, f7⟩ := Row.eight hS2.r
            clear hS2
            rw [hrd] at c5
            clear hrd
            go_wp2_with fail
            go_roundw
            case rel => exact ⟨i + 1, r, by omega, by go_num, HR.out, HS2.out⟩
            case measure => simp [intOf] <;> omega
          · have hl := fused_cut HI.out hi' F 3 hF2
            have HC := fun w => show Calls Try.prog 14 #[d.val, .int .i64 F, .int .i64 3] w fun e w' => e = .returned (.tuple #[(d.cut F 3).1.val, .int .i64 12]) ∧ Below w.heap.size w w' from by have := cut_any d F 3 w (by omega) hfu (by omega); rw [hl.2, hlm] at this; exact this
            have HR := Lib.hid hl.1
            clear hl hlm
            generalize (d.cut F 3).1 = r at HC HR
            unfold Dk.val at HC
            rw [hdn] at HC
            have HC := Lib.hid HC
            go_wp2_with fail
            try rw [HF.out]
            refine (HC.out _).mono ?_
            rintro e w1 ⟨rfl, hb1⟩
            have hS1 := HS.out.below hb1
            obtain ⟨d0, d1, d2, d3, d4, d5, d6, d7, g0, g1, g2, g3, g4, g5, g6, g7⟩ := Row.eight hS1.r
            go_upto_region 20 with fail
            have hS2 := hS1.lay r
            unfold lay set8 at hS2
            generalize World.setCell _ _ _ = wz at hS2 ⊢
            clear hS1 hb1 HS d0 d1 d2 d3 d4 d5 d6 d7 g0 g1 g2 g3 g4 g5 g6 g7 c0 c1 c2 c3 c4 c5 c6 c7 f0 f1 f2 f3 f4 f5 f6 f7
            have HS2 := Lib.hid hS2
            have hrd : r.down = true := by rw [HR.out.down]; simp; try omega
            obtain ⟨c0, c1, c2, c3, c4, c5, c6, c7, f0, f1, f2, f3, f4, f5, f6, f7⟩ := Row.eight hS2.r
            clear hS2
            rw [hrd] at c5
            clear hrd
            go_wp2_with fail
            go_roundw
            case rel => exact ⟨i + 1, r, by omega, by go_num, HR.out, HS2.out⟩
            case measure => simp [intOf] <;> omega
      case inr =>
        by_cases hlt : i < m
        · have hlm : (if i < m then (0 : Int) else 12) = 0 := if_pos hlt
          have hlt' : (i : Int) < (m : Int) := by omega
          have hne' : ¬ ((i : Int) = (m : Int)) := by omega
          have hl := fused_write HI.out hi' hm20 F hF2
          have HC := fun w => show Calls Try.prog 10 #[d.val, .int .i64 F, .string two] w fun e w' => e = .returned (.tuple #[(d.write F two).1.val, .int .i64 0]) ∧ Below w.heap.size w w' from by have := write_any d F two w (by rw [two_size]; omega) hfu hsz; rw [hl.2, hlm] at this; exact this
          have HR := Lib.hid hl.1
          clear hl hlm
          generalize (d.write F two).1 = r at HC HR
          unfold Dk.val two at HC
          rw [hdn] at HC
          have HC := Lib.hid HC
          go_wp2_with fail
          try rw [HF.out]
          refine (HC.out _).mono ?_
          rintro e w1 ⟨rfl, hb1⟩
          have hS1 := HS.out.below hb1
          obtain ⟨d0, d1, d2, d3, d4, d5, d6, d7, g0, g1, g2, g3, g4, g5, g6, g7⟩ := Row.eight hS1.r
          go_upto_region 20 with fail
          have hS2 := hS1.lay r
          unfold lay set8 at hS2
          generalize World.setCell _ _ _ = wz at hS2 ⊢
          clear hS1 hb1 HS d0 d1 d2 d3 d4 d5 d6 d7 g0 g1 g2 g3 g4 g5 g6 g7 c0 c1 c2 c3 c4 c5 c6 c7 f0 f1 f2 f3 f4 f5 f6 f7
          have HS2 := Lib.hid hS2
          have hrd : r.down = false := by rw [HR.out.down]; simp; try omega
          obtain ⟨c0, c1, c2, c3, c4, c5, c6, c7, f0, f1, f2, f3, f4, f5, f6, f7⟩ := Row.eight hS2.r
          clear hS2
          rw [hrd] at c5
          clear hrd
          go_wp2_with fail
          go_roundw
          case rel => exact ⟨i + 1, r, by omega, by go_num, HR.out, HS2.out⟩
          case measure => simp [intOf] <;> omega
        · have hlm : (if i < m then (0 : Int) else 12) = 12 := if_neg hlt
          obtain rfl : i = m := by omega
          have hlt' : ¬ (i : Int) < (i : Int) := by omega
          have hl := fused_write HI.out hi' hm20 F hF2
          have HC := fun w => show Calls Try.prog 10 #[d.val, .int .i64 F, .string two] w fun e w' => e = .returned (.tuple #[(d.write F two).1.val, .int .i64 12]) ∧ Below w.heap.size w w' from by have := write_any d F two w (by rw [two_size]; omega) hfu hsz; rw [hl.2, hlm] at this; exact this
          have HR := Lib.hid hl.1
          clear hl hlm
          generalize (d.write F two).1 = r at HC HR
          unfold Dk.val two at HC
          rw [hdn] at HC
          have HC := Lib.hid HC
          go_wp2_with fail
          try rw [HF.out]
          refine (HC.out _).mono ?_
          rintro e w1 ⟨rfl, hb1⟩
          have hS1 := HS.out.below hb1
          obtain ⟨d0, d1, d2, d3, d4, d5, d6, d7, g0, g1, g2, g3, g4, g5, g6, g7⟩ := Row.eight hS1.r
          go_upto_region 20 with fail
          have hS2 := hS1.lay r
          unfold lay set8 at hS2
          generalize World.setCell _ _ _ = wz at hS2 ⊢
          clear hS1 hb1 HS d0 d1 d2 d3 d4 d5 d6 d7 g0 g1 g2 g3 g4 g5 g6 g7 c0 c1 c2 c3 c4 c5 c6 c7 f0 f1 f2 f3 f4 f5 f6 f7
          have HS2 := Lib.hid hS2
          have hrd : r.down = true := by rw [HR.out.down]; simp; try omega
          obtain ⟨c0, c1, c2, c3, c4, c5, c6, c7, f0, f1, f2, f3, f4, f5, f6, f7⟩ := Row.eight hS2.r
          clear hS2
          rw [hrd] at c5
          clear hrd
          go_wp2_with fail
          go_roundw
          case rel => exact ⟨i + 1, r, by omega, by go_num, HR.out, HS2.out⟩
          case measure => simp [intOf] <;> omega
    case neg =>
      obtain rfl : i = m + 1 := by omega
      have hle : ¬ (((m + 1 : Nat) : Int) ≤ (m : Int)) := by omega
      have hdn : d.down = true := by rw [hI.down]; simp
      have hfz : d.fuse = -1 := by rw [hI.fuse]; omega
      have hst := fused_start hI hm20
      have hu : d.used ≤ 40 := by have := hI.used; omega
      have hsz : d.size < 9223372036854775808 := by rw [hI.size]; omega
      have hfu : d.fuse < 9223372036854775808 := by rw [hI.fuse]; omega
      have HX := fun w => show Calls Try.prog 10 #[d.val, .int .i64 0, .string one] w fun e w' => e = .returned (.tuple #[d.val, .int .i64 12]) ∧ Below w.heap.size w w' from by have := write_any d 0 one w (by rw [one_size]; omega) hfu hsz; rw [write_down hdn 0 one (.inl rfl)] at this; exact this
      have HY := fun w => show Calls Try.prog 12 #[d.val, .int .i64 1] w fun e w' => e = .returned (.tuple #[d.val, .int .i64 12]) ∧ Below w.heap.size w w' from by have := sync_any d 1 w (by omega) hfu; unfold Dk.sync at this; rw [deed_down hdn 1 _ _ (.inr rfl)] at this; exact this
      have HZ := fun w => show Calls Try.prog 14 #[d.val, .int .i64 0, .int .i64 0] w fun e w' => e = .returned (.tuple #[d.val, .int .i64 12]) ∧ Below w.heap.size w w' from by have := cut_any d 0 0 w (by omega) hfu (by omega); unfold Dk.cut at this; rw [deed_down hdn 0 _ _ (.inl rfl)] at this; exact this
      have HST := fun w => start_any d w
      have HW := fun w => show Calls Try.prog 10 #[d.start.val, .int .i64 0, .string one] w fun e w' => e = .returned (.tuple #[(d.start.write 0 one).1.val, .int .i64 0]) ∧ Below w.heap.size w w' from by have := write_any d.start 0 one w (by rw [one_size]; show d.used + _ ≤ _; omega) hfu hsz; rw [hst.1] at this; exact this
      have hwf := hst.2
      clear hst hI HCC HOK hu hsz hfu
      generalize (d.start.write 0 one).1 = c at HW hwf
      obtain ⟨sz, p0, q0, p1, q1, dn, fu, kp⟩ := d
      obtain ⟨csz, cp0, cq0, cp1, cq1, cdn, cfu, ckp⟩ := c
      simp only at hdn hfz hwf
      subst hdn; subst hfz; subst hwf
      unfold Dk.val at HX HY HZ HST HW
      unfold Dk.start at HST HW
      unfold one at HX HW
      simp only at HX HY HZ HST HW
      have HX := Lib.hid HX
      have HY := Lib.hid HY
      have HZ := Lib.hid HZ
      have HST := Lib.hid HST
      have HW := Lib.hid HW
      have HRg := Lib.hid hS.r
      have HB := Lib.hid hS.b
      have lg := hS.lt
      clear hS HS
      obtain ⟨c0, c1, c2, c3, c4, c5, c6, c7, _, _, _, _, _, _, _, _⟩ := Row.eight HRg.out
      go_wp2_with fail
      refine (HX.out _).mono ?_
      rintro e x1 ⟨rfl, hbq⟩
      have Ng := Row.below HRg.out hbq (by omega)
      have hBq : Below w.heap.size w x1 := HB.out.trans (hbq.mono HB.out.size)
      have ltx1 := hbq.size
      clear HB hbq HRg
      have HB := Lib.hid hBq; clear hBq
      have HRg := Lib.hid Ng; clear Ng
      clear c0 c1 c2 c3 c4 c5 c6 c7
      obtain ⟨ga, hgga⟩ : ∃ z, x1.heap.size = z := ⟨_, rfl⟩
      have l1 : g < ga := by omega
      obtain ⟨c0, c1, c2, c3, c4, c5, c6, c7, _, _, _, _, _, _, _, _⟩ := Row.eight HRg.out
      go_wp2_with fail
      refine (HY.out _).mono ?_
      rintro e x2 ⟨rfl, hbq⟩
      have Nga := Row.below (Row.at hgga rfl : Row _ ga [.int .i64 sz, .string p0, .string q0, .string p1, .string q1, .bool true, .int .i64 (-1), .int .i64 kp]) hbq (by simp; omega)
      have Ng := Row.below (Row.alloc HRg.out (by omega) _) hbq (by simp; omega)
      have hBq : Below w.heap.size w x2 := (HB.out.alloc HB.out.size _).trans (hbq.mono (by have := HB.out.size; simp; omega))
      have ltx2 := hbq.size
      simp at ltx2
      clear HB hbq HRg
      have HB := Lib.hid hBq; clear hBq
      have HRg := Lib.hid Ng; clear Ng
      have HRga := Lib.hid Nga; clear Nga
      clear c0 c1 c2 c3 c4 c5 c6 c7
      obtain ⟨gb, hggb⟩ : ∃ z, x2.heap.size = z := ⟨_, rfl⟩
      have l2 : ga < gb := by omega
      have l3 : g < gb := by omega
      obtain ⟨c0, c1, c2, c3, c4, c5, c6, c7, _, _, _, _, _, _, _, _⟩ := Row.eight HRg.out
      go_wp2_with fail
      refine (HZ.out _).mono ?_
      rintro e x3 ⟨rfl, hbq⟩
      have Ngb := Row.below (Row.at hggb rfl : Row _ gb [.int .i64 sz, .string p0, .string q0, .string p1, .string q1, .bool true, .int .i64 (-1), .int .i64 kp]) hbq (by simp; omega)
      have Ng := Row.below (Row.alloc HRg.out (by omega) _) hbq (by simp; omega)
      have Nga := Row.below (Row.alloc HRga.out (by omega) _) hbq (by simp; omega)
      have hBq : Below w.heap.size w x3 := (HB.out.alloc HB.out.size _).trans (hbq.mono (by have := HB.out.size; simp; omega))
      have ltx3 := hbq.size
      simp at ltx3
      clear HB hbq HRg HRga
      have HB := Lib.hid hBq; clear hBq
      have HRg := Lib.hid Ng; clear Ng
      have HRga := Lib.hid Nga; clear Nga
      have HRgb := Lib.hid Ngb; clear Ngb
      clear c0 c1 c2 c3 c4 c5 c6 c7
      obtain ⟨gc, hggc⟩ : ∃ z, x3.heap.size = z := ⟨_, rfl⟩
      have l4 : ga < gc := by omega
      have l5 : g < gc := by omega
      have l6 : gb < gc := by omega
      obtain ⟨c0, c1, c2, c3, c4, c5, c6, c7, _, _, _, _, _, _, _, _⟩ := Row.eight HRg.out
      go_wp2_with fail
      refine (HST.out _).mono ?_
      rintro e x4 ⟨rfl, hbq⟩
      have Ngc := Row.below (Row.at hggc rfl : Row _ gc [.int .i64 sz, .string p0, .string q0, .string p1, .string q1, .bool true, .int .i64 (-1), .int .i64 kp]) hbq (by simp; omega)
      have Ng := Row.below (Row.alloc HRg.out (by omega) _) hbq (by simp; omega)
      have Nga := Row.below (Row.alloc HRga.out (by omega) _) hbq (by simp; omega)
      have Ngb := Row.below (Row.alloc HRgb.out (by omega) _) hbq (by simp; omega)
      have hBq : Below w.heap.size w x4 := (HB.out.alloc HB.out.size _).trans (hbq.mono (by have := HB.out.size; simp; omega))
      have ltx4 := hbq.size
      simp at ltx4
      clear HB hbq HRg HRga HRgb
      have HB := Lib.hid hBq; clear hBq
      have HRg := Lib.hid Ng; clear Ng
      have HRga := Lib.hid Nga; clear Nga
      have HRgb := Lib.hid Ngb; clear Ngb
      have HRgc := Lib.hid Ngc; clear Ngc
      clear c0 c1 c2 c3 c4 c5 c6 c7
      obtain ⟨c0, c1, c2, c3, c4, c5, c6, c7, _, _, _, _, _, _, _, _⟩ := Row.eight HRg.out
      go_wp2_with fail
      refine (HW.out _).mono ?_
      rintro e x5 ⟨rfl, hbq⟩
      have Ng := Row.below HRg.out hbq (by omega)
      have Nga := Row.below HRga.out hbq (by omega)
      have Ngb := Row.below HRgb.out hbq (by omega)
      have Ngc := Row.below HRgc.out hbq (by omega)
      have hBq : Below w.heap.size w x5 := HB.out.trans (hbq.mono HB.out.size)
      have ltx5 := hbq.size
      clear HB hbq HRg HRga HRgb HRgc
      have HB := Lib.hid hBq; clear hBq
      have HRg := Lib.hid Ng; clear Ng
      have HRga := Lib.hid Nga; clear Nga
      have HRgb := Lib.hid Ngb; clear Ngb
      have HRgc := Lib.hid Ngc; clear Ngc
      clear c0 c1 c2 c3 c4 c5 c6 c7
      obtain ⟨gd, hggd⟩ : ∃ z, x5.heap.size = z := ⟨_, rfl⟩
      go_upto_region 26 with fail
      have Ng := Row.alloc HRg.out (by omega) (.cells ([.int .i64 csz, .string cp0, .string cq0, .string cp1, .string cq1, .bool cdn, .int .i64 (-1), .int .i64 ckp] : List Value).toArray 26)
      have Nga := Row.alloc HRga.out (by omega) (.cells ([.int .i64 csz, .string cp0, .string cq0, .string cp1, .string cq1, .bool cdn, .int .i64 (-1), .int .i64 ckp] : List Value).toArray 26)
      have Ngb := Row.alloc HRgb.out (by omega) (.cells ([.int .i64 csz, .string cp0, .string cq0, .string cp1, .string cq1, .bool cdn, .int .i64 (-1), .int .i64 ckp] : List Value).toArray 26)
      have Ngc := Row.alloc HRgc.out (by omega) (.cells ([.int .i64 csz, .string cp0, .string cq0, .string cp1, .string cq1, .bool cdn, .int .i64 (-1), .int .i64 ckp] : List Value).toArray 26)
      have Ngd : Row _ gd [.int .i64 csz, .string cp0, .string cq0, .string cp1, .string cq1, .bool cdn, .int .i64 (-1), .int .i64 ckp] := Row.at (w := x5) (t := 26) (arr := ([.int .i64 csz, .string cp0, .string cq0, .string cp1, .string cq1, .bool cdn, .int .i64 (-1), .int .i64 ckp] : List Value).toArray) hggd rfl
      have hBq := HB.out.alloc HB.out.size (.cells ([.int .i64 csz, .string cp0, .string cq0, .string cp1, .string cq1, .bool cdn, .int .i64 (-1), .int .i64 ckp] : List Value).toArray 26)
      generalize x5.alloc _ = x6 at Ng Nga Ngb Ngc Ngd hBq ⊢
      clear HB HRg HRga HRgb HRgc
      have HB := Lib.hid hBq; clear hBq
      have HRg := Lib.hid Ng; clear Ng
      have HRga := Lib.hid Nga; clear Nga
      have HRgb := Lib.hid Ngb; clear Ngb
      have HRgc := Lib.hid Ngc; clear Ngc
      have HRgd := Lib.hid Ngd; clear Ngd
      obtain ⟨c0, c1, c2, c3, c4, c5, c6, c7, _, _, _, _, _, _, _, _⟩ := Row.eight HRg.out
      obtain ⟨a0, a1, a2, a3, a4, a5, a6, a7, _, _, _, _, _, _, _, _⟩ := Row.eight HRga.out
      obtain ⟨b0, b1, b2, b3, b4, b5, b6, b7, _, _, _, _, _, _, _, _⟩ := Row.eight HRgb.out
      obtain ⟨d0, d1, d2, d3, d4, d5, d6, d7, _, _, _, _, _, _, _, _⟩ := Row.eight HRgc.out
      obtain ⟨e0, e1, e2, e3, e4, e5, e6, e7, _, _, _, _, _, _, _, _⟩ := Row.eight HRgd.out
      have heq := fun w => eq_files p0 q0 p1 q1 w
      go_wp2_with fail
      go_ret
      exact ⟨rfl, HB.out⟩

theorem DiskFuse_walk (n : Int) (v : Value) (l : List Nat) (k : Int) (w : World) (wn : (Lit.int .u8 n).wf = true) (hv : U8sAt w v l) (hok : ∀ a ∈ l, a < 256) (_wk : (Lit.int .i64 k).wf = true) :
    Calls Try.prog 6 #[.int .u8 n, v, .int .i64 k] w fun e w' => e = .returned (.bool true) ∧ Below w.heap.size w w' := by
  have h1 := bounds_u8 wn
  obtain ⟨m, rfl⟩ := Int.eq_ofNat_of_zero_le h1.1
  exact DiskFuse_core m v l k w hv hok (by omega)

end Go.Proofs.Ytpghhobbppkggaa
