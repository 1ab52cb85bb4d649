/- The walk of demesnelaw09.run. -/
import Derived.Test.YtpghhobbppkggaaDkWrite2
import Derived.Test.YtpghhobbppkggaaDkInv
namespace Go.Proofs.Ytpghhobbppkggaa
open Go.RowKit

/-- an act -/
structure Ac where
  kind : Nat
  f : Nat
  s : ByteArray
  n : Int

/-- an act's cells -/
def ActAt (w : World) (g q : Nat) (a : Ac) : Prop :=
  w.cell? ⟨g, q, none⟩ = some (.int .u8 (a.kind : Int)) ∧ w.cell? ⟨g, q + 1, none⟩ = some (.int .u8 (a.f : Int)) ∧ w.cell? ⟨g, q + 2, none⟩ = some (.string a.s) ∧ w.cell? ⟨g, q + 3, none⟩ = some (.int .i64 a.n)
/-- a slice of acts reads as this list -/
def ActsAt (w : World) (v : Value) (l : List Ac) : Prop :=
  (∃ a c, v = .slice a 0 c ∧ l = []) ∨ ∃ g off cap, v = .slice (some ⟨g, off, none⟩) l.length cap ∧ ∀ j (h : j < l.length), ActAt w g (off + j * 4) l[j]

theorem ActAt.below {w w' : World} {g q B : Nat} {a : Ac} (h : ActAt w g q a) (hb : Below B w w') (hlt : g < B) : ActAt w' g q a :=
  ⟨(hb.cell (p := ⟨g, q, none⟩) hlt).trans h.1, (hb.cell (p := ⟨g, q + 1, none⟩) hlt).trans h.2.1, (hb.cell (p := ⟨g, q + 2, none⟩) hlt).trans h.2.2.1, (hb.cell (p := ⟨g, q + 3, none⟩) hlt).trans h.2.2.2⟩
theorem ActAt.lt {w : World} {g q : Nat} {a : Ac} (h : ActAt w g q a) : g < w.heap.size := World.block_lt_of_cell? w _ h.1

theorem ActsAt.form {w : World} {v : Value} {l : List Ac} (h : ActsAt w v l) : ∃ a cap, v = .slice a l.length cap ∧ ∀ k (hk : k < l.length), ∃ g off, a = some ⟨g, off, none⟩ ∧ ActAt w g (off + k * 4) l[k] := by
  rcases h with ⟨a, c, rfl, rfl⟩ | ⟨g, off, cap, rfl, hc⟩
  · exact ⟨a, c, rfl, fun k hk => absurd hk (by simp)⟩
  · exact ⟨_, cap, rfl, fun k hk => ⟨g, off, rfl, hc k hk⟩⟩
theorem ActsAt.below {w w' : World} {v : Value} {l : List Ac} (h : ActsAt w v l) (hb : Below w.heap.size w w') : ActsAt w' v l := by
  rcases h with h | ⟨g, off, cap, rfl, hc⟩
  · exact .inl h
  · exact .inr ⟨g, off, cap, rfl, fun j hj => (hc j hj).below hb (hc j hj).lt⟩

/-- acts that may be: their numbers lie in their ranges, their texts are short enough -/
def Ac.ok (a : Ac) : Prop := a.kind < 256 ∧ a.f < 256 ∧ a.s.size ≤ 140737488355328 ∧ a.n < 9223372036854775808

/-- the variables of 'run', behind some rounds -/
structure St (w wr : World) (d : Dk) (s0 s1 : ByteArray) : Prop where
  r0 : Row wr w.heap.size d.cells
  r1 : Row wr (w.heap.size + 1) Dk.zero.cells
  r2 : Row wr (w.heap.size + 1 + 1) [.string ⟨#[]⟩, .string ⟨#[]⟩]
  r3 : Row wr (w.heap.size + 1 + 1 + 1) [.string s0, .string s1]
  b : Below w.heap.size w wr
  lt : w.heap.size + 1 + 1 + 1 < wr.heap.size

theorem St.below {w wr w1 : World} {d : Dk} {s0 s1 : ByteArray} (h : St w wr d s0 s1) (hb : Below wr.heap.size wr w1) : St w w1 d s0 s1 :=
  ⟨h.r0.below hb (by have := h.lt; omega), h.r1.below hb (by have := h.lt; omega), h.r2.below hb (by have := h.lt; omega), h.r3.below hb h.lt, h.b.trans (hb.mono h.b.size), Nat.lt_of_lt_of_le h.lt hb.size⟩
theorem lay_size (w : World) (b : Nat) (c : Dk) : (lay w b c).heap.size = w.heap.size := by simp [lay, set8]
theorem St.lay {w wr : World} {d : Dk} {s0 s1 : ByteArray} (h : St w wr d s0 s1) (c : Dk) : St w (lay wr w.heap.size c) c s0 s1 :=
  ⟨Row.lay h.r0 c, Row.other8 h.r1 _ _ _ _ _ _ _ _ (by omega), Row.other8 h.r2 _ _ _ _ _ _ _ _ (by omega), Row.other8 h.r3 _ _ _ _ _ _ _ _ (by omega), Below.set8 h.b (Nat.le_refl _) _ _ _ _ _ _ _ _, by rw [lay_size]; exact h.lt⟩
theorem St.safe0 {w wr : World} {d : Dk} {s0 s1 : ByteArray} (h : St w wr d s0 s1) (x : ByteArray) : St w (wr.setCell ⟨w.heap.size + 1 + 1 + 1, 0, none⟩ (.string x)) d x s1 :=
  ⟨h.r0.other _ (by omega), h.r1.other _ (by omega), h.r2.other _ (by omega), h.r3.set 0 (.string x) (by simp), h.b.setCell (p := ⟨w.heap.size + 1 + 1 + 1, 0, none⟩) (by show w.heap.size ≤ w.heap.size + 1 + 1 + 1; omega) _, by simpa using h.lt⟩
theorem St.safe1 {w wr : World} {d : Dk} {s0 s1 : ByteArray} (h : St w wr d s0 s1) (x : ByteArray) : St w (wr.setCell ⟨w.heap.size + 1 + 1 + 1, 1, none⟩ (.string x)) d s0 x :=
  ⟨h.r0.other _ (by omega), h.r1.other _ (by omega), h.r2.other _ (by omega), h.r3.set 1 (.string x) (by simp), h.b.setCell (p := ⟨w.heap.size + 1 + 1 + 1, 1, none⟩) (by show w.heap.size ≤ w.heap.size + 1 + 1 + 1; omega) _, by simpa using h.lt⟩
theorem st_last {w wr : World} {d : Dk} {s0 s1 : ByteArray} (h : St w wr d s0 s1) :
    Row ((((lay wr (w.heap.size + 1) d).setCell ⟨w.heap.size + 1 + 1, 0, none⟩ (.string s0)).setCell ⟨w.heap.size + 1 + 1, 1, none⟩ (.string s1))) (w.heap.size + 1) d.cells ∧
    Row ((((lay wr (w.heap.size + 1) d).setCell ⟨w.heap.size + 1 + 1, 0, none⟩ (.string s0)).setCell ⟨w.heap.size + 1 + 1, 1, none⟩ (.string s1))) (w.heap.size + 1 + 1) [.string s0, .string s1] ∧
    Below w.heap.size w ((((lay wr (w.heap.size + 1) d).setCell ⟨w.heap.size + 1 + 1, 0, none⟩ (.string s0)).setCell ⟨w.heap.size + 1 + 1, 1, none⟩ (.string s1))) := by
  refine ⟨((Row.lay h.r1 d).other _ (by omega)).other _ (by omega), ?_, ?_⟩
  · exact ((Row.other8 h.r2 _ _ _ _ _ _ _ _ (by omega) : Row (lay wr (w.heap.size + 1) d) (w.heap.size + 1 + 1) _).set 0 (.string s0) (by simp)).set 1 (.string s1) (by simp)
  · have h1 : Below w.heap.size w (lay wr (w.heap.size + 1) d) := Below.set8 h.b (by omega) _ _ _ _ _ _ _ _
    exact (h1.setCell (p := ⟨w.heap.size + 1 + 1, 0, none⟩) (by show w.heap.size ≤ w.heap.size + 1 + 1; omega) _).setCell (p := ⟨w.heap.size + 1 + 1, 1, none⟩) (by show w.heap.size ≤ w.heap.size + 1 + 1; omega) _
theorem St.drew {w wr : World} {d : Dk} {s0 s1 : ByteArray} (h : St w wr d s0 s1) : St w wr.drew d s0 s1 := ⟨h.r0, h.r1, h.r2, h.r3, h.b.drew, h.lt⟩


set_option maxRecDepth 100000 in
set_option maxHeartbeats 4000000 in
theorem run_any (N : Nat) (hN : N ≤ 1000000) (v : Value) (l : List Ac) (w : World) (hv : ActsAt w v l) (hok : ∀ a ∈ l, a.ok) (hlen : l.length ≤ 140737488355328) :
    Calls Try.prog 28 #[(Dk.new N).val, v] w fun e w' => ∃ d s0 s1, e = .returned (.tuple #[d.val, .agg #[.string s0, .string s1]]) ∧ Dk.Inv N d s0 s1 ∧ Below w.heap.size w w' := by
  obtain ⟨a, cap, rfl, hc⟩ := hv.form
  have HC := Lib.hid hc; clear hc hv
  have HOK := Lib.hid hok; clear hok
  have HI := Lib.hid (Dk.Inv.new N)
  generalize Dk.new N = z at HI ⊢
  have hI0 := HI.out; clear HI
  have HI := Lib.hid hI0; clear hI0
  unfold Dk.val
  go_enter Try.func28, Try.ntmps28
  go_wp2_with fail
  go_loopw [7] (fun v7 wr => ∃ (i : Nat) (d : Dk) (s0 s1 : ByteArray), i ≤ l.length ∧ v7 = .int .i64 i ∧ Dk.Inv N d s0 s1 ∧ St w wr d s0 s1) (fun v7 _ => l.length - (intOf v7).toNat)
  case atStart =>
    refine ⟨0, z, ⟨#[]⟩, ⟨#[]⟩, Nat.zero_le _, rfl, HI.out, ?_, ?_, ?_, ?_, ?_, ?_⟩
    · exact Row.alloc (Row.alloc (Row.alloc (Row.at rfl rfl) (by simp) _) (by simp <;> omega) _) (by simp <;> omega) _
    · exact Row.alloc (Row.alloc (Row.at (by simp) rfl) (by simp) _) (by simp <;> omega) _
    · exact Row.alloc (Row.at (by simp) rfl) (by simp) _
    · exact Row.at (by simp) rfl
    · go_grown
    · simp
  case round =>
    clear HI
    obtain ⟨i, d, s0, s1, hi, rfl, hI, hS⟩ := hrel
    obtain ⟨c0, c1, c2, c3, c4, c5, c6, c7, f0, f1, f2, f3, f4, f5, f6, f7⟩ := Row.eight hS.r0
    have hs := hS.lt
    have HI := Lib.hid hI; clear hI
    have HS := Lib.hid hS; clear hS
    by_cases hlt : i < l.length
    case pos =>
      have hlt' : (i : Int) < (l.length : Int) := by omega
      have h0' : (0 : Int) ≤ (i : Int) := by omega
      cases hdn : d.down with
      | true =>
        rw [hdn] at c5
        clear HC
        obtain ⟨d0, d1, d2, d3, d4, d5, d6, d7, g0, g1, g2, g3, g4, g5, g6, g7⟩ := Row.eight HS.out.r1
        obtain ⟨k0, k1, l0, l1⟩ := HS.out.r2.two
        obtain ⟨m0, m1, _, _⟩ := HS.out.r3.two
        go_upto_region 20 with fail
        go_region
        all_goals
          obtain ⟨hL0, hL1, hLB⟩ := st_last HS.out
          unfold lay set8 at hL0 hL1 hLB
          try rw [hdn] at hL0 hL1 hLB
          try rw [hdn] at hL1
          try rw [hdn] at hLB
          generalize World.setCell _ _ _ = wq at hL0 hL1 hLB ⊢
          have hE := hL0.drew.eight
          have hQ := hL1.drew.two
          unfold Dk.cells at hL0
          obtain ⟨e0, e1, e2, e3, e4, e5, e6, e7, _, _, _, _, _, _, _, _⟩ := hE
          obtain ⟨q0, q1, _, _⟩ := hQ
          have HL := Lib.hid hLB.drew
          clear hL0 hL1 hLB d0 d1 d2 d3 d4 d5 d6 d7 g0 g1 g2 g3 g4 g5 g6 g7 c0 c1 c2 c3 c4 c5 c6 c7 f0 f1 f2 f3 f4 f5 f6 f7 k0 k1 l0 l1 m0 m1 HS
          generalize World.drew _ = wz at e0 e1 e2 e3 e4 e5 e6 e7 q0 q1 HL ⊢
          go_wp2_with fail
          refine bodyPost_ret (by simp [results, Try.results28, go_sem, e0, e1, e2, e3, e4, e5, e6, e7, q0, q1]; try rfl) rfl ?_
          exact ⟨d, s0, s1, by rw [hdn], HI.out, HL.out⟩
      | false =>
        rw [hdn] at c5
        obtain ⟨g, off, rfl, hact⟩ := HC.out i hlt
        have hgw := hact.lt
        have hact' := hact.below HS.out.b hgw
        have hokA := HOK.out _ (List.getElem_mem hlt)
        obtain ⟨hk, hfb, hss, hn⟩ := hokA
        generalize l[i] = a at hact hact' hk hfb hss hn
        have HA0 := Lib.hid hact
        clear hact
        have hgr := hact'.lt
        obtain ⟨a0, a1, a2, a3⟩ := hact'
        go_upto_region 8 with fail
        obtain ⟨F, hF⟩ : ∃ F, (a.f : Int) % 2 = F := ⟨_, rfl⟩
        have hF2 : F = 0 ∨ F = 1 := by omega
        obtain ⟨q, hq⟩ : ∃ q, (a.kind : Int) % 4 = q := ⟨_, rfl⟩
        have hq4 : q = 0 ∨ q = 1 ∨ q = 2 ∨ q = 3 := by omega
        rw [hF, hq]
        clear hq hF
        obtain ⟨p, hp⟩ : ∃ p, off + i * 4 = p := ⟨_, rfl⟩
        rw [hp] at a0 a1 a2 a3
        have hA : ActAt w g p a := by rw [← hp]; exact HA0.out
        have HA := Lib.hid hA; clear hA HA0
        have hu : d.used ≤ 1000000 := Nat.le_trans HI.out.used hN
        have hsz : d.size < 9223372036854775808 := by have := HI.out.size; omega
        have hfu := HI.out.fuse
        rcases hq4 with rfl | rfl | rfl | rfl
        · have HW := fun w => write_any d F a.s w (by omega) hfu hsz
          have HI2 := Lib.hid (HI.out.write F a.s)
          generalize d.write F a.s = r at HW HI2
          unfold Dk.val at HW
          rw [hdn] at HW
          have HW := Lib.hid HW
          go_upto_region 9 with fail
          go_region_with ((first | (go_at_call 10; ((with_reducible refine (HW.out _).mono ?_); rintro e w1 ⟨rfl, hb1⟩); have hS1 := HS.out.below (below_of_drew hb1); obtain ⟨d0, d1, d2, d3, d4, d5, d6, d7, g0, g1, g2, g3, g4, g5, g6, g7⟩ := Row.eight hS1.r0)))
          all_goals
            have hS2 := hS1.lay r.1
            unfold lay set8 at hS2
            generalize World.setCell _ _ _ = wz at hS2 ⊢
            clear hS1 d0 d1 d2 d3 d4 d5 d6 d7 g0 g1 g2 g3 g4 g5 g6 g7 c0 c1 c2 c3 c4 c5 c6 c7 f0 f1 f2 f3 f4 f5 f6 f7 a0 a1 a2 a3 hb1 HS
            have HS2 := Lib.hid hS2; clear hS2
            go_wp2_with fail
            go_roundw
            case rel => exact ⟨i + 1, r.1, s0, s1, by omega, by go_num, HI2.out, HS2.out⟩
            case measure => simp [intOf]; omega
        · have HW := fun w => sync_any d F w (by omega) hfu
          have HI2 := Lib.hid (HI.out.sync F hF2)
          generalize d.sync F = r at HW HI2
          obtain ⟨rd, re⟩ := r
          unfold Dk.val at HW
          rw [hdn] at HW
          have HW := Lib.hid HW
          go_wp2_with fail
          refine (HW.out _).mono ?_
          rintro e w1 ⟨rfl, hb1⟩
          have hS1 := HS.out.below hb1
          obtain ⟨d0, d1, d2, d3, d4, d5, d6, d7, g0, g1, g2, g3, g4, g5, g6, g7⟩ := Row.eight hS1.r0
          go_upto_region 12 with fail
          have hS2 := hS1.lay rd
          unfold lay set8 at hS2
          generalize World.setCell _ _ _ = wz at hS2 ⊢
          clear hS1 d0 d1 d2 d3 d4 d5 d6 d7 g0 g1 g2 g3 g4 g5 g6 g7 c0 c1 c2 c3 c4 c5 c6 c7 f0 f1 f2 f3 f4 f5 f6 f7 a0 a1 a2 a3 hb1 HS
          have HS2 := Lib.hid hS2; clear hS2
          by_cases hre : re = 0
          · subst hre
            have hI2 := HI2.out.1 rfl
            have HR := Lib.hid (fun w => read_any rd F w (by have := hI2.used; omega))
            have HI3 := Lib.hid hI2; clear hI2
            unfold Dk.val at HR
            obtain ⟨c0, c1, c2, c3, c4, c5, c6, c7, f0, f1, f2, f3, f4, f5, f6, f7⟩ := Row.eight HS2.out.r0
            rcases hF2 with rfl | rfl
            · go_wp2_with fail
              refine (HR.out _).mono ?_
              rintro e w2 ⟨rfl, hb2⟩
              have hS3 := HS2.out.below hb2
              obtain ⟨m0, m1, n0, n1⟩ := hS3.r3.two
              have HS4 := Lib.hid (hS3.safe0 (rd.read 0))
              clear hS3 hb2 c0 c1 c2 c3 c4 c5 c6 c7 f0 f1 f2 f3 f4 f5 f6 f7
              go_wp2_with fail
              go_roundw
              case rel => exact ⟨i + 1, rd, rd.read 0, s1, by omega, by go_num, HI3.out, HS4.out⟩
              case measure => simp [intOf]; omega
            · go_wp2_with fail
              refine (HR.out _).mono ?_
              rintro e w2 ⟨rfl, hb2⟩
              have hS3 := HS2.out.below hb2
              obtain ⟨m0, m1, n0, n1⟩ := hS3.r3.two
              have HS4 := Lib.hid (hS3.safe1 (rd.read 1))
              clear hS3 hb2 c0 c1 c2 c3 c4 c5 c6 c7 f0 f1 f2 f3 f4 f5 f6 f7
              go_wp2_with fail
              go_roundw
              case rel => exact ⟨i + 1, rd, s0, rd.read 1, by omega, by go_num, HI3.out, HS4.out⟩
              case measure => simp [intOf]; omega
          · have hre' : (re == 0) = false := by simpa using hre
            have HI3 := Lib.hid (HI2.out.2 hre)
            go_wp2_with fail
            go_roundw
            case rel => exact ⟨i + 1, rd, s0, s1, by omega, by go_num, HI3.out, HS2.out⟩
            case measure => simp [intOf]; omega
        · have HW := fun w => cut_any d F a.n w (by omega) hfu hn
          have HI2 := Lib.hid (HI.out.cut F a.n)
          generalize d.cut F a.n = r at HW HI2
          obtain ⟨rd, re⟩ := r
          unfold Dk.val at HW
          rw [hdn] at HW
          have HW := Lib.hid HW
          go_upto_region 15 with fail
          go_region_with ((first | (go_at_call 14; ((with_reducible refine (HW.out _).mono ?_); rintro e w1 ⟨rfl, hb1⟩); have hS1 := HS.out.below (below_of_drew hb1); obtain ⟨d0, d1, d2, d3, d4, d5, d6, d7, g0, g1, g2, g3, g4, g5, g6, g7⟩ := Row.eight hS1.r0)))
          all_goals
            have hS2 := hS1.lay rd
            unfold lay set8 at hS2
            generalize World.setCell _ _ _ = wz at hS2 ⊢
            clear hS1 d0 d1 d2 d3 d4 d5 d6 d7 g0 g1 g2 g3 g4 g5 g6 g7 c0 c1 c2 c3 c4 c5 c6 c7 f0 f1 f2 f3 f4 f5 f6 f7 a0 a1 a2 a3 hb1 HS
            obtain ⟨a0, a1, a2, a3⟩ := HA.out.below hS2.b hgw
            have hgr := Nat.lt_of_lt_of_le hgw hS2.b.size
            obtain ⟨m0, m1, n0, n1⟩ := hS2.r3.two
            have HS2 := Lib.hid hS2; clear hS2
            have hcase : a.n < 0 ∨ ∃ mm : Nat, a.n = (mm : Int) ∧ (0 : Int) ≤ (mm : Int) := by
              by_cases h : a.n < 0
              · exact .inl h
              · obtain ⟨mm, hmm⟩ := Int.eq_ofNat_of_zero_le (show 0 ≤ a.n by omega)
                exact .inr ⟨mm, hmm, by omega⟩
            by_cases hre : re = 0
            · subst hre
              have hI2 := HI2.out.1 rfl
              have HI3 := Lib.hid hI2; clear hI2
              rcases hF2 with rfl | rfl
              · obtain ⟨Y, hY⟩ : ∃ Y, s0.extract 0 a.n.toNat = Y := ⟨_, rfl⟩
                have hI4 : Dk.Inv N rd (s0.extract 0 a.n.toNat) s1 := HI3.out
                rw [hY] at hI4
                have HI4 := Lib.hid hI4; clear hI4 HI3
                have HS4 := Lib.hid (HS2.out.drew.safe0 Y)
                have hp0 : ¬ ((s0.size : Int) < 0) := by omega
                rcases hcase with hneg | ⟨mm, hmm, hm0⟩
                · have hYY : (⟨#[]⟩ : ByteArray) = Y := by rw [← hY, Int.toNat_of_nonpos (by omega)]; exact (extract_none _).symm
                  subst hYY
                  clear hY
                  go_upto_region 17 with fail
                  go_region
                  all_goals
                    go_wp2_with fail
                    go_roundw
                    case rel => exact ⟨i + 1, rd, ⟨#[]⟩, s1, by omega, by go_num, HI4.out, HS4.out⟩
                    case measure => simp [intOf]; omega
                · rw [hmm] at a3
                  rw [hmm, Int.toNat_natCast] at hY
                  by_cases hbig : (s0.size : Int) < (mm : Int)
                  · have hYY : s0 = Y := by rw [← hY]; exact (extract_all _ _ (by omega)).symm
                    subst hYY
                    clear hY
                    go_upto_region 17 with fail
                    go_region
                    all_goals
                      go_wp2_with fail
                      go_roundw
                      case rel => exact ⟨i + 1, rd, s0, s1, by omega, by go_num, HI4.out, HS4.out⟩
                      case measure => simp [intOf]; omega
                  · have hle : (mm : Int) ≤ (s0.size : Int) := by omega
                    subst hY
                    go_upto_region 17 with fail
                    go_region
                    all_goals
                      go_wp2_with fail
                      go_roundw
                      case rel => exact ⟨i + 1, rd, (s0.extract 0 mm), s1, by omega, by go_num, HI4.out, HS4.out⟩
                      case measure => simp [intOf]; omega
              · obtain ⟨Y, hY⟩ : ∃ Y, s1.extract 0 a.n.toNat = Y := ⟨_, rfl⟩
                have hI4 : Dk.Inv N rd s0 (s1.extract 0 a.n.toNat) := HI3.out
                rw [hY] at hI4
                have HI4 := Lib.hid hI4; clear hI4 HI3
                have HS4 := Lib.hid (HS2.out.drew.safe1 Y)
                have hp0 : ¬ ((s1.size : Int) < 0) := by omega
                rcases hcase with hneg | ⟨mm, hmm, hm0⟩
                · have hYY : (⟨#[]⟩ : ByteArray) = Y := by rw [← hY, Int.toNat_of_nonpos (by omega)]; exact (extract_none _).symm
                  subst hYY
                  clear hY
                  go_upto_region 17 with fail
                  go_region
                  all_goals
                    go_wp2_with fail
                    go_roundw
                    case rel => exact ⟨i + 1, rd, s0, ⟨#[]⟩, by omega, by go_num, HI4.out, HS4.out⟩
                    case measure => simp [intOf]; omega
                · rw [hmm] at a3
                  rw [hmm, Int.toNat_natCast] at hY
                  by_cases hbig : (s1.size : Int) < (mm : Int)
                  · have hYY : s1 = Y := by rw [← hY]; exact (extract_all _ _ (by omega)).symm
                    subst hYY
                    clear hY
                    go_upto_region 17 with fail
                    go_region
                    all_goals
                      go_wp2_with fail
                      go_roundw
                      case rel => exact ⟨i + 1, rd, s0, s1, by omega, by go_num, HI4.out, HS4.out⟩
                      case measure => simp [intOf]; omega
                  · have hle : (mm : Int) ≤ (s1.size : Int) := by omega
                    subst hY
                    go_upto_region 17 with fail
                    go_region
                    all_goals
                      go_wp2_with fail
                      go_roundw
                      case rel => exact ⟨i + 1, rd, s0, (s1.extract 0 mm), by omega, by go_num, HI4.out, HS4.out⟩
                      case measure => simp [intOf]; omega
            · have hre' : (re == 0) = false := by simpa using hre
              have HI3 := Lib.hid (HI2.out.2 hre)
              go_wp2_with fail
              go_roundw
              case rel => exact ⟨i + 1, rd, s0, s1, by omega, by go_num, HI3.out, HS2.out⟩
              case measure => simp [intOf]; omega
        · have hwr : IntKind.i64.wrap (a.f : Int) = (a.f : Int) := by rw [IntKind.wrap_i64]; omega
          have HW := fun w => arm_any d a.n a.f w
          have HI2 := Lib.hid (HI.out.arm a.n a.f hn)
          generalize d.arm a.n a.f = rd at HW HI2
          unfold Dk.val at HW
          rw [hdn] at HW
          have HW := Lib.hid HW
          go_upto_region 19 with fail
          go_region_with ((first | (go_at_call 18; ((with_reducible refine (HW.out _).mono ?_); rintro e w1 ⟨rfl, hb1⟩); have hS1 := HS.out.below (below_of_drew hb1); obtain ⟨d0, d1, d2, d3, d4, d5, d6, d7, g0, g1, g2, g3, g4, g5, g6, g7⟩ := Row.eight hS1.r0)))
          all_goals
            have hS2 := hS1.lay rd
            unfold lay set8 at hS2
            generalize World.setCell _ _ _ = wz at hS2 ⊢
            clear hS1 d0 d1 d2 d3 d4 d5 d6 d7 g0 g1 g2 g3 g4 g5 g6 g7 c0 c1 c2 c3 c4 c5 c6 c7 f0 f1 f2 f3 f4 f5 f6 f7 a0 a1 a2 a3 hb1 HS
            have HS2 := Lib.hid hS2; clear hS2
            go_wp2_with fail
            go_roundw
            case rel => exact ⟨i + 1, rd, s0, s1, by omega, by go_num, HI2.out, HS2.out⟩
            case measure => simp [intOf]; omega
    case neg =>
      clear HC
      obtain ⟨d0, d1, d2, d3, d4, d5, d6, d7, g0, g1, g2, g3, g4, g5, g6, g7⟩ := Row.eight HS.out.r1
      obtain ⟨k0, k1, l0, l1⟩ := HS.out.r2.two
      obtain ⟨m0, m1, _, _⟩ := HS.out.r3.two
      go_upto_region 20 with fail
      go_region
      all_goals
        obtain ⟨hL0, hL1, hLB⟩ := st_last HS.out
        unfold lay set8 at hL0 hL1 hLB
        generalize World.setCell _ _ _ = wq at hL0 hL1 hLB ⊢
        have hE := hL0.drew.eight
        have hQ := hL1.drew.two
        unfold Dk.cells at hL0
        obtain ⟨e0, e1, e2, e3, e4, e5, e6, e7, _, _, _, _, _, _, _, _⟩ := hE
        obtain ⟨q0, q1, _, _⟩ := hQ
        have HL := Lib.hid hLB.drew
        clear hL0 hL1 hLB d0 d1 d2 d3 d4 d5 d6 d7 g0 g1 g2 g3 g4 g5 g6 g7 c0 c1 c2 c3 c4 c5 c6 c7 f0 f1 f2 f3 f4 f5 f6 f7 k0 k1 l0 l1 m0 m1 HS
        generalize World.drew _ = wz at e0 e1 e2 e3 e4 e5 e6 e7 q0 q1 HL ⊢
        go_wp2_with fail
        refine bodyPost_ret (by simp [results, Try.results28, go_sem, e0, e1, e2, e3, e4, e5, e6, e7, q0, q1]; try rfl) rfl ?_
        exact ⟨d, s0, s1, rfl, HI.out, HL.out⟩

end Go.Proofs.Ytpghhobbppkggaa
