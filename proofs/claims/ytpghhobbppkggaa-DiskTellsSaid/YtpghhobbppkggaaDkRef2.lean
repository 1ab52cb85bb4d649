/- The walks of the document's own burnt, Write, Sync and Cut: each gives what the code gives. -/
import Derived.Test.YtpghhobbppkggaaDkRefCrash
import Derived.Test.YtpghhobbppkggaaDkRoom
import Derived.Test.YtpghhobbppkggaaDkReads
import Derived.Test.YtpghhobbppkggaaDkFuse
import Derived.Lib.MinMax
import Derived.Deep.DeepCutAuto
namespace Go.Proofs.Ytpghhobbppkggaa
open Go.RowKit

/-- a disk behind a deed, as its fuse says -/
def Dk.burnt (d b c : Dk) : Dk × Int := if d.fuse = 0 then (c.crash d.keep, 12) else ({ b with fuse := if 0 < d.fuse then d.fuse - 1 else d.fuse }, 0)

set_option maxHeartbeats 1000000 in
theorem burnt_any (d b c : Dk) (w : World) (hz : c.used ≤ 9007199254740992) (hbf : b.fuse = d.fuse) (wf : d.fuse < 9223372036854775808) :
    Calls Try.prog 33 #[d.val, b.val, c.val] w fun e w' => e = .returned (.tuple #[(d.burnt b c).1.val, .int .i64 (d.burnt b c).2]) ∧ Below w.heap.size w w' := by
  obtain ⟨r, hr⟩ : ∃ r, d.burnt b c = r := ⟨_, rfl⟩
  rw [hr]
  unfold Dk.burnt at hr
  have HCR := fun w => rcrash_any c d.keep w hz
  obtain ⟨size, h0, s0, h1, s1, down, fuse, keep⟩ := d
  obtain ⟨bsize, bh0, bs0, bh1, bs1, bdown, bfuse, bkeep⟩ := b
  simp only at hbf wf hr HCR
  subst hbf
  generalize c.crash keep = C at HCR hr
  unfold Dk.val at HCR ⊢
  have HC := Lib.hid HCR; clear HCR
  by_cases hfu : bfuse = 0
  · subst hfu
    have HR := Lib.hid hr; clear hr
    go_enter Try.func33, Try.ntmps33
    go_wp2_with fail
    refine (HC.out _).mono ?_
    rintro e w4 ⟨rfl, hb4⟩
    have R1 : Row w4 (w.heap.size + 1 + 1 + 1) Dk.zero.cells := Row.below (Row.at (by simp) rfl) hb4 (by simp)
    have hB : Below w.heap.size w w4 := by
      refine Below.trans ?_ (hb4.mono (by simp; omega))
      go_grown
    clear hb4
    have HR1 := Lib.hid R1; clear R1
    have HB := Lib.hid hB; clear hB
    obtain ⟨d0, d1, d2, d3, d4, d5, d6, d7, g0, g1, g2, g3, g4, g5, g6, g7⟩ := Row.eight HR1.out
    go_wp2_with fail
    obtain ⟨e0, e1, e2, e3, e4, e5, e6, e7, _, _, _, _, _, _, _, _⟩ := Row.eight (HR1.out.lay C)
    have hBe := Below.set8 HB.out (b := w.heap.size + 1 + 1 + 1) (by omega) (.int .i64 C.size) (.string C.h0) (.string C.s0) (.string C.h1) (.string C.s1) (.bool C.down) (.int .i64 C.fuse) (.int .i64 C.keep)
    unfold set8 at hBe
    unfold lay set8 at e0 e1 e2 e3 e4 e5 e6 e7
    try simp only at e0 e1 e2 e3 e4 e5 e6 e7 hBe
    generalize World.setCell _ _ _ = wz at e0 e1 e2 e3 e4 e5 e6 e7 hBe ⊢
    refine bodyPost_ret (by simp [results, Try.results33, go_sem, e0, e1, e2, e3, e4, e5, e6, e7]; try rfl) rfl ?_
    exact ⟨by rw [← HR.out]; rfl, hBe⟩
  · by_cases hp : 0 < bfuse
    · have HR := Lib.hid (show ((⟨bsize, bh0, bs0, bh1, bs1, bdown, bfuse - 1, bkeep⟩ : Dk), (0 : Int)) = r by rw [← hr, if_neg hfu, if_pos hp]); clear hr
      go_enter Try.func33, Try.ntmps33
      go_wp2_with fail
      go_returns
      exact ⟨by rw [← HR.out], by go_grown⟩
    · have HR := Lib.hid (show ((⟨bsize, bh0, bs0, bh1, bs1, bdown, bfuse, bkeep⟩ : Dk), (0 : Int)) = r by rw [← hr, if_neg hfu, if_neg hp]); clear hr
      go_enter Try.func33, Try.ntmps33
      go_wp2_with fail
      go_returns
      exact ⟨by rw [← HR.out], by go_grown⟩

theorem deed_arg {d : Dk} (f : Int) (torn : Bool) (g : ByteArray × ByteArray → ByteArray × ByteArray) (hf : ¬ (f = 0 ∨ f = 1)) : d.deed f torn g = (d, 1) := by
  unfold Dk.deed; rw [if_pos hf]
theorem deed_burnt {d : Dk} (hd : d.down = false) (f : Int) (torn : Bool) (g : ByteArray × ByteArray → ByteArray × ByteArray) (hf : f = 0 ∨ f = 1) :
    d.deed f torn g = d.burnt (d.set f (g (d.file f))) (if torn then d.set f (g (d.file f)) else d) := by
  unfold Dk.deed Dk.burnt
  rw [if_neg (not_not_intro hf), hd]
  simp only [Bool.false_eq_true, if_false]
theorem deed_down' {d : Dk} (hd : d.down = true) (f : Int) (torn : Bool) (g : ByteArray × ByteArray → ByteArray × ByteArray) (hf : f = 0 ∨ f = 1) : d.deed f torn g = (d, 12) := by
  unfold Dk.deed
  rw [if_neg (not_not_intro hf), if_pos hd]
theorem write_deed {d : Dk} (f : Int) (s : ByteArray) (h : d.full s = false ∨ d.down = true ∨ ¬ (f = 0 ∨ f = 1)) : d.write f s = d.deed f true (fun x => (x.1, x.2 ++ s)) := by
  unfold Dk.write
  rw [if_neg]
  rcases h with h | h | h
  · simp [h]
  · simp [h]
  · have : (f == 0 || f == 1) = false := by simpa using h
    simp [this]
theorem refused_arg {d : Dk} {f : Int} (hf : ¬ (f = 0 ∨ f = 1)) : d.refused f = 1 := by unfold Dk.refused; rw [if_pos hf]
theorem refused_down {d : Dk} {f : Int} (hf : f = 0 ∨ f = 1) (hd : d.down = true) : d.refused f = 12 := by unfold Dk.refused; rw [if_neg (not_not_intro hf), if_pos hd]
theorem refused_up {d : Dk} {f : Int} (hf : f = 0 ∨ f = 1) (hd : d.down = false) : d.refused f = 0 := by unfold Dk.refused; rw [if_neg (not_not_intro hf), if_neg (by simp [hd])]

/-- the two variables of a deed: the disk, what is handed back -/
structure Tw (w x : World) (d : Dk) : Prop where
  r0 : Row x w.heap.size d.cells
  r1 : Row x (w.heap.size + 1) Dk.zero.cells
  b : Below w.heap.size w x
  lt : w.heap.size + 1 < x.heap.size
theorem Tw.below {w x y : World} {d : Dk} (h : Tw w x d) (hb : Below x.heap.size x y) : Tw w y d :=
  ⟨h.r0.below hb (by have := h.lt; omega), h.r1.below hb h.lt, h.b.trans (hb.mono h.b.size), Nat.lt_of_lt_of_le h.lt hb.size⟩
theorem Tw.drew {w x : World} {d : Dk} (h : Tw w x d) : Tw w x.drew d := ⟨h.r0, h.r1, h.b.drew, h.lt⟩
theorem Tw.start (w : World) (d : Dk) : Tw w ((w.alloc (.cells d.cells.toArray 31)).alloc (.cells Dk.zero.cells.toArray 31)) d :=
  ⟨Row.alloc (Row.at rfl rfl) (by simp) _, Row.at (by simp) rfl, by go_grown, by simp⟩
theorem eight_below {w w' : World} {b : Nat} {a0 a1 a2 a3 a4 a5 a6 a7 : Value} (hb : Below w.heap.size w w')
    (h : w.cell? ⟨b, 0, none⟩ = some a0 ∧ w.cell? ⟨b, 1, none⟩ = some a1 ∧ w.cell? ⟨b, 2, none⟩ = some a2 ∧ w.cell? ⟨b, 3, none⟩ = some a3 ∧ w.cell? ⟨b, 4, none⟩ = some a4 ∧ w.cell? ⟨b, 5, none⟩ = some a5 ∧ w.cell? ⟨b, 6, none⟩ = some a6 ∧ w.cell? ⟨b, 7, none⟩ = some a7) :
    w'.cell? ⟨b, 0, none⟩ = some a0 ∧ w'.cell? ⟨b, 1, none⟩ = some a1 ∧ w'.cell? ⟨b, 2, none⟩ = some a2 ∧ w'.cell? ⟨b, 3, none⟩ = some a3 ∧ w'.cell? ⟨b, 4, none⟩ = some a4 ∧ w'.cell? ⟨b, 5, none⟩ = some a5 ∧ w'.cell? ⟨b, 6, none⟩ = some a6 ∧ w'.cell? ⟨b, 7, none⟩ = some a7 := by
  obtain ⟨h0, h1, h2, h3, h4, h5, h6, h7⟩ := h
  have hl := World.block_lt_of_cell? w _ h0
  exact ⟨(hb.cell (p := ⟨b, 0, none⟩) hl).trans h0, (hb.cell (p := ⟨b, 1, none⟩) hl).trans h1, (hb.cell (p := ⟨b, 2, none⟩) hl).trans h2, (hb.cell (p := ⟨b, 3, none⟩) hl).trans h3, (hb.cell (p := ⟨b, 4, none⟩) hl).trans h4, (hb.cell (p := ⟨b, 5, none⟩) hl).trans h5, (hb.cell (p := ⟨b, 6, none⟩) hl).trans h6, (hb.cell (p := ⟨b, 7, none⟩) hl).trans h7⟩

set_option maxRecDepth 100000 in
set_option maxHeartbeats 4000000 in
theorem rwrite_any (d : Dk) (f : Int) (s : ByteArray) (w : World) (hz : d.used + s.size ≤ 4503599627370496) (wf : d.fuse < 9223372036854775808) (ws : d.size < 9223372036854775808) :
    Calls Try.prog 11 #[d.val, .int .i64 f, .string s] w fun e w' => e = .returned (.tuple #[(d.write f s).1.val, .int .i64 (d.write f s).2]) ∧ Below w.heap.size w w' := by
  have HREF := fun w => refused_any d f w
  have hU := fun w => rused_any d w (by omega)
  by_cases hf : f = 0 ∨ f = 1
  case neg =>
    rw [refused_arg hf] at HREF
    rw [show d.write f s = (d, 1) from (write_deed f s (.inr (.inr hf))).trans (deed_arg f _ _ hf)]
    clear hU
    obtain ⟨size, h0, s0, h1, s1, down, fuse, keep⟩ := d
    unfold Dk.val at HREF ⊢
    have HREF := Lib.hid HREF
    clear hz wf ws
    go_enter Try.func11, Try.ntmps11
    go_wp2_with fail
    have hT0 := Tw.start w (Dk.mk size h0 s0 h1 s1 down fuse keep)
    refine (HREF.out _).mono ?_
    rintro e x ⟨rfl, hbx⟩
    have HT := Lib.hid (hT0.below hbx); clear hT0 hbx
    obtain ⟨c0, c1, c2, c3, c4, c5, c6, c7, f0, f1, f2, f3, f4, f5, f6, f7⟩ := Row.eight HT.out.r0
    obtain ⟨d0, d1, d2, d3, d4, d5, d6, d7, g0, g1, g2, g3, g4, g5, g6, g7⟩ := Row.eight HT.out.r1
    have hlt := HT.out.lt
    go_wp2_with fail
    obtain ⟨e0, e1, e2, e3, e4, e5, e6, e7, _, _, _, _, _, _, _, _⟩ := Row.eight (HT.out.r1.lay (Dk.mk size h0 s0 h1 s1 down fuse keep))
    have hBe := Below.set8 HT.out.b (b := w.heap.size + 1) (by omega) (.int .i64 (Dk.mk size h0 s0 h1 s1 down fuse keep).size) (.string (Dk.mk size h0 s0 h1 s1 down fuse keep).h0) (.string (Dk.mk size h0 s0 h1 s1 down fuse keep).s0) (.string (Dk.mk size h0 s0 h1 s1 down fuse keep).h1) (.string (Dk.mk size h0 s0 h1 s1 down fuse keep).s1) (.bool (Dk.mk size h0 s0 h1 s1 down fuse keep).down) (.int .i64 (Dk.mk size h0 s0 h1 s1 down fuse keep).fuse) (.int .i64 (Dk.mk size h0 s0 h1 s1 down fuse keep).keep)
    unfold set8 at hBe
    unfold lay set8 at e0 e1 e2 e3 e4 e5 e6 e7
    try simp only at e0 e1 e2 e3 e4 e5 e6 e7 hBe
    generalize World.setCell _ _ _ = wz at e0 e1 e2 e3 e4 e5 e6 e7 hBe ⊢
    refine bodyPost_ret (by simp [results, Try.results11, go_sem, e0, e1, e2, e3, e4, e5, e6, e7]; try rfl) rfl ?_
    exact ⟨rfl, hBe⟩
  cases hd : d.down
  case true =>
    rw [refused_down hf hd] at HREF
    rw [show d.write f s = (d, 12) from (write_deed f s (.inr (.inl hd))).trans (deed_down' hd f _ _ hf)]
    clear hU hd hf
    obtain ⟨size, h0, s0, h1, s1, down, fuse, keep⟩ := d
    unfold Dk.val at HREF ⊢
    have HREF := Lib.hid HREF
    clear hz wf ws
    go_enter Try.func11, Try.ntmps11
    go_wp2_with fail
    have hT0 := Tw.start w (Dk.mk size h0 s0 h1 s1 down fuse keep)
    refine (HREF.out _).mono ?_
    rintro e x ⟨rfl, hbx⟩
    have HT := Lib.hid (hT0.below hbx); clear hT0 hbx
    obtain ⟨c0, c1, c2, c3, c4, c5, c6, c7, f0, f1, f2, f3, f4, f5, f6, f7⟩ := Row.eight HT.out.r0
    obtain ⟨d0, d1, d2, d3, d4, d5, d6, d7, g0, g1, g2, g3, g4, g5, g6, g7⟩ := Row.eight HT.out.r1
    have hlt := HT.out.lt
    go_wp2_with fail
    obtain ⟨e0, e1, e2, e3, e4, e5, e6, e7, _, _, _, _, _, _, _, _⟩ := Row.eight (HT.out.r1.lay (Dk.mk size h0 s0 h1 s1 down fuse keep))
    have hBe := Below.set8 HT.out.b (b := w.heap.size + 1) (by omega) (.int .i64 (Dk.mk size h0 s0 h1 s1 down fuse keep).size) (.string (Dk.mk size h0 s0 h1 s1 down fuse keep).h0) (.string (Dk.mk size h0 s0 h1 s1 down fuse keep).s0) (.string (Dk.mk size h0 s0 h1 s1 down fuse keep).h1) (.string (Dk.mk size h0 s0 h1 s1 down fuse keep).s1) (.bool (Dk.mk size h0 s0 h1 s1 down fuse keep).down) (.int .i64 (Dk.mk size h0 s0 h1 s1 down fuse keep).fuse) (.int .i64 (Dk.mk size h0 s0 h1 s1 down fuse keep).keep)
    unfold set8 at hBe
    unfold lay set8 at e0 e1 e2 e3 e4 e5 e6 e7
    try simp only at e0 e1 e2 e3 e4 e5 e6 e7 hBe
    generalize World.setCell _ _ _ = wz at e0 e1 e2 e3 e4 e5 e6 e7 hBe ⊢
    refine bodyPost_ret (by simp [results, Try.results11, go_sem, e0, e1, e2, e3, e4, e5, e6, e7]; try rfl) rfl ?_
    exact ⟨rfl, hBe⟩
  case false =>
    rw [refused_up hf hd] at HREF
    obtain ⟨fl, hfl⟩ : ∃ fl, d.full s = fl := ⟨_, rfl⟩
    have hfull := fun h => write_full hd f s hf (hfl.trans h)
    have hroom := fun h => (write_deed f s (.inl (hfl.trans h))).trans (deed_burnt hd f true (fun x => (x.1, x.2 ++ s)) hf)
    simp only [if_true] at hroom
    have hbu := fun w => burnt_any d (d.set f ((d.file f).1, (d.file f).2 ++ s)) (d.set f ((d.file f).1, (d.file f).2 ++ s)) w (by have := set_used d f ((d.file f).1, (d.file f).2 ++ s) s.size (by simp; omega); omega) (set_fuse _ _ _) wf
    obtain ⟨R, hR⟩ : ∃ R, d.write f s = R := ⟨_, rfl⟩
    rw [hR] at hfull hroom
    rw [hR]
    clear hR
    have HFULL := Lib.hid hfull; clear hfull
    have HROOM := Lib.hid hroom; clear hroom
    unfold Dk.full at hfl
    have HZ := Lib.hid (show d.h0.size + d.s0.size + d.h1.size + d.s1.size + s.size ≤ 4503599627370496 from hz)
    generalize hus : d.used = us at hfl hU hz
    obtain ⟨size, h0, s0, h1, s1, down, fuse, keep⟩ := d
    simp only at hd hfl wf ws
    subst hd
    unfold Dk.val at HREF hU hbu ⊢
    have HREF := Lib.hid HREF
    have HU := Lib.hid hU; clear hU
    have HBU0 := Lib.hid hbu; clear hbu
    have HFL := Lib.hid hfl; clear hfl
    have hc : (size < (s.size : Int) ∧ fl = true) ∨ (¬ size < (s.size : Int) ∧ size - (s.size : Int) < (us : Int) ∧ fl = true) ∨ (¬ size < (s.size : Int) ∧ ¬ size - (s.size : Int) < (us : Int) ∧ fl = false) := by
      by_cases h1 : size < (s.size : Int)
      · exact .inl ⟨h1, by rw [← HFL.out]; simp [h1]⟩
      · by_cases h2 : size - (s.size : Int) < (us : Int)
        · exact .inr (.inl ⟨h1, h2, by rw [← HFL.out]; simp [h1, h2]⟩)
        · exact .inr (.inr ⟨h1, h2, by rw [← HFL.out]; simp [h1, h2]⟩)
    clear HFL hus
    go_enter Try.func11, Try.ntmps11
    go_wp2_with fail
    have hT0 := Tw.start w (Dk.mk size h0 s0 h1 s1 false fuse keep)
    refine (HREF.out _).mono ?_
    rintro e x ⟨rfl, hbx⟩
    have HT := Lib.hid (hT0.below hbx); clear hT0 hbx
    obtain ⟨c0, c1, c2, c3, c4, c5, c6, c7, f0, f1, f2, f3, f4, f5, f6, f7⟩ := Row.eight HT.out.r0
    obtain ⟨d0, d1, d2, d3, d4, d5, d6, d7, g0, g1, g2, g3, g4, g5, g6, g7⟩ := Row.eight HT.out.r1
    have hlt := HT.out.lt
    go_upto_region 4 with fail
    have hsz0 : (0 : Int) ≤ (s.size : Int) := by omega
    clear hz
    have HWS := Lib.hid ws; clear ws
    have HWF := Lib.hid wf; clear wf
    go_cut [31] (fun q wx => q = .bool fl ∧ Tw w wx (Dk.mk size h0 s0 h1 s1 false fuse keep))
    case first =>
      rcases hc with ⟨hc, rfl⟩ | ⟨hc, hc2, rfl⟩ | ⟨hc, hc2, rfl⟩
      case inl =>
        clear HREF HBU0 HU
        go_region
        all_goals (go_wp2_with fail; go_meet; exact ⟨rfl, HT.out.drew⟩)
      case' inr.inl => have hcd : decide (size - (s.size : Int) < (us : Int)) = true := decide_eq_true (by omega)
      case' inr.inr => have hcd : decide (size - (s.size : Int) < (us : Int)) = false := decide_eq_false (by omega)
      all_goals
        have hcb : decide (size < (s.size : Int)) = false := decide_eq_false (by omega)
        have hwr : IntKind.i64.wrap (size - (s.size : Int)) = size - (s.size : Int) := by have := HWS.out; rw [IntKind.wrap_i64]; omega
        go_region_held3 (fun w' => w'.cell? ⟨w.heap.size, 0, none⟩ = some (.int .i64 size) ∧ w'.cell? ⟨w.heap.size, 1, none⟩ = some (.string h0) ∧ w'.cell? ⟨w.heap.size, 2, none⟩ = some (.string s0) ∧ w'.cell? ⟨w.heap.size, 3, none⟩ = some (.string h1) ∧ w'.cell? ⟨w.heap.size, 4, none⟩ = some (.string s1) ∧ w'.cell? ⟨w.heap.size, 5, none⟩ = some (.bool false) ∧ w'.cell? ⟨w.heap.size, 6, none⟩ = some (.int .i64 fuse) ∧ w'.cell? ⟨w.heap.size, 7, none⟩ = some (.int .i64 keep)) (first | go_keep | (exact eight_below hq (by first | assumption | (simp [go_sem, *]; done)))) ((first | (go_at_call 23; ((with_reducible refine (HU.out _).mono ?_); rintro e u ⟨rfl, hq⟩; have HTn := Lib.hid (show Tw w u (Dk.mk size h0 s0 h1 s1 false fuse keep) from by first | exact HT.out.drew.below hq | exact HT.out.below hq); clear HT; have HT := HTn; clear HTn))))
        all_goals (go_wp2_with fail; go_meet; exact ⟨by first | rfl | simp [hc2], HT.out⟩)
    case rest =>
      obtain ⟨rfl, hT⟩ := hcut
      clear hc c0 c1 c2 c3 c4 c5 c6 c7 f0 f1 f2 f3 f4 f5 f6 f7 d0 d1 d2 d3 d4 d5 d6 d7 g0 g1 g2 g3 g4 g5 g6 g7 HT HREF HU HWS HWF hlt
      have HT := Lib.hid hT
      have hlt := hT.lt
      have hlt0 : w.heap.size < wc.heap.size := by omega
      clear hT
      obtain ⟨c0, c1, c2, c3, c4, c5, c6, c7, f0, f1, f2, f3, f4, f5, f6, f7⟩ := Row.eight HT.out.r0
      obtain ⟨d0, d1, d2, d3, d4, d5, d6, d7, g0, g1, g2, g3, g4, g5, g6, g7⟩ := Row.eight HT.out.r1
      cases fl
      case true =>
        have hRR := HFULL.out rfl
        clear HFULL HROOM HBU0
        subst hRR
        go_wp2_with fail
        obtain ⟨e0, e1, e2, e3, e4, e5, e6, e7, _, _, _, _, _, _, _, _⟩ := Row.eight (HT.out.r1.lay (Dk.mk size h0 s0 h1 s1 false fuse keep))
        have hBe := Below.set8 HT.out.b (b := w.heap.size + 1) (by omega) (.int .i64 (Dk.mk size h0 s0 h1 s1 false fuse keep).size) (.string (Dk.mk size h0 s0 h1 s1 false fuse keep).h0) (.string (Dk.mk size h0 s0 h1 s1 false fuse keep).s0) (.string (Dk.mk size h0 s0 h1 s1 false fuse keep).h1) (.string (Dk.mk size h0 s0 h1 s1 false fuse keep).s1) (.bool (Dk.mk size h0 s0 h1 s1 false fuse keep).down) (.int .i64 (Dk.mk size h0 s0 h1 s1 false fuse keep).fuse) (.int .i64 (Dk.mk size h0 s0 h1 s1 false fuse keep).keep)
        unfold set8 at hBe
        unfold lay set8 at e0 e1 e2 e3 e4 e5 e6 e7
        try simp only at e0 e1 e2 e3 e4 e5 e6 e7 hBe
        generalize World.setCell _ _ _ = wz at e0 e1 e2 e3 e4 e5 e6 e7 hBe ⊢
        refine bodyPost_ret (by simp [results, Try.results11, go_sem, e0, e1, e2, e3, e4, e5, e6, e7]; try rfl) rfl ?_
        exact ⟨rfl, hBe⟩
      case false =>
        have hRR := HROOM.out rfl
        clear HFULL HROOM
        have hbu := HBU0.out
        clear HBU0
        have hz0 : s0.size + s.size ≤ 9007199254740992 := by have := HZ.out; omega
        have hz1 : s1.size + s.size ≤ 9007199254740992 := by have := HZ.out; omega
        clear HZ
        rcases hf with rfl | rfl
        · rw [← hRR] at hbu
          have HRR := Lib.hid hRR; clear hRR
          have HBU := Lib.hid (fun w => show Calls Try.prog 33 #[(Dk.mk size h0 s0 h1 s1 false fuse keep).val, (Dk.mk size h0 (s0 ++ s) h1 s1 false fuse keep).val, (Dk.mk size h0 (s0 ++ s) h1 s1 false fuse keep).val] w fun e w' => e = .returned (.tuple #[R.1.val, .int .i64 R.2]) ∧ Below w.heap.size w w' from hbu w)
          clear hbu
          unfold Dk.val at HBU
          go_wp2_with fail
          refine (HBU.out _).mono ?_
          rintro e y ⟨rfl, hby⟩
          have HT2 := Lib.hid (HT.out.below (Below.trans ((Below.refl _ _).alloc (Nat.le_refl _) _) (hby.mono (by simp)))); clear hby
          clear HT c0 c1 c2 c3 c4 c5 c6 c7 f0 f1 f2 f3 f4 f5 f6 f7 d0 d1 d2 d3 d4 d5 d6 d7 g0 g1 g2 g3 g4 g5 g6 g7
          obtain ⟨d0, d1, d2, d3, d4, d5, d6, d7, g0, g1, g2, g3, g4, g5, g6, g7⟩ := Row.eight HT2.out.r1
          go_wp2_with fail
          obtain ⟨e0, e1, e2, e3, e4, e5, e6, e7, _, _, _, _, _, _, _, _⟩ := Row.eight (HT2.out.r1.lay R.1)
          have hBe := Below.set8 HT2.out.b (b := w.heap.size + 1) (by omega) (.int .i64 R.1.size) (.string R.1.h0) (.string R.1.s0) (.string R.1.h1) (.string R.1.s1) (.bool R.1.down) (.int .i64 R.1.fuse) (.int .i64 R.1.keep)
          unfold set8 at hBe
          unfold lay set8 at e0 e1 e2 e3 e4 e5 e6 e7
          try simp only at e0 e1 e2 e3 e4 e5 e6 e7 hBe
          generalize World.setCell _ _ _ = wz at e0 e1 e2 e3 e4 e5 e6 e7 hBe ⊢
          refine bodyPost_ret (by simp [results, Try.results11, go_sem, e0, e1, e2, e3, e4, e5, e6, e7]; try rfl) rfl ?_
          exact ⟨rfl, hBe⟩
        · rw [← hRR] at hbu
          have HRR := Lib.hid hRR; clear hRR
          have HBU := Lib.hid (fun w => show Calls Try.prog 33 #[(Dk.mk size h0 s0 h1 s1 false fuse keep).val, (Dk.mk size h0 s0 h1 (s1 ++ s) false fuse keep).val, (Dk.mk size h0 s0 h1 (s1 ++ s) false fuse keep).val] w fun e w' => e = .returned (.tuple #[R.1.val, .int .i64 R.2]) ∧ Below w.heap.size w w' from hbu w)
          clear hbu
          unfold Dk.val at HBU
          go_wp2_with fail
          refine (HBU.out _).mono ?_
          rintro e y ⟨rfl, hby⟩
          have HT2 := Lib.hid (HT.out.below (Below.trans ((Below.refl _ _).alloc (Nat.le_refl _) _) (hby.mono (by simp)))); clear hby
          clear HT c0 c1 c2 c3 c4 c5 c6 c7 f0 f1 f2 f3 f4 f5 f6 f7 d0 d1 d2 d3 d4 d5 d6 d7 g0 g1 g2 g3 g4 g5 g6 g7
          obtain ⟨d0, d1, d2, d3, d4, d5, d6, d7, g0, g1, g2, g3, g4, g5, g6, g7⟩ := Row.eight HT2.out.r1
          go_wp2_with fail
          obtain ⟨e0, e1, e2, e3, e4, e5, e6, e7, _, _, _, _, _, _, _, _⟩ := Row.eight (HT2.out.r1.lay R.1)
          have hBe := Below.set8 HT2.out.b (b := w.heap.size + 1) (by omega) (.int .i64 R.1.size) (.string R.1.h0) (.string R.1.s0) (.string R.1.h1) (.string R.1.s1) (.bool R.1.down) (.int .i64 R.1.fuse) (.int .i64 R.1.keep)
          unfold set8 at hBe
          unfold lay set8 at e0 e1 e2 e3 e4 e5 e6 e7
          try simp only at e0 e1 e2 e3 e4 e5 e6 e7 hBe
          generalize World.setCell _ _ _ = wz at e0 e1 e2 e3 e4 e5 e6 e7 hBe ⊢
          refine bodyPost_ret (by simp [results, Try.results11, go_sem, e0, e1, e2, e3, e4, e5, e6, e7]; try rfl) rfl ?_
          exact ⟨rfl, hBe⟩

end Go.Proofs.Ytpghhobbppkggaa
