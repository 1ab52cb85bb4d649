/- The walk of DiskRoom. -/
import Derived.Test.YtpghhobbppkggaaDkRun
import Derived.Test.YtpghhobbppkggaaDkEx
namespace Go.Proofs.Ytpghhobbppkggaa
open Go.RowKit

theorem full_iff {N : Nat} {d : Dk} (h : d.size = (N : Int)) (s : ByteArray) : d.full s = decide ((N : Int) < (d.used : Int) + (s.size : Int)) := by
  unfold Dk.full
  rw [h]
  by_cases h1 : (N : Int) < (d.used : Int) + (s.size : Int)
  · by_cases h2 : (N : Int) < (s.size : Int)
    · simp [h1, h2]
    · have h3 : (N : Int) - (s.size : Int) < (d.used : Int) := by omega
      simp [h1, h3]
  · have h2 : ¬ (N : Int) < (s.size : Int) := by omega
    have h3 : ¬ (N : Int) - (s.size : Int) < (d.used : Int) := by omega
    simp [h1, h2, h3]

/-- two files are the same as themselves -/
theorem eq_files (a b c d : ByteArray) (w : World) : (Op.equalIn 9999 24 (.agg #[.string a, .string b, .string c, .string d]) (.agg #[.string a, .string b, .string c, .string d])).run Try.prog w = .ok true w := by
  unfold Op.equalIn
  simp [go_sem, List.range', List.forIn_cons, List.forIn_nil]

theorem deed_err (d : Dk) (f : Int) (torn : Bool) (g : ByteArray × ByteArray → ByteArray × ByteArray) (hf : f = 0 ∨ f = 1) : ((d.deed f torn g).2 == 9) = false := by
  unfold Dk.deed
  rw [if_neg (not_not_intro hf)]
  split
  · rfl
  · split <;> rfl

theorem write_down {d : Dk} (hd : d.down = true) (f : Int) (s : ByteArray) (hf : f = 0 ∨ f = 1) : d.write f s = (d, 12) := by
  unfold Dk.write
  rw [if_neg (by simp [hd])]
  unfold Dk.deed
  rw [if_neg (not_not_intro hf), if_pos hd]

theorem write_full {d : Dk} (hd : d.down = false) (f : Int) (s : ByteArray) (hf : f = 0 ∨ f = 1) (h : d.full s = true) : d.write f s = (d, 9) := by
  unfold Dk.write
  rw [if_pos (by rcases hf with rfl | rfl <;> simp [hd, h])]

theorem write_room {d : Dk} (f : Int) (s : ByteArray) (hf : f = 0 ∨ f = 1) (h : d.full s = false) : ((d.write f s).2 == 9) = false := by
  unfold Dk.write
  rw [if_neg (by simp [h])]
  exact deed_err d f true _ hf

set_option maxRecDepth 100000 in
set_option maxHeartbeats 4000000 in
theorem DiskRoom_core (v : Value) (l : List Ac) (n : Nat) (s : ByteArray) (w : World) (hv : ActsAt w v l) (hok : ∀ a ∈ l, a.ok) (hlen : l.length ≤ 140737488355328) (_hn : n < 256) (_hs : s.size ≤ 140737488351232) :
    Calls Try.prog 5 #[v, .int .u8 (n : Int), .string s] w fun e w' => e = .returned (.bool true) ∧ Below w.heap.size w w' := by
  have HRUN := Lib.hid (fun w' (h : ActsAt w' v l) => run_any n (by omega) v l w' h hok hlen)
  have HV := Lib.hid hv; clear hv hok hlen
  have hwr : IntKind.i64.wrap (n : Int) = (n : Int) := by rw [IntKind.wrap_i64]; omega
  go_enter Try.func5, Try.ntmps5
  go_wp2_with fail
  refine (examples_any _).mono ?_
  rintro e w1 ⟨rfl, hb1⟩
  go_wp2_with fail
  refine (new_any _ _).mono ?_
  rintro e w2 ⟨rfl, hb2⟩
  go_wp2_with fail
  refine (HRUN.out _ (HV.out.below (below4 hb1 hb2))).mono ?_
  rintro e w3 ⟨d, s0, s1, rfl, hI, hb3⟩
  have hb := below4 hb1 (below4 hb2 hb3)
  clear hb1 hb2 hb3 HRUN HV
  have hu : d.used ≤ n := hI.used
  have hsz : d.size < 9223372036854775808 := by have := hI.size; omega
  have HU := Lib.hid (fun w => used_any d w (by omega))
  have HW := Lib.hid (fun w => write_any d 0 s w (by omega) hI.fuse hsz)
  obtain ⟨fl, hfl⟩ : ∃ fl, d.full s = fl := ⟨_, rfl⟩
  have hfl2 := full_iff hI.size s
  rw [hfl] at hfl2
  obtain ⟨r, hr⟩ : ∃ r, d.write 0 s = r := ⟨_, rfl⟩
  rw [hr] at HW
  have hdown := fun h => (write_down (d := d) h 0 s (.inl rfl)).symm.trans hr
  have hfull := fun h h' => (write_full (d := d) h 0 s (.inl rfl) h').symm.trans hr
  have hroom := fun h' => write_room (d := d) 0 s (.inl rfl) h'
  rw [hr] at hroom
  rw [hfl] at hfull hroom
  clear hr hfl hI
  generalize d.used = us at *
  obtain ⟨size, h0, t0, h1, t1, down, fuse, keep⟩ := d
  unfold Dk.val at HU HW ⊢
  simp only at HU HW hdown hfull ⊢
  have HB := Lib.hid hb; clear hb
  have HD := Lib.hid hdown; clear hdown
  have HF := Lib.hid hfull; clear hfull
  have HO := Lib.hid hroom; clear hroom
  have HFL := Lib.hid hfl2; clear hfl2 hsz
  obtain ⟨g, hg⟩ : ∃ g, w3.heap.size = g := ⟨_, rfl⟩
  go_wp2_with fail
  refine (HU.out _).mono ?_
  rintro e w4 ⟨rfl, hb4⟩
  have R := Row.below (Row.alloc (Row.at hg rfl : Row _ g (Dk.mk size h0 t0 h1 t1 down fuse keep).cells) (by simp; omega) _) hb4 (by simp; omega)
  have hB : Below w.heap.size w w4 := by
    refine Below.trans ?_ (hb4.mono (by have := HB.out.size; simp; omega))
    exact (HB.out.alloc HB.out.size _).alloc (by have := HB.out.size; simp; omega) _
  clear HB hb4
  obtain ⟨c0, c1, c2, c3, c4, c5, c6, c7, _, _, _, _, _, _, _, _⟩ := Row.eight R
  have HR := Lib.hid R; clear R
  have HB := Lib.hid hB; clear hB
  go_wp2_with fail
  refine (HW.out _).mono ?_
  rintro e w5 ⟨rfl, hb5⟩
  have R := Row.below HR.out hb5 (World.block_lt_of_cell? w4 _ c0)
  have hB := HB.out.trans (hb5.mono HB.out.size)
  clear HB hb5 HR c0 c1 c2 c3 c4 c5 c6 c7
  obtain ⟨c0, c1, c2, c3, c4, c5, c6, c7, _, _, _, _, _, _, _, _⟩ := Row.eight R
  have HR := Lib.hid R; clear R
  have HB := Lib.hid hB; clear hB
  obtain ⟨g2, hg2⟩ : ∃ g, w5.heap.size = g := ⟨_, rfl⟩
  have hgl : g < g2 := by rw [← hg2]; exact World.block_lt_of_cell? w5 _ c0
  go_wp2_with fail
  refine (HU.out _).mono ?_
  rintro e w6 ⟨rfl, hb6⟩
  have R := Row.below (Row.alloc HR.out (by omega) _) hb6 (by simp; omega)
  have R2 := Row.below (Row.at hg2 rfl : Row _ g2 r.1.cells) hb6 (by simp; omega)
  have hB : Below w.heap.size w w6 := (HB.out.alloc HB.out.size _).trans (hb6.mono (by have := HB.out.size; simp; omega))
  clear HB hb6 HR c0 c1 c2 c3 c4 c5 c6 c7
  obtain ⟨c0, c1, c2, c3, c4, c5, c6, c7, _, _, _, _, _, _, _, _⟩ := Row.eight R
  obtain ⟨d0, d1, d2, d3, d4, d5, d6, d7, _, _, _, _, _, _, _, _⟩ := Row.eight R2
  clear R R2
  have HB := Lib.hid hB; clear hB
  go_upto_region 9 with fail
  rw [← HFL.out]
  clear HFL HU HW
  cases down
  · cases fl
    · have ho := HO.out rfl
      clear HD HF HO
      go_wp2_with fail
      go_ret
      exact ⟨rfl, HB.out⟩
    · have hr := HF.out rfl rfl
      clear HD HF HO
      subst hr
      simp only at d0 d1 d2 d3 d4 d5 d6 d7
      have heq := fun w => eq_files h0 t0 h1 t1 w
      go_wp2_with fail
      go_ret
      exact ⟨rfl, HB.out⟩
  · have hr := HD.out rfl
    clear HD HF HO
    subst hr
    simp only at d0 d1 d2 d3 d4 d5 d6 d7
    have heq := fun w => eq_files h0 t0 h1 t1 w
    go_wp2_with fail
    go_ret
    exact ⟨rfl, HB.out⟩

theorem DiskRoom_walk (v : Value) (l : List Ac) (n : Int) (s : ByteArray) (w : World) (hv : ActsAt w v l) (hok : ∀ a ∈ l, a.ok) (hlen : l.length ≤ 140737488355328) (wn : (Lit.int .u8 n).wf = true) (hs : s.size ≤ 140737488351232) :
    Calls Try.prog 5 #[v, .int .u8 n, .string s] w fun e w' => e = .returned (.bool true) ∧ Below w.heap.size w w' := by
  have h1 := bounds_u8 wn
  obtain ⟨m, rfl⟩ := Int.eq_ofNat_of_zero_le h1.1
  exact DiskRoom_core v l m s w hv hok hlen (by omega) hs

end Go.Proofs.Ytpghhobbppkggaa
