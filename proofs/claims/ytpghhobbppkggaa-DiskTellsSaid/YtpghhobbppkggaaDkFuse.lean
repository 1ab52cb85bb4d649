/- The plain law of DiskFuse: a disk whose fuse lets so many deeds go well. -/
import Derived.Test.YtpghhobbppkggaaDkKeeps
namespace Go.Proofs.Ytpghhobbppkggaa
open Go.RowKit

/-- a disk of which i deeds are done, with a fuse that m of them let go well -/
structure Fused (m i : Nat) (d : Dk) : Prop where
  size : d.size = 1000
  used : d.used ≤ 2 * i
  fuse : d.fuse = (m : Int) - (i : Int)
  down : d.down = decide (m < i)

theorem fused_new (m : Nat) (k : Int) : Fused m 0 ((Dk.new 1000).arm m k) := by
  refine ⟨rfl, Nat.le_refl _, ?_, ?_⟩
  · show (if (m : Int) < -1 then -1 else (m : Int)) = (m : Int) - ((0 : Nat) : Int)
    rw [if_neg (by omega)]; omega
  · show false = decide (m < 0)
    simp

theorem crash_size (d : Dk) (k : Int) : (d.crash k).size = d.size := rfl
theorem set_size (d : Dk) (f : Int) (x : ByteArray × ByteArray) : (d.set f x).size = d.size := by unfold Dk.set; split <;> rfl
theorem set_fuse (d : Dk) (f : Int) (x : ByteArray × ByteArray) : (d.set f x).fuse = d.fuse := by unfold Dk.set; split <;> rfl
theorem set_down (d : Dk) (f : Int) (x : ByteArray × ByteArray) : (d.set f x).down = d.down := by unfold Dk.set; split <;> rfl
theorem set_used (d : Dk) (f : Int) (x : ByteArray × ByteArray) (n : Nat) (h : x.1.size + x.2.size ≤ (d.file f).1.size + (d.file f).2.size + n) : (d.set f x).used ≤ d.used + n := by
  unfold Dk.set Dk.file at *
  unfold Dk.used
  split at h
  · rw [if_pos (by assumption)]; show x.1.size + x.2.size + d.h1.size + d.s1.size ≤ _
    simp only at h; omega
  · rw [if_neg (by assumption)]; show d.h0.size + d.s0.size + x.1.size + x.2.size ≤ _
    simp only at h; omega

/-- a deed, as the fuse says -/
theorem fused_deed {m i : Nat} {d : Dk} (h : Fused m i d) (hi : i ≤ m) (f : Int) (hf : f = 0 ∨ f = 1) (torn : Bool) (g : ByteArray × ByteArray → ByteArray × ByteArray)
    (hg : (g (d.file f)).1.size + (g (d.file f)).2.size ≤ (d.file f).1.size + (d.file f).2.size + 2) :
    Fused m (i + 1) (d.deed f torn g).1 ∧ (d.deed f torn g).2 = if i < m then 0 else 12 := by
  have hs := set_used d f (g (d.file f)) 2 hg
  have hu := h.used
  have hfu := h.fuse
  have hdn : d.down = false := by rw [h.down]; simp; omega
  unfold Dk.deed
  rw [if_neg (not_not_intro hf), hdn]
  simp only [Bool.false_eq_true, if_false]
  by_cases hlt : i < m
  · rw [if_neg (by omega), if_pos hlt]
    refine ⟨⟨?_, ?_, ?_, ?_⟩, rfl⟩
    · show (d.set f _).size = 1000
      rw [set_size]; exact h.size
    · show (d.set f _).used ≤ _
      omega
    · show (if 0 < d.fuse then d.fuse - 1 else d.fuse) = _
      rw [if_pos (by omega)]; omega
    · show (d.set f _).down = _
      rw [set_down, hdn]; simp; omega
  · rw [if_pos (by omega), if_neg hlt]
    refine ⟨⟨?_, ?_, ?_, ?_⟩, rfl⟩
    · rw [crash_size]
      split
      · rw [set_size]; exact h.size
      · exact h.size
    · refine Nat.le_trans (crash_used _ _) ?_
      split <;> omega
    · show (-1 : Int) = _
      omega
    · show true = _
      simp; omega

def two : ByteArray := ⟨#[97, 98]⟩
def one : ByteArray := ⟨#[99]⟩
theorem two_size : two.size = 2 := rfl
theorem one_size : one.size = 1 := rfl

theorem full_no {d : Dk} {s : ByteArray} (hs : d.size = 1000) (hu : d.used ≤ 100) (hz : s.size ≤ 2) : d.full s = false := by
  unfold Dk.full
  rw [hs]
  have h1 : ¬ (1000 : Int) < (s.size : Int) := by omega
  have h2 : ¬ (1000 : Int) - (s.size : Int) < (d.used : Int) := by omega
  simp [h1, h2]

theorem fused_write {m i : Nat} {d : Dk} (h : Fused m i d) (hi : i ≤ m) (hm : m < 20) (f : Int) (hf : f = 0 ∨ f = 1) :
    Fused m (i + 1) (d.write f two).1 ∧ (d.write f two).2 = if i < m then 0 else 12 := by
  have hu := h.used
  unfold Dk.write
  rw [if_neg (by rw [full_no h.size (by omega) (by rw [two_size]; omega)]; simp)]
  exact fused_deed h hi f hf true _ (by show (d.file f).1.size + ((d.file f).2 ++ two).size ≤ _; rw [ByteArray.size_append, two_size]; omega)
theorem fused_sync {m i : Nat} {d : Dk} (h : Fused m i d) (hi : i ≤ m) (f : Int) (hf : f = 0 ∨ f = 1) :
    Fused m (i + 1) (d.sync f).1 ∧ (d.sync f).2 = if i < m then 0 else 12 :=
  fused_deed h hi f hf false _ (by show ((d.file f).1 ++ (d.file f).2).size + (⟨#[]⟩ : ByteArray).size ≤ _; rw [ByteArray.size_append, show (⟨#[]⟩ : ByteArray).size = 0 from rfl]; omega)
theorem fused_cut {m i : Nat} {d : Dk} (h : Fused m i d) (hi : i ≤ m) (f n : Int) (hf : f = 0 ∨ f = 1) :
    Fused m (i + 1) (d.cut f n).1 ∧ (d.cut f n).2 = if i < m then 0 else 12 :=
  fused_deed h hi f hf false _ (by
    have a := Dk.ext_le (d.file f).1 n.toNat
    have b := Dk.ext_le (d.file f).2 (n.toNat - (d.file f).1.size)
    show ((d.file f).1.extract 0 n.toNat).size + ((d.file f).2.extract 0 (n.toNat - (d.file f).1.size)).size ≤ _
    omega)

theorem deed_down {d : Dk} (hd : d.down = true) (f : Int) (torn : Bool) (g : ByteArray × ByteArray → ByteArray × ByteArray) (hf : f = 0 ∨ f = 1) : d.deed f torn g = (d, 12) := by
  unfold Dk.deed
  rw [if_neg (not_not_intro hf), if_pos hd]

/-- a disk that is started again takes a text -/
theorem fused_start {m : Nat} {d : Dk} (h : Fused m (m + 1) d) (hm : m < 20) : (d.start.write 0 one).2 = 0 ∧ (d.start.write 0 one).1.fuse = -1 := by
  have hu := h.used
  have hfu : d.start.fuse = -1 := by show d.fuse = -1; rw [h.fuse]; omega
  have e : d.start.write 0 one = d.start.deed 0 true (fun x => (x.1, x.2 ++ one)) := by
    unfold Dk.write
    rw [if_neg (by rw [full_no (d := d.start) h.size (by show d.used ≤ 100; omega) (by rw [one_size]; omega)]; simp)]
  rw [e]
  unfold Dk.deed
  rw [if_neg (by simp), show d.start.down = false from rfl]
  simp only [Bool.false_eq_true, if_false]
  rw [if_neg (by omega)]
  refine ⟨rfl, ?_⟩
  show (if 0 < d.start.fuse then d.start.fuse - 1 else d.start.fuse) = _
  rw [if_neg (by omega)]; exact hfu

end Go.Proofs.Ytpghhobbppkggaa
