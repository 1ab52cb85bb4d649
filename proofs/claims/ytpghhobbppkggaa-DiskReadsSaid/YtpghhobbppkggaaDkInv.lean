/- Plain laws of the disk: what holds of a disk of which acts are done. -/
import Derived.Test.YtpghhobbppkggaaDkWrite
namespace Go.Proofs.Ytpghhobbppkggaa
open Go.RowKit

/-- of a disk of size N: files have room, and what was synced lies for good -/
structure Dk.Inv (N : Nat) (d : Dk) (s0 s1 : ByteArray) : Prop where
  size : d.size = (N : Int)
  used : d.used ≤ N
  safe0 : s0.data.toList <+: d.h0.data.toList
  safe1 : s1.data.toList <+: d.h1.data.toList
  fuse : d.fuse < 9223372036854775808

namespace Dk
def pick (f : Int) (a b : ByteArray) : ByteArray := if f = 0 then a else b

theorem app_data (a b : ByteArray) : (a ++ b).data.toList = a.data.toList ++ b.data.toList := by simp
theorem ext_le (s : ByteArray) (k : Nat) : (s.extract 0 k).size ≤ s.size := by simp; omega

theorem Inv.crash {N : Nat} {d : Dk} {s0 s1 : ByteArray} (h : Inv N d s0 s1) (k : Int) : Inv N (d.crash k) s0 s1 := by
  refine ⟨h.size, ?_, ?_, ?_, ?_⟩
  · have := h.used
    have h1 := ext_le d.s0 (kept k d.s0)
    have h2 := ext_le d.s1 (kept k d.s1)
    have e : (⟨#[]⟩ : ByteArray).size = 0 := rfl
    show (d.h0 ++ d.s0.extract 0 (kept k d.s0)).size + (⟨#[]⟩ : ByteArray).size + (d.h1 ++ d.s1.extract 0 (kept k d.s1)).size + (⟨#[]⟩ : ByteArray).size ≤ N
    rw [ByteArray.size_append, ByteArray.size_append, e]
    unfold Dk.used at this
    omega
  · show s0.data.toList <+: (d.h0 ++ _).data.toList
    rw [app_data]; exact h.safe0.trans (List.prefix_append _ _)
  · show s1.data.toList <+: (d.h1 ++ _).data.toList
    rw [app_data]; exact h.safe1.trans (List.prefix_append _ _)
  · show (-1 : Int) < _
    decide

/-- a deed that goes well, or tears: what it makes of the file keeps what is safe -/
theorem Inv.deed {N : Nat} {d : Dk} {s0 s1 : ByteArray} (h : Inv N d s0 s1) (f : Int) (torn : Bool) (g : ByteArray × ByteArray → ByteArray × ByteArray) (t0 t1 : ByteArray)
    (hset : (f = 0 ∨ f = 1) → d.down = false → Inv N (d.set f (g (d.file f))) t0 t1) (htorn : torn = true → t0 = s0 ∧ t1 = s1) :
    ((d.deed f torn g).2 = 0 → Inv N (d.deed f torn g).1 t0 t1) ∧ ((d.deed f torn g).2 ≠ 0 → Inv N (d.deed f torn g).1 s0 s1) := by
  unfold Dk.deed
  by_cases hf : f = 0 ∨ f = 1
  · rw [if_neg (not_not_intro hf)]
    cases hd : d.down with
    | true => simp; exact h
    | false =>
      have h2 := hset hf hd
      simp only [Bool.false_eq_true, if_false]
      by_cases hfu : d.fuse = 0
      · rw [if_pos hfu]
        refine ⟨fun e => by simp at e, fun _ => ?_⟩
        cases torn with
        | true =>
          obtain ⟨rfl, rfl⟩ := htorn rfl
          exact h2.crash _
        | false => exact h.crash _
      · rw [if_neg hfu]
        refine ⟨fun _ => ?_, fun e => by simp at e⟩
        refine ⟨h2.size, h2.used, h2.safe0, h2.safe1, ?_⟩
        show (if 0 < d.fuse then d.fuse - 1 else d.fuse) < _
        have := h.fuse
        split <;> omega
  · rw [if_pos hf]; simp; exact h

theorem Inv.write {N : Nat} {d : Dk} {s0 s1 : ByteArray} (h : Inv N d s0 s1) (f : Int) (s : ByteArray) : Inv N (d.write f s).1 s0 s1 := by
  unfold Dk.write
  by_cases hc : ((f == 0 || f == 1) && (!d.down && d.full s)) = true
  · rw [if_pos hc]; exact h
  · rw [if_neg hc]
    have hs := h.deed f true (fun x => (x.1, x.2 ++ s)) s0 s1 (fun hf hd => ?_) (fun _ => ⟨rfl, rfl⟩)
    · by_cases e : (d.deed f true fun x => (x.1, x.2 ++ s)).2 = 0
      · exact hs.1 e
      · exact hs.2 e
    · have hfull : d.full s = false := by
        cases hfu : d.full s with
        | false => rfl
        | true => exact absurd (by rcases hf with rfl | rfl <;> simp [hd, hfu]) hc
      have hroom : d.used + s.size ≤ N := by
        have h1 := h.size
        unfold Dk.full at hfull
        simp at hfull
        have := hfull.2
        omega
      unfold Dk.used at hroom
      unfold Dk.set Dk.file
      by_cases h0 : f = 0
      · rw [if_pos h0, if_pos h0]
        refine ⟨h.size, ?_, h.safe0, h.safe1, h.fuse⟩
        show d.h0.size + (d.s0 ++ s).size + d.h1.size + d.s1.size ≤ N
        rw [ByteArray.size_append]; omega
      · rw [if_neg h0, if_neg h0]
        refine ⟨h.size, ?_, h.safe0, h.safe1, h.fuse⟩
        show d.h0.size + d.s0.size + d.h1.size + (d.s1 ++ s).size ≤ N
        rw [ByteArray.size_append]; omega

/-- what a file has, as a pair of texts: the one of them that a sync makes safe -/
def safeOf (f : Int) (s0 s1 x : ByteArray) : ByteArray × ByteArray := if f = 0 then (x, s1) else (s0, x)

theorem sync_ok {d : Dk} {f : Int} (hf : f = 0 ∨ f = 1) (h : (d.sync f).2 = 0) : (d.sync f).1.read f = (d.file f).1 ++ (d.file f).2 := by
  unfold Dk.sync Dk.deed at *
  rw [if_neg (not_not_intro hf)] at *
  cases hd : d.down with
  | true => rw [hd] at h; simp at h
  | false =>
    rw [hd] at h
    simp only [Bool.false_eq_true, if_false] at *
    by_cases hfu : d.fuse = 0
    · rw [if_pos hfu] at h; simp at h
    · rw [if_neg hfu]
      have e0 : ∀ x : ByteArray, x ++ (⟨#[]⟩ : ByteArray) = x := fun x => by apply ByteArray.ext; apply Array.toList_inj.1; simp
      rcases hf with rfl | rfl
      · show _ ++ (⟨#[]⟩ : ByteArray) = _
        rw [e0]; rfl
      · show _ ++ (⟨#[]⟩ : ByteArray) = _
        rw [e0]; rfl

theorem Inv.sync {N : Nat} {d : Dk} {s0 s1 : ByteArray} (h : Inv N d s0 s1) (f : Int) (hf : f = 0 ∨ f = 1) :
    ((d.sync f).2 = 0 → Inv N (d.sync f).1 (safeOf f s0 s1 ((d.sync f).1.read f)).1 (safeOf f s0 s1 ((d.sync f).1.read f)).2) ∧ ((d.sync f).2 ≠ 0 → Inv N (d.sync f).1 s0 s1) := by
  have key := h.deed f false (fun x => (x.1 ++ x.2, ⟨#[]⟩)) (safeOf f s0 s1 ((d.file f).1 ++ (d.file f).2)).1 (safeOf f s0 s1 ((d.file f).1 ++ (d.file f).2)).2 (fun _ _ => ?_) (fun e => by cases e)
  · refine ⟨fun e => ?_, key.2⟩
    rw [sync_ok hf e]
    exact key.1 e
  · have hu := h.used
    unfold Dk.used at hu
    have e0 : (⟨#[]⟩ : ByteArray).size = 0 := rfl
    unfold Dk.set Dk.file safeOf
    by_cases h0 : f = 0
    · rw [if_pos h0, if_pos h0, if_pos h0]
      refine ⟨h.size, ?_, List.prefix_refl _, h.safe1, h.fuse⟩
      show (d.h0 ++ d.s0).size + (⟨#[]⟩ : ByteArray).size + d.h1.size + d.s1.size ≤ N
      rw [ByteArray.size_append, e0]; omega
    · rw [if_neg h0, if_neg h0, if_neg h0]
      refine ⟨h.size, ?_, h.safe0, List.prefix_refl _, h.fuse⟩
      show d.h0.size + d.s0.size + (d.h1 ++ d.s1).size + (⟨#[]⟩ : ByteArray).size ≤ N
      rw [ByteArray.size_append, e0]; omega

theorem prefix_take {α : Type} {a b : List α} (h : a <+: b) (n : Nat) : a.take n <+: b.take n := by
  obtain ⟨t, rfl⟩ := h
  rw [List.take_append]
  exact List.prefix_append _ _

theorem take_data (s : ByteArray) (k : Nat) : (s.extract 0 k).data.toList = s.data.toList.take k := by rw [Lib.extract_data]; simp

theorem Inv.cut {N : Nat} {d : Dk} {s0 s1 : ByteArray} (h : Inv N d s0 s1) (f n : Int) :
    ((d.cut f n).2 = 0 → Inv N (d.cut f n).1 (safeOf f s0 s1 ((pick f s0 s1).extract 0 n.toNat)).1 (safeOf f s0 s1 ((pick f s0 s1).extract 0 n.toNat)).2) ∧ ((d.cut f n).2 ≠ 0 → Inv N (d.cut f n).1 s0 s1) := by
  refine h.deed f false (fun x => (x.1.extract 0 n.toNat, x.2.extract 0 (n.toNat - x.1.size))) _ _ (fun _ _ => ?_) (fun e => by cases e)
  have hu := h.used
  unfold Dk.used at hu
  unfold Dk.set Dk.file safeOf pick
  by_cases h0 : f = 0
  · rw [if_pos h0, if_pos h0, if_pos h0, if_pos h0]
    refine ⟨h.size, ?_, ?_, h.safe1, h.fuse⟩
    · have h1 := ext_le d.h0 n.toNat
      have h2 := ext_le d.s0 (n.toNat - d.h0.size)
      show (d.h0.extract 0 n.toNat).size + (d.s0.extract 0 (n.toNat - d.h0.size)).size + d.h1.size + d.s1.size ≤ N
      omega
    · show (s0.extract 0 n.toNat).data.toList <+: (d.h0.extract 0 n.toNat).data.toList
      rw [take_data, take_data]; exact prefix_take h.safe0 _
  · rw [if_neg h0, if_neg h0, if_neg h0, if_neg h0]
    refine ⟨h.size, ?_, h.safe0, ?_, h.fuse⟩
    · have h1 := ext_le d.h1 n.toNat
      have h2 := ext_le d.s1 (n.toNat - d.h1.size)
      show d.h0.size + d.s0.size + (d.h1.extract 0 n.toNat).size + (d.s1.extract 0 (n.toNat - d.h1.size)).size ≤ N
      omega
    · show (s1.extract 0 n.toNat).data.toList <+: (d.h1.extract 0 n.toNat).data.toList
      rw [take_data, take_data]; exact prefix_take h.safe1 _

theorem Inv.arm {N : Nat} {d : Dk} {s0 s1 : ByteArray} (h : Inv N d s0 s1) (n k : Int) (hn : n < 9223372036854775808) : Inv N (d.arm n k) s0 s1 := by
  refine ⟨h.size, h.used, h.safe0, h.safe1, ?_⟩
  show (if n < -1 then -1 else n) < _
  split <;> omega

theorem Inv.new (N : Nat) : Inv N (Dk.new N) ⟨#[]⟩ ⟨#[]⟩ := ⟨rfl, Nat.zero_le _, List.prefix_refl _, List.prefix_refl _, show (-1 : Int) < _ by decide⟩
theorem Inv.start {N : Nat} {d : Dk} {s0 s1 : ByteArray} (h : Inv N d s0 s1) : Inv N d.start s0 s1 := ⟨h.size, h.used, h.safe0, h.safe1, h.fuse⟩
end Dk

end Go.Proofs.Ytpghhobbppkggaa
