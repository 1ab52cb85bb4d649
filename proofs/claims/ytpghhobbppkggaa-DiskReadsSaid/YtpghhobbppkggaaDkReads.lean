/- The plain law of DiskReads: a disk that is up, with no fuse, of which a text is written, which is then synced, or cut. -/
import Derived.Test.YtpghhobbppkggaaDkRoom
namespace Go.Proofs.Ytpghhobbppkggaa
open Go.RowKit

/-- a disk that is up, with no fuse -/
def Dk.up (N : Int) (h0 s0 h1 s1 : ByteArray) : Dk := ⟨N, h0, s0, h1, s1, false, -1, 0⟩

theorem up_write0 {N : Int} {h0 s0 h1 s1 s : ByteArray} (h : (Dk.up N h0 s0 h1 s1).full s = false) : (Dk.up N h0 s0 h1 s1).write 0 s = (Dk.up N h0 (s0 ++ s) h1 s1, 0) := by
  unfold Dk.write; rw [if_neg (by simp [h])]; rfl
theorem up_write1 {N : Int} {h0 s0 h1 s1 s : ByteArray} (h : (Dk.up N h0 s0 h1 s1).full s = false) : (Dk.up N h0 s0 h1 s1).write 1 s = (Dk.up N h0 s0 h1 (s1 ++ s), 0) := by
  unfold Dk.write; rw [if_neg (by simp [h])]; rfl
theorem up_sync0 (N : Int) (h0 s0 h1 s1 : ByteArray) : (Dk.up N h0 s0 h1 s1).sync 0 = (Dk.up N (h0 ++ s0) ⟨#[]⟩ h1 s1, 0) := rfl
theorem up_sync1 (N : Int) (h0 s0 h1 s1 : ByteArray) : (Dk.up N h0 s0 h1 s1).sync 1 = (Dk.up N h0 s0 (h1 ++ s1) ⟨#[]⟩, 0) := rfl
theorem up_cut0 (N n : Int) (h0 s0 h1 s1 : ByteArray) : (Dk.up N h0 s0 h1 s1).cut 0 n = (Dk.up N (h0.extract 0 n.toNat) (s0.extract 0 (n.toNat - h0.size)) h1 s1, 0) := rfl
theorem up_cut1 (N n : Int) (h0 s0 h1 s1 : ByteArray) : (Dk.up N h0 s0 h1 s1).cut 1 n = (Dk.up N h0 s0 (h1.extract 0 n.toNat) (s1.extract 0 (n.toNat - h1.size)), 0) := rfl

theorem app_assoc (a b c : ByteArray) : a ++ (b ++ c) = a ++ b ++ c := by
  apply ByteArray.ext; apply Array.toList_inj.1; simp
theorem app_empty (a : ByteArray) : a ++ (⟨#[]⟩ : ByteArray) = a := by
  apply ByteArray.ext; apply Array.toList_inj.1; simp
/-- what is cut of two texts, one behind the other, is cut of both -/
theorem extract_app (a b : ByteArray) (n : Nat) : a.extract 0 n ++ b.extract 0 (n - a.size) = (a ++ b).extract 0 n := by
  apply ByteArray.ext; apply Array.toList_inj.1
  rw [Dk.app_data, Dk.take_data, Dk.take_data, Dk.take_data, Dk.app_data, List.take_append]
  have e : a.data.toList.length = a.size := by simp
  rw [e]

theorem read_size (d : Dk) (f : Int) : (d.read f).size ≤ d.used := by
  unfold Dk.read Dk.used
  split
  · rw [ByteArray.size_append]; omega
  · split
    · rw [ByteArray.size_append]; omega
    · exact Nat.zero_le _

/-- what DiskReads asks of a disk, of which a text is written where there is room -/
structure Reads (D : Dk) (F G : Int) (s : ByteArray) (n : Int) (W Y C Z : Dk) (O : ByteArray) : Prop where
  w : D.write F s = (W, 0)
  y : W.sync F = (Y, 0)
  c : W.cut F n = (C, 0)
  z : Y.crash 0 = Z
  rw' : W.read F = D.read F ++ s
  ry : Y.read F = D.read F ++ s
  rc : C.read F = (D.read F ++ s).extract 0 n.toNat
  rz : Z.read F = D.read F ++ s
  od : D.read G = O
  ow : W.read G = O
  oc : C.read G = O
  d2 : D.read 2 = ⟨#[]⟩
  dm : D.read (-1) = ⟨#[]⟩
  uw : W.used ≤ 100000
  uy : Y.used ≤ 100000
  uc : C.used ≤ 100000
  uz : Z.used ≤ 100000
  fw : W.fuse < 9223372036854775808

theorem empty_extract (k : Nat) : (⟨#[]⟩ : ByteArray).extract 0 k = ⟨#[]⟩ := extract_all _ _ (Nat.zero_le _)
theorem empty_size : (⟨#[]⟩ : ByteArray).size = 0 := rfl

theorem reads_room0 {N : Int} {h0 s0 h1 s1 s : ByteArray} (n : Int) (h : (Dk.up N h0 s0 h1 s1).full s = false) (hu : (Dk.up N h0 s0 h1 s1).used + s.size ≤ 100000) :
    ∃ W Y C Z O, Reads (Dk.up N h0 s0 h1 s1) 0 1 s n W Y C Z O := by
  have hu' : h0.size + s0.size + h1.size + s1.size + s.size ≤ 100000 := hu
  refine ⟨_, _, _, _, h1 ++ s1, up_write0 h, up_sync0 _ _ _ _ _, up_cut0 _ _ _ _ _ _, rfl, app_assoc _ _ _, ?_, ?_, ?_, rfl, rfl, rfl, rfl, rfl, ?_, ?_, ?_, ?_, ?_⟩
  · show (h0 ++ (s0 ++ s)) ++ (⟨#[]⟩ : ByteArray) = (h0 ++ s0) ++ s
    rw [app_empty, app_assoc]
  · show h0.extract 0 n.toNat ++ (s0 ++ s).extract 0 (n.toNat - h0.size) = ((h0 ++ s0) ++ s).extract 0 n.toNat
    rw [extract_app, app_assoc]
  · show ((h0 ++ (s0 ++ s)) ++ (⟨#[]⟩ : ByteArray).extract 0 (Dk.kept 0 ⟨#[]⟩)) ++ (⟨#[]⟩ : ByteArray) = (h0 ++ s0) ++ s
    rw [app_empty, empty_extract, app_empty, app_assoc]
  · show h0.size + (s0 ++ s).size + h1.size + s1.size ≤ 100000
    rw [ByteArray.size_append]; omega
  · show (h0 ++ (s0 ++ s)).size + (⟨#[]⟩ : ByteArray).size + h1.size + s1.size ≤ 100000
    rw [ByteArray.size_append, ByteArray.size_append, empty_size]; omega
  · show (h0.extract 0 n.toNat).size + ((s0 ++ s).extract 0 (n.toNat - h0.size)).size + h1.size + s1.size ≤ 100000
    have a := Dk.ext_le h0 n.toNat
    have b := Dk.ext_le (s0 ++ s) (n.toNat - h0.size)
    rw [ByteArray.size_append] at b; omega
  · show ((h0 ++ (s0 ++ s)) ++ (⟨#[]⟩ : ByteArray).extract 0 (Dk.kept 0 ⟨#[]⟩)).size + (⟨#[]⟩ : ByteArray).size + (h1 ++ s1.extract 0 (Dk.kept 0 s1)).size + (⟨#[]⟩ : ByteArray).size ≤ 100000
    have b := Dk.ext_le s1 (Dk.kept 0 s1)
    rw [empty_extract, app_empty, ByteArray.size_append, ByteArray.size_append, ByteArray.size_append, empty_size]; omega
  · show (-1 : Int) < _
    decide

theorem reads_room1 {N : Int} {h0 s0 h1 s1 s : ByteArray} (n : Int) (h : (Dk.up N h0 s0 h1 s1).full s = false) (hu : (Dk.up N h0 s0 h1 s1).used + s.size ≤ 100000) :
    ∃ W Y C Z O, Reads (Dk.up N h0 s0 h1 s1) 1 0 s n W Y C Z O := by
  have hu' : h0.size + s0.size + h1.size + s1.size + s.size ≤ 100000 := hu
  refine ⟨_, _, _, _, h0 ++ s0, up_write1 h, up_sync1 _ _ _ _ _, up_cut1 _ _ _ _ _ _, rfl, app_assoc _ _ _, ?_, ?_, ?_, rfl, rfl, rfl, rfl, rfl, ?_, ?_, ?_, ?_, ?_⟩
  · show (h1 ++ (s1 ++ s)) ++ (⟨#[]⟩ : ByteArray) = (h1 ++ s1) ++ s
    rw [app_empty, app_assoc]
  · show h1.extract 0 n.toNat ++ (s1 ++ s).extract 0 (n.toNat - h1.size) = ((h1 ++ s1) ++ s).extract 0 n.toNat
    rw [extract_app, app_assoc]
  · show ((h1 ++ (s1 ++ s)) ++ (⟨#[]⟩ : ByteArray).extract 0 (Dk.kept 0 ⟨#[]⟩)) ++ (⟨#[]⟩ : ByteArray) = (h1 ++ s1) ++ s
    rw [app_empty, empty_extract, app_empty, app_assoc]
  · show h0.size + s0.size + h1.size + (s1 ++ s).size ≤ 100000
    rw [ByteArray.size_append]; omega
  · show h0.size + s0.size + (h1 ++ (s1 ++ s)).size + (⟨#[]⟩ : ByteArray).size ≤ 100000
    rw [ByteArray.size_append, ByteArray.size_append, empty_size]; omega
  · show h0.size + s0.size + (h1.extract 0 n.toNat).size + ((s1 ++ s).extract 0 (n.toNat - h1.size)).size ≤ 100000
    have a := Dk.ext_le h1 n.toNat
    have b := Dk.ext_le (s1 ++ s) (n.toNat - h1.size)
    rw [ByteArray.size_append] at b; omega
  · show (h0 ++ s0.extract 0 (Dk.kept 0 s0)).size + (⟨#[]⟩ : ByteArray).size + ((h1 ++ (s1 ++ s)) ++ (⟨#[]⟩ : ByteArray).extract 0 (Dk.kept 0 ⟨#[]⟩)).size + (⟨#[]⟩ : ByteArray).size ≤ 100000
    have b := Dk.ext_le s0 (Dk.kept 0 s0)
    rw [empty_extract, app_empty, ByteArray.size_append, ByteArray.size_append, ByteArray.size_append, empty_size]; omega
  · show (-1 : Int) < _
    decide

end Go.Proofs.Ytpghhobbppkggaa