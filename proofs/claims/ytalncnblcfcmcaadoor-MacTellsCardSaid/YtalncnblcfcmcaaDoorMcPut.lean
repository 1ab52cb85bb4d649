/- The walk of mac.Put. -/
import Derived.Test.YtalncnblcfcmcaaDoorMcChk
import Derived.Test.YtalncnblcfcmcaaDoorMcRight
namespace Go.Proofs.YtalncnblcfcmcaaDoor
open Go.RowKit

/-- all four tables -/
structure LaidM (w : World) : Prop where
  l : Laid w
  a : SpansAt w 1 Wd.letters
  b : SpansAt w 2 Wd.marks
  la : 1 < w.heap.size
  lb : 2 < w.heap.size
theorem LaidM.below {w x : World} {B : Nat} (h : LaidM w) (hb : Below B w x) (hB : w.heap.size ≤ B) : LaidM x :=
  ⟨h.l.below hb hB, h.a.below hb (Nat.lt_of_lt_of_le h.la hB), h.b.below hb (Nat.lt_of_lt_of_le h.lb hB), Nat.lt_of_lt_of_le h.la hb.size, Nat.lt_of_lt_of_le h.lb hb.size⟩

namespace Mc
def cavsB (l : List Cav) : List UInt8 := l.flatMap fun c => (putc c).data.toList
def may (t : ByteArray) (l : List Cav) (s : ByteArray) : Bool := Wd.right t && fits l && decide (s.size = 32)
def putB (t : ByteArray) (l : List Cav) (s : ByteArray) : ByteArray := Wi.putText t ++ ⟨(Wi.put l.length).toArray⟩ ++ ⟨(cavsB l).toArray⟩ ++ s
def put (t : ByteArray) (l : List Cav) (s : ByteArray) : ByteArray := if may t l s then putB t l s else ⟨#[]⟩
theorem cavsB_snoc (l : List Cav) (c : Cav) : (⟨(cavsB (l ++ [c])).toArray⟩ : ByteArray) = ⟨(cavsB l).toArray⟩ ++ putc c := by
  apply ByteArray.ext; apply Array.toList_inj.1
  unfold cavsB
  simp
theorem cavsB_size (l : List Cav) : (⟨(cavsB l).toArray⟩ : ByteArray).size ≤ 20 * l.length := by
  show (cavsB l).toArray.size ≤ _
  rw [List.size_toArray]
  induction l with
  | nil => simp [cavsB]
  | cons c l ih =>
    have h := putc_size c
    have e : (cavsB (c :: l)).length = (putc c).size + (cavsB l).length := by unfold cavsB; simp
    rw [e, List.length_cons]; omega
end Mc

/-- where Put stands: the token's box; the text so far -/
theorem Bx.drew {w y : World} {t : ByteArray} {v : Value} {s : ByteArray} {l : List Cav} (h : Bx w y t v s l) : Bx w y.drew t v s l := ⟨h.c0, h.c1, h.c2, h.lt, h.cv, h.b.drew⟩
theorem Bx.alloc {w y : World} {t : ByteArray} {v : Value} {s : ByteArray} {l : List Cav} (h : Bx w y t v s l) (o : Obj) : Bx w (y.alloc o) t v s l := h.below ((Below.refl _ _).alloc (Nat.le_refl _) o)
theorem Bx.new0 (w : World) (t : ByteArray) (a : Option Addr) (n cap : Nat) (s : ByteArray) {l : List Cav} (hv : CavsAt w (.slice a n cap) l) : Bx w (w.alloc (.cells #[.string t, .slice a n cap, .string s] 24)) t (.slice a n cap) s l :=
  ⟨by rw [World.cell?_alloc_mark]; rfl, by rw [World.cell?_alloc_mark]; rfl, by rw [World.cell?_alloc_mark]; rfl, by simp, hv.alloc _, (Below.refl _ _).alloc (Nat.le_refl _) _⟩

set_option maxRecDepth 100000 in
set_option maxHeartbeats 4000000 in
theorem macPut_any (t : ByteArray) (v : Value) (l : List Cav) (s : ByteArray) (w : World) (hL : LaidM w) (hv : CavsAt w v l) (ht : t.size ≤ 140737488355328) (hbig : l.length ≤ 9223372036854775807) (hok : ∀ c ∈ l, c.n < 18446744073709551616) :
    Calls Tryd.prog 25 #[tokv t v s] w fun e w' => e = .returned (.string (Mc.put t l s)) ∧ Below w.heap.size w w' := by
  have HRT := Lib.hid (fun y (h : LaidM y) => Right_any t y (by omega) h.a h.b h.la h.lb)
  have HF := Lib.hid (fun y (h : CavsAt y v l) => fits_any t v l s y h hbig)
  have HL := Lib.hid hL
  have HPUT := Lib.hid (show Mc.put t l s = if (Wd.right t && Mc.fits l && decide (s.size = 32)) = true then Mc.putB t l s else ⟨#[]⟩ from rfl)
  clear hL
  obtain ⟨q, hq⟩ : ∃ q, Mc.put t l s = q := ⟨_, rfl⟩
  rw [hq] at HPUT ⊢
  clear hq
  obtain ⟨a, cap, rfl⟩ := hv.form
  have hK0 := Bx.new0 w t a l.length cap s hv
  unfold tokv at HF ⊢
  have hf8 : Mc.fits l = true → l.length ≤ 8 := fun h => by unfold Mc.fits at h; simp at h; exact h.1
  clear hv
  cases hr : Wd.right t with
  | false =>
    rw [hr] at HRT HPUT
    go_enter Tryd.func25, Tryd.ntmps25
    go_upto_region 1 with fail
    generalize w.alloc (.cells #[.string t, .slice a l.length cap, .string s] 24) = x at hK0 ⊢
    have HK := Lib.hid hK0
    obtain ⟨c0, c1, c2, _, _, _⟩ := hK0
    go_wp2_with (go_at_call 44; (with_reducible refine (HRT.out _ (HL.out.below HK.out.b (Nat.le_refl _))).mono ?_); rintro e u ⟨rfl, hbu⟩)
    go_ret
    exact ⟨ret_str (by rw [HPUT.out]; simp), HK.out.b.trans (hbu.mono HK.out.b.size)⟩
  | true =>
    rw [hr] at HRT HPUT
    cases hf : Mc.fits l with
    | false =>
      rw [hf] at HF HPUT
      go_enter Tryd.func25, Tryd.ntmps25
      go_upto_region 1 with fail
      generalize w.alloc (.cells #[.string t, .slice a l.length cap, .string s] 24) = x at hK0 ⊢
      have HK := Lib.hid hK0
      obtain ⟨c0, c1, c2, _, _, _⟩ := hK0
      go_wp2_with (first
        | (go_at_call 44; (with_reducible refine (HRT.out _ (HL.out.below HK.out.b (Nat.le_refl _))).mono ?_); rintro e u ⟨rfl, hbu⟩; have HK2 := Lib.hid (HK.out.below hbu); have d0 := HK2.out.c0; have d1 := HK2.out.c1; have d2 := HK2.out.c2)
        | (go_at_call 40; (with_reducible refine (HF.out _ HK2.out.cv).mono ?_); rintro e z ⟨rfl, hbz⟩))
      go_ret
      exact ⟨ret_str (by rw [HPUT.out]; simp), HK2.out.b.trans (hbz.mono HK2.out.b.size)⟩
    | true =>
      have hl8 := hf8 hf
      rw [hf] at HF HPUT
      by_cases hs : s.size = 32
      · have hs' : (s.size : Int) = 32 := by omega
        obtain ⟨pt, hpt⟩ : ∃ p, Wi.putText t = p := ⟨_, rfl⟩
        obtain ⟨pn, hpn⟩ : ∃ p : ByteArray, ⟨(Wi.put l.length).toArray⟩ = p := ⟨_, rfl⟩
        have spn : pn.size ≤ 10 := by rw [← hpn]; show (Wi.put l.length).toArray.size ≤ 10; simpa using (Wi.put_len l.length).2
        have spt : pt.size ≤ t.size + 10 := by
          rw [← hpt]; unfold Wi.putText
          rw [ByteArray.size_append]
          have h : (⟨(Wi.put t.size).toArray⟩ : ByteArray).size ≤ 10 := by show (Wi.put t.size).toArray.size ≤ 10; simpa using (Wi.put_len t.size).2
          omega
        have hcat : ¬ (9223372036854775807 < pt.size + pn.size) := by omega
        have hw64 : IntKind.u64.wrap (l.length : Int) = (l.length : Int) := by rw [IntKind.wrap_u64]; omega
        have HPT := Lib.hid (fun y => show Calls Tryd.prog 45 #[.string t] y fun e w' => e = .returned (.string pt) ∧ Below y.heap.size y w' from hpt ▸ PutText_any t y (by omega))
        have HPN := Lib.hid (fun y => show Calls Tryd.prog 46 #[.int .u64 (l.length : Int)] y fun e w' => e = .returned (.string pn) ∧ Below y.heap.size y w' from hpn ▸ Put_any l.length y (by omega))
        have HQ := Lib.hid (show q = pt ++ pn ++ ⟨(Mc.cavsB l).toArray⟩ ++ s from by rw [HPUT.out, hs]; simp only [Bool.and_true, decide_true, if_true]; unfold Mc.putB; rw [hpt, hpn])
        have HOK := Lib.hid hok
        clear hpt hpn HPUT hok
        go_enter Tryd.func25, Tryd.ntmps25
        go_upto_region 1 with fail
        generalize w.alloc (.cells #[.string t, .slice a l.length cap, .string s] 24) = x at hK0 ⊢
        have HK := Lib.hid hK0
        obtain ⟨c0, c1, c2, _, _, _⟩ := hK0
        go_upto_region 3 with (first
          | (go_at_call 44; (with_reducible refine (HRT.out _ (HL.out.below HK.out.b (Nat.le_refl _))).mono ?_); rintro e u ⟨rfl, hbu⟩; have HK2 := Lib.hid (HK.out.below hbu); have d0 := HK2.out.c0; have d1 := HK2.out.c1; have d2 := HK2.out.c2)
          | (go_at_call 40; (with_reducible refine (HF.out _ HK2.out.cv).mono ?_); rintro e z ⟨rfl, hbz⟩; have HK3 := Lib.hid (HK2.out.below hbz); have e0 := HK3.out.c0; have e1 := HK3.out.c1; have e2 := HK3.out.c2))
        have HKn := Lib.hid HK3.out.drew
        clear HK HK2 HK3 c0 c1 c2 d0 d1 d2 e0 e1 e2 hbu hbz
        have HK := HKn
        clear HKn
        go_region_held3 (fun y => y.cell? ⟨w.heap.size, 0, none⟩ = some (.string t) ∧ y.cell? ⟨w.heap.size, 1, none⟩ = some (.slice a l.length cap)) (exact ⟨HK.out.c0, HK.out.c1⟩)
          ((first
            | (go_at_call 45; ((with_reducible refine (HPT.out _).mono ?_); rintro e u ⟨rfl, hbu⟩; have HKn := Lib.hid (HK.out.below hbu); clear HK hbu; have HK := HKn; clear HKn))
            | (go_at_call 46; ((with_reducible refine (HPN.out _).mono ?_); rintro e u ⟨rfl, hbu⟩; have HKn := Lib.hid (HK.out.below hbu); clear HK hbu; have HK := HKn; clear HKn))))
        clear HPT HPN HRT HF hcat hw64
        obtain ⟨pp, hpp⟩ : ∃ p, pt ++ pn = p := ⟨_, rfl⟩
        have spp : pp.size ≤ t.size + 20 := by rw [← hpp, ByteArray.size_append]; omega
        simp only [hpp]
        rw [hpp] at HQ
        clear hpp spn spt
        obtain ⟨d0, d1, d2, _, _, _⟩ := HK.out
        go_wp2_with fail
        go_loopw [3, 33] (fun s3 s33 wr => ∃ (i : Nat) (o : ByteArray), i ≤ l.length ∧ s33 = .int .i64 (i : Int) ∧ s3 = .string o ∧ o = pp ++ ⟨(Mc.cavsB (l.take i)).toArray⟩ ∧ Bx w wr t (.slice a l.length cap) s l) (fun _ s33 _ => l.length - (intOf s33).toNat)
        case atStart =>
          refine ⟨0, pp, by omega, rfl, rfl, ?_, HK.out⟩
          have e : Mc.cavsB (l.take 0) = [] := rfl
          rw [e]; apply ByteArray.ext; simp
        case round =>
          clear HK d0 d1 d2
          obtain ⟨i, o, hi, rfl, rfl, ho, hB⟩ := hrel
          have hcs := Mc.cavsB_size (l.take i)
          rw [List.length_take] at hcs
          have hos : o.size ≤ t.size + 20 + 20 * 8 := by rw [ho, ByteArray.size_append]; omega
          by_cases hlt : i < l.length
          · have hlt' : (i : Int) < (l.length : Int) := by omega
            have hi0 : (0 : Int) ≤ (i : Int) := by omega
            obtain ⟨b, off, cp, hfu, q0, q1⟩ := (hB.cv.get).2 i hlt
            cases hfu
            have hok2 := HOK.out l[i] (List.getElem_mem hlt)
            have hsn : (⟨(Mc.cavsB (l.take (i + 1))).toArray⟩ : ByteArray) = ⟨(Mc.cavsB (l.take i)).toArray⟩ ++ Mc.putc l[i] := by
              rw [List.take_add_one, List.getElem?_eq_getElem hlt]; exact Mc.cavsB_snoc _ _
            generalize l[i] = c at hok2 q0 q1 hsn
            have hps := Mc.putc_size c
            have HPC := Lib.hid (fun y => putc_any c y hok2)
            have HO := Lib.hid (show o ++ Mc.putc c = pp ++ ⟨(Mc.cavsB (l.take (i + 1))).toArray⟩ from by rw [hsn, ho, ByteArray.append_assoc])
            generalize Mc.putc c = pc at HPC HO hps
            obtain ⟨ck, cn⟩ := c
            unfold Cav.val Cav.cells at HPC
            simp only at q0 q1
            have hcat : ¬ (9223372036854775807 < o.size + pc.size) := by omega
            have HB1 := Lib.hid (hB.alloc (.cells #[.int .i64 ck, .int .u64 (cn : Int)] 27))
            clear hsn ho hcs hB
            go_wp2_with (go_at_call 47; (with_reducible refine (HPC.out _).mono ?_); rintro e u ⟨rfl, hbu⟩)
            refine ⟨⟨i + 1, _, by omega, by go_num, rfl, HO.out, HB1.out.below hbu⟩, by simp only [intOf]; omega⟩
          · obtain rfl : i = l.length := by omega
            have hlt' : ¬ (l.length : Int) < (l.length : Int) := by omega
            rw [List.take_length] at ho
            obtain ⟨d0, d1, d2, _, _, _⟩ := id hB
            have HB1 := Lib.hid hB
            have hcat : ¬ (9223372036854775807 < o.size + s.size) := by omega
            have HO := Lib.hid (show q = o ++ s from by rw [HQ.out, ho])
            clear ho hcs hB
            go_wp2_with fail
            go_ret
            exact ⟨ret_str HO.out.symm, HB1.out.b⟩
      · have hs' : ¬ (s.size : Int) = 32 := by omega
        go_enter Tryd.func25, Tryd.ntmps25
        go_upto_region 1 with fail
        generalize w.alloc (.cells #[.string t, .slice a l.length cap, .string s] 24) = x at hK0 ⊢
        have HK := Lib.hid hK0
        obtain ⟨c0, c1, c2, _, _, _⟩ := hK0
        go_wp2_with (first
          | (go_at_call 44; (with_reducible refine (HRT.out _ (HL.out.below HK.out.b (Nat.le_refl _))).mono ?_); rintro e u ⟨rfl, hbu⟩; have HK2 := Lib.hid (HK.out.below hbu); have d0 := HK2.out.c0; have d1 := HK2.out.c1; have d2 := HK2.out.c2)
          | (go_at_call 40; (with_reducible refine (HF.out _ HK2.out.cv).mono ?_); rintro e z ⟨rfl, hbz⟩; have HK3 := Lib.hid (HK2.out.below hbz); have e0 := HK3.out.c0; have e1 := HK3.out.c1; have e2 := HK3.out.c2))
        go_ret
        exact ⟨ret_str (by rw [HPUT.out]; simp [hs]), HK3.out.b⟩

end Go.Proofs.YtalncnblcfcmcaaDoor
