/- The walk of the document's own Sum. -/
import Derived.Test.YtalncnblcfcmcaaDoorShRefA
import Derived.Test.YtalncnblcfcmcaaDoorShPar
import Derived.BigRegion
import Derived.Test.YtalncnblcfcmcaaDoorShSum
namespace Go.Proofs.YtalncnblcfcmcaaDoor
open Go.RowKit

theorem conv_byte (y : World) (a : Nat) (ha : a < 256) : (convert 52 9 (.slice (some ⟨y.heap.size, 0, none⟩) 1 1)).run Tryd.prog (y.alloc (.cells #[.int .u8 (a : Int)] 5)) = .ok (.string ⟨#[UInt8.ofNat a]⟩) (y.alloc (.cells #[.int .u8 (a : Int)] 5)) :=
  row_string (l := [UInt8.ofNat a]) (Row.at (b := y.heap.size) (w := y) rfl (by simp [bcells]; omega)) rfl

end Go.Proofs.YtalncnblcfcmcaaDoor

namespace Go.Proofs.YtalncnblcfcmcaaDoor
open Go.RowKit

set_option maxRecDepth 100000 in
set_option maxHeartbeats 4000000 in
theorem refrounds_any (w : World) :
    Calls Tryd.prog 55 #[] w fun e w' => e = .returned (.slice (some ⟨w.heap.size, 0, none⟩) 64 64) ∧ Row w' w.heap.size (wvals Sh.K) ∧ Below w.heap.size w w' ∧ w.heap.size < w'.heap.size := by
  go_enter Tryd.func55, Tryd.ntmps55
  go_wp2_with fail
  go_ret
  exact ⟨rfl, Row.at rfl (by rfl), (Below.refl _ _).alloc (Nat.le_refl _) _, by simp⟩

namespace Sh
theorem len8_len (n : Nat) : (len8 n).length = 8 := by unfold len8; simp
theorem len8_next (n j : Nat) (h : j < 8) : (len8 n).take (j + 1) = (len8 n).take j ++ [UInt8.ofNat (n / 2 ^ (8 * (7 - j)) % 256)] := by
  rw [List.take_add_one, List.getElem?_eq_getElem (by rw [len8_len]; exact h)]
  simp [len8]
theorem zeros_yes (n j : Nat) (h : j = zeros n) : (n + 1 + j) % 64 = 56 := by unfold zeros at h; omega
theorem zeros_not (n j : Nat) (h : j < zeros n) : ¬ (n + 1 + j) % 64 = 56 := by unfold zeros at h; omega
theorem zeros_lt (n : Nat) : zeros n < 64 := by unfold zeros; omega
end Sh

theorem conv_four (y : World) (a b c d : Nat) (ha : a < 256) (hb : b < 256) (hc : c < 256) (hd : d < 256) :
    (convert 52 9 (.slice (some ⟨y.heap.size, 0, none⟩) 4 4)).run Tryd.prog (y.alloc (.cells #[.int .u8 (a : Int), .int .u8 (b : Int), .int .u8 (c : Int), .int .u8 (d : Int)] 5)).drew = .ok (.string ⟨#[UInt8.ofNat a, UInt8.ofNat b, UInt8.ofNat c, UInt8.ofNat d]⟩) (y.alloc (.cells #[.int .u8 (a : Int), .int .u8 (b : Int), .int .u8 (c : Int), .int .u8 (d : Int)] 5)).drew :=
  row_string (l := [UInt8.ofNat a, UInt8.ofNat b, UInt8.ofNat c, UInt8.ofNat d]) (Row.at (b := y.heap.size) (w := y) rfl (by simp [bcells]; omega)).drew rfl

/-- the words so far and the table -/
structure Us (w x : World) (gk g : Nat) (v : Sh.V) : Prop where
  k : Row x gk (wvals Sh.K)
  r : Row x g (wvals (Sh.L8 v))
  b : Below w.heap.size w x
  lk : gk < x.heap.size
  lg : g < x.heap.size
theorem Us.alloc {w x : World} {gk g : Nat} {v : Sh.V} (h : Us w x gk g v) (o : Obj) : Us w (x.alloc o) gk g v :=
  ⟨h.k.alloc h.lk o, h.r.alloc h.lg o, h.b.alloc h.b.size o, by have := h.lk; simp; omega, by have := h.lg; simp; omega⟩
theorem Us.below {w x y : World} {gk g : Nat} {v : Sh.V} (h : Us w x gk g v) (hb : Below x.heap.size x y) : Us w y gk g v :=
  ⟨h.k.below hb h.lk, h.r.below hb h.lg, h.b.trans (hb.mono h.b.size), Nat.lt_of_lt_of_le h.lk hb.size, Nat.lt_of_lt_of_le h.lg hb.size⟩
theorem Us.drew {w x : World} {gk g : Nat} {v : Sh.V} (h : Us w x gk g v) : Us w x.drew gk g v := ⟨h.k, h.r, h.b.drew, h.lk, h.lg⟩

namespace Sh
/-- the text with so many noughts behind it, and how many bytes that is -/
theorem pad_next (l : List UInt8) (j : Nat) : l ++ [128] ++ List.replicate (j + 1) 0 = (l ++ [128] ++ List.replicate j 0) ++ [(0 : UInt8)] := by
  rw [List.append_assoc _ _ [(0 : UInt8)]]
  congr 1
  exact List.replicate_succ'
end Sh

/-- what the document's block is to do -/
def BlockC : Prop := ∀ (st : Sh.V) (b : ByteArray) (w : World) (gh caph gk capk : Nat), b.size = 64 → st.ok → Row w gh (wvals (Sh.L8 st)) → Row w gk (wvals Sh.K) → gh < w.heap.size → gk < w.heap.size →
    Calls Tryd.prog 56 #[.slice (some ⟨gh, 0, none⟩) 8 caph, .slice (some ⟨gk, 0, none⟩) 64 capk, .string b] w fun e w' => ∃ g cap, e = .returned (.slice (some ⟨g, 0, none⟩) 8 cap) ∧ Row w' g (wvals (Sh.L8 (Sh.block st b.data.toList))) ∧ w.heap.size ≤ g ∧ g < w'.heap.size ∧ Below w.heap.size w w'

end Go.Proofs.YtalncnblcfcmcaaDoor

namespace Go.Proofs.YtalncnblcfcmcaaDoor
open Go.RowKit

set_option maxRecDepth 100000 in
set_option maxHeartbeats 16000000 in
theorem refSum_any (hblk : BlockC) (s : ByteArray) (w : World) (hs : s.size ≤ 281474976710656) :
    Calls Tryd.prog 38 #[.string s] w fun e w' => e = .returned (.string ⟨(Sh.sum s.data.toList).toArray⟩) ∧ Below w.heap.size w w' := by
  have HRO := Lib.hid refrounds_any
  have HBLK := Lib.hid hblk
  clear hblk
  obtain ⟨n8, hn8⟩ : ∃ n, s.size * 8 = n := ⟨_, rfl⟩
  have hu1 : IntKind.u64.wrap (s.size : Int) = (s.size : Int) := by rw [IntKind.wrap_u64]; omega
  have hu2 : IntKind.u64.wrap ((s.size : Int) * 8) = (n8 : Int) := by rw [IntKind.wrap_u64]; omega
  have hn8' : n8 < 18446744073709551616 := by omega
  have HP := Lib.hid (show Sh.padded s.data.toList = s.data.toList ++ [128] ++ List.replicate (Sh.zeros s.size) 0 ++ Sh.len8 n8 from by
    unfold Sh.padded; rw [show s.data.toList.length = s.size from rfl, Nat.mod_eq_of_lt (by omega), hn8])
  have HSUM := Lib.hid (show Sh.sum s.data.toList = Sh.out (Sh.blocks (Sh.padded s.data.toList) Sh.H0 ((Sh.padded s.data.toList).length / 64)) from rfl)
  have HMOD := Lib.hid (Sh.padded_mod s.data.toList)
  generalize Sh.sum s.data.toList = res at HSUM ⊢
  generalize Sh.padded s.data.toList = P at HP HSUM HMOD
  have HZ := Lib.hid (Sh.zeros_lt s.size)
  have hog : ¬ 9223372036854775807 < s.size + 1 := by omega
  have HHL := Lib.hid (show wvals (Sh.L8 Sh.H0) = [.int .u32 1779033703, .int .u32 3144134277, .int .u32 1013904242, .int .u32 2773480762, .int .u32 1359893119, .int .u32 2600822924, .int .u32 528734635, .int .u32 1541459225] from rfl)
  have HOK0 := Lib.hid Sh.H0_ok
  generalize Sh.H0 = st at HSUM HHL HOK0
  clear hn8
  go_enter Tryd.func38, Tryd.ntmps38
  go_upto_region 2 with fail
  have hr0 : Row (w.alloc (.cells #[.int .u32 1779033703, .int .u32 3144134277, .int .u32 1013904242, .int .u32 2773480762, .int .u32 1359893119, .int .u32 2600822924, .int .u32 528734635, .int .u32 1541459225] 77)) w.heap.size (wvals (Sh.L8 st)) := Row.at rfl (by rw [HHL.out])
  have hb0 : Below w.heap.size w (w.alloc (.cells #[.int .u32 1779033703, .int .u32 3144134277, .int .u32 1013904242, .int .u32 2773480762, .int .u32 1359893119, .int .u32 2600822924, .int .u32 528734635, .int .u32 1541459225] 77)) := (Below.refl _ _).alloc (Nat.le_refl _) _
  have l0 : w.heap.size < (w.alloc (.cells #[.int .u32 1779033703, .int .u32 3144134277, .int .u32 1013904242, .int .u32 2773480762, .int .u32 1359893119, .int .u32 2600822924, .int .u32 528734635, .int .u32 1541459225] 77)).heap.size := by simp
  generalize w.alloc (.cells #[.int .u32 1779033703, .int .u32 3144134277, .int .u32 1013904242, .int .u32 2773480762, .int .u32 1359893119, .int .u32 2600822924, .int .u32 528734635, .int .u32 1541459225] 77) = x0 at hr0 hb0 l0 ⊢
  go_upto_region 3 with (go_at_call 55; refine (HRO.out _).mono ?_; rintro e w2 ⟨rfl, hk, hb2, hlk⟩)
  have hU : Us w w2 x0.heap.size w.heap.size st := ⟨hk, hr0.below hb2 l0, hb0.trans (hb2.mono hb0.size), hlk, Nat.lt_of_lt_of_le l0 hb2.size⟩
  have HU := Lib.hid hU
  clear hU hk hb2 hlk hr0 hb0 l0 HRO HHL
  generalize x0.heap.size = gk at HU ⊢
  generalize w.heap.size = gh0 at HU ⊢
  go_upto_region 5 with fail
  obtain ⟨ze, hze⟩ : ∃ z, Sh.zeros s.size = z := ⟨_, rfl⟩
  go_loopw [6] (fun s6 wr => ∃ (j : Nat) (o : ByteArray), j ≤ Sh.zeros s.size ∧ s6 = .string o ∧ o.data.toList = s.data.toList ++ [128] ++ List.replicate j 0 ∧ wr = w2) (fun s6 _ => s.size + 1 + Sh.zeros s.size - (strLen s6))
  case atStart => exact ⟨0, _, by omega, rfl, by simp, rfl⟩
  case round =>
    obtain ⟨j, o, hj, rfl, ho, rfl⟩ := hrel
    have hos : o.size = s.size + 1 + j := by
      have h := congrArg List.length ho
      simp only [List.length_append, List.length_replicate, List.length_singleton] at h
      have e1 : o.data.toList.length = o.size := by simp
      have e2 : s.data.toList.length = s.size := by simp
      omega
    have HOS := Lib.hid hos
    have HZ2 := HZ.out
    by_cases hlt : j < Sh.zeros s.size
    · have hm := Sh.zeros_not s.size j hlt
      have hm2 : ¬ (o.size : Int) % 64 = 56 := by omega
      have hog2 : ¬ 9223372036854775807 < o.size + 1 := by omega
      have HN := Lib.hid (show (o ++ ⟨#[0]⟩ : ByteArray).data.toList = s.data.toList ++ [128] ++ List.replicate (j + 1) 0 from by rw [Sh.pad_next, ← ho]; simp)
      clear hm ho hos hze ze HZ2
      go_wp2_with fail
      refine ⟨⟨j + 1, _, by omega, rfl, HN.out, trivial⟩, ?_⟩
      simp only [strLen]
      rw [ByteArray.size_append]
      have h1 : (⟨#[0]⟩ : ByteArray).size = 1 := rfl
      have := HOS.out
      omega
    · obtain rfl : j = Sh.zeros s.size := by omega
      have hm := Sh.zeros_yes s.size _ rfl
      have hm2 : (o.size : Int) % 64 = 56 := by omega
      have HPO := Lib.hid (show P = o.data.toList ++ Sh.len8 n8 from by rw [HP.out, ho])
      clear hm ho hos hze ze HZ2 HZ HP hlt hj
      have hsz : o.size ≤ 281474976711000 := by have := HOS.out; have := Sh.zeros_lt s.size; omega
      clear HOS
      go_wp2_with fail
      clear hm2
      go_loopw [6, 7] (fun s6 s7 wy => ∃ (i : Nat) (q : ByteArray), i ≤ 8 ∧ s7 = .int .i64 ((i : Int) - 1) ∧ s6 = .string q ∧ q.data.toList = o.data.toList ++ (Sh.len8 n8).take (8 - i) ∧ Us w wy gk gh0 st) (fun _ s7 _ => (intOf s7 + 1).toNat)
      case atStart => exact ⟨8, _, by omega, rfl, rfl, by simp, HU.out⟩
      case round =>
        clear HU
        obtain ⟨i, q, hi, rfl, rfl, hq, hU⟩ := hrel
        have HU := Lib.hid hU
        have hqs : q.size ≤ 281474976711200 := by
          have h := congrArg List.length hq
          simp only [List.length_append, List.length_take, Sh.len8_len] at h
          have e1 : q.data.toList.length = q.size := by simp
          have e2 : o.data.toList.length = o.size := by simp
          omega
        cases i with
        | succ k =>
          have hx : ((k + 1 : Nat) : Int) - 1 = (k : Int) := by omega
          rw [hx]
          obtain ⟨e, he⟩ : ∃ e, 8 * k = e := ⟨_, rfl⟩
          have hw1 : IntKind.i64.wrap (8 * (k : Int)) = (e : Int) := by rw [IntKind.wrap_i64]; omega
          have he0 : (0 : Int) ≤ (e : Int) := by omega
          have hk0 : (0 : Int) ≤ (k : Int) := by omega
          have hw2 : IntKind.i64.wrap ((k : Int) - 1) = (k : Int) - 1 := by rw [IntKind.wrap_i64]; omega
          obtain ⟨b, hb⟩ : ∃ b, n8 / 2 ^ e % 256 = b := ⟨_, rfl⟩
          have hb256 : b < 256 := by omega
          have hb2 : (n8 : Int) / 2 ^ e % 256 = (b : Int) := by rw [← hb, Int.natCast_emod, Int.natCast_ediv, Int.natCast_pow]; rfl
          have kc := conv_byte wr b hb256
          obtain ⟨c, hc⟩ : ∃ c : ByteArray, ⟨#[UInt8.ofNat b]⟩ = c := ⟨_, rfl⟩
          have hcs : c.size = 1 := by rw [← hc]; rfl
          have hog2 : ¬ 9223372036854775807 < q.size + c.size := by omega
          rw [hc] at kc
          have HN := Lib.hid (show (q ++ c).data.toList = o.data.toList ++ (Sh.len8 n8).take (8 - k) from by
            have h8 := Sh.len8_next n8 (8 - (k + 1)) (by omega)
            rw [show 8 - (k + 1) + 1 = 8 - k by omega, show 7 - (8 - (k + 1)) = k by omega, he, hb] at h8
            rw [h8, ← List.append_assoc, ← hq, ← hc]; simp)
          clear hx hq hU hb hc hcs
          go_wp2_with fail
          refine ⟨⟨k, _, by omega, by go_num, rfl, HN.out, HU.out.alloc _⟩, by simp only [intOf]; omega⟩
        | zero =>
          have hx : ((0 : Nat) : Int) - 1 = -1 := by omega
          rw [hx]
          have hP : P = q.data.toList := by
            rw [HPO.out, hq, List.take_of_length_le (by rw [Sh.len8_len]; omega)]
          obtain ⟨m, hm⟩ : ∃ m, P.length = 64 * m := ⟨P.length / 64, by have := HMOD.out; omega⟩
          have hS := HSUM.out
          rw [show P.length / 64 = m by omega] at hS
          have HS := Lib.hid hS
          have hqm : q.size = 64 * m := by rw [← hm, hP]; simp
          have hqi : (q.size : Int) = 64 * (m : Int) := by omega
          have HQM := Lib.hid hqm
          have HPQ := Lib.hid hP
          clear hx hq hU hP hm HSUM hS HPO HMOD hqm
          go_wp2_with fail
          go_loopw [3, 8] (fun s3 s8 wy => ∃ (k p g cap : Nat), k ≤ m ∧ 64 * k = p ∧ s8 = .int .i64 (p : Int) ∧ s3 = .slice (some ⟨g, 0, none⟩) 8 cap ∧ Us w wy gk g (Sh.blocks P st k)) (fun _ s8 _ => q.size - (intOf s8).toNat)
          case atStart => exact ⟨0, 0, gh0, 8, by omega, rfl, rfl, rfl, HU.out⟩
          case round =>
            clear HU
            obtain ⟨k, p, g, cap, hk, hp, rfl, rfl, hU⟩ := hrel
            by_cases hkm : k < m
            · have hp0 : (0 : Int) ≤ (p : Int) := by omega
              have hp1 : (p : Int) < (q.size : Int) := by omega
              have hp2 : (p : Int) + 64 ≤ (q.size : Int) := by omega
              have hp3 : (p : Int) ≤ (p : Int) + 64 := by omega
              have hw1 : IntKind.i64.wrap ((p : Int) + 64) = (p : Int) + 64 := by rw [IntKind.wrap_i64]; omega
              have htn : ((p : Int) + 64).toNat = p + 64 := by omega
              have hb64 : (q.extract p (p + 64)).size = 64 := by rw [ByteArray.size_extract]; omega
              have hbl : (q.extract p (p + 64)).data.toList = (P.drop (64 * k)).take 64 := by
                rw [Lib.extract_data, HPQ.out, hp, show p + 64 - p = 64 by omega]
              have hB := HBLK.out (Sh.blocks P st k) (q.extract p (p + 64)) wr g cap gk 64 hb64 (Sh.blocks_ok P HOK0.out k) hU.r hU.k hU.lg hU.lk
              rw [hbl, ← Sh.blocks_succ] at hB
              have HB := Lib.hid hB
              have HU := Lib.hid hU
              have HPK := Lib.hid (show 64 * (k + 1) = p + 64 from by omega)
              clear hB hU hb64 hbl hqi hp
              go_wp2_with (go_at_call 56; (with_reducible refine HB.out.mono ?_); rintro e wz ⟨g2, cap2, rfl, hr2, hge2, hlt2, hbz⟩)
              refine ⟨⟨k + 1, p + 64, g2, cap2, by omega, HPK.out, by go_num, rfl, HU.out.k.below hbz HU.out.lk, hr2, HU.out.b.trans (hbz.mono HU.out.b.size), Nat.lt_of_lt_of_le HU.out.lk hbz.size, hlt2⟩, by simp only [intOf]; omega⟩
            · obtain rfl : k = m := by omega
              have hp1 : ¬ (p : Int) < (q.size : Int) := by omega
              have HU := Lib.hid hU
              clear hU hqi hp
              generalize Sh.blocks P st k = v at HU HS
              have HS2 := Lib.hid (show res = Sh.outN (Sh.L8 v) 8 from by rw [HS.out, Sh.out_eq])
              clear HS
              go_wp2_with fail
              go_loopw [9, 10] (fun s9 s10 wy => ∃ (i : Nat) (z : ByteArray), i ≤ 8 ∧ s10 = .int .i64 (i : Int) ∧ s9 = .string z ∧ z.data.toList = Sh.outN (Sh.L8 v) i ∧ Us w wy gk g v) (fun _ s10 _ => 8 - (intOf s10).toNat)
              case atStart => exact ⟨0, _, by omega, rfl, rfl, rfl, HU.out⟩
              case round =>
                clear HU
                obtain ⟨i, z, hi, rfl, rfl, hz, hU⟩ := hrel
                have HU := Lib.hid hU
                by_cases h8 : i < 8
                · have h8' : (i : Int) < 8 := by omega
                  have hi0 : (0 : Int) ≤ (i : Int) := by omega
                  have c0 := (hU.r i _ (wvals_get (show i < (Sh.L8 v).length from h8))).1
                  have hzs : z.size ≤ 32 := by
                    have h := congrArg List.length hz
                    rw [Sh.outN_len] at h
                    have e1 : z.data.toList.length = z.size := by simp
                    omega
                  have hon : Sh.outN (Sh.L8 v) (i + 1) = Sh.outN (Sh.L8 v) i ++ Sh.out4 ((Sh.L8 v).getD i 0) := rfl
                  generalize (Sh.L8 v).getD i 0 = x at c0 hon
                  unfold Sh.out4 at hon
                  obtain ⟨b0, hb0⟩ : ∃ b, x / 16777216 % 256 = b := ⟨_, rfl⟩
                  obtain ⟨b1, hb1⟩ : ∃ b, x / 65536 % 256 = b := ⟨_, rfl⟩
                  obtain ⟨b2, hb2⟩ : ∃ b, x / 256 % 256 = b := ⟨_, rfl⟩
                  obtain ⟨b3, hb3⟩ : ∃ b, x % 256 = b := ⟨_, rfl⟩
                  rw [hb0, hb1, hb2, hb3] at hon
                  have d0 : (x : Int) / 16777216 % 256 = (b0 : Int) := by omega
                  have d1 : (x : Int) / 65536 % 256 = (b1 : Int) := by omega
                  have d2 : (x : Int) / 256 % 256 = (b2 : Int) := by omega
                  have d3 : (x : Int) % 256 = (b3 : Int) := by omega
                  have kc := conv_four wr b0 b1 b2 b3 (by omega) (by omega) (by omega) (by omega)
                  obtain ⟨c, hc⟩ : ∃ c : ByteArray, ⟨#[UInt8.ofNat b0, UInt8.ofNat b1, UInt8.ofNat b2, UInt8.ofNat b3]⟩ = c := ⟨_, rfl⟩
                  have hcs : c.size = 4 := by rw [← hc]; rfl
                  have hog2 : ¬ 9223372036854775807 < z.size + c.size := by omega
                  rw [hc] at kc
                  have HN := Lib.hid (show (z ++ c).data.toList = Sh.outN (Sh.L8 v) (i + 1) from by rw [hon, ← hz, ← hc]; simp)
                  clear hz hU hon hb0 hb1 hb2 hb3 hc hcs
                  go_upto_region 19 with fail
                  go_region
                  all_goals (
                    go_wp2_with fail
                    refine ⟨⟨i + 1, _, by omega, by go_num, rfl, HN.out, (HU.out.alloc _).drew⟩, by simp only [intOf]; omega⟩)
                · obtain rfl : i = 8 := by omega
                  have h8' : ¬ ((8 : Nat) : Int) < 8 := by omega
                  have HO := Lib.hid (show (⟨res.toArray⟩ : ByteArray) = z from by rw [HS2.out, ← hz])
                  clear hz hU
                  go_wp2_with fail
                  go_ret
                  exact ⟨ret_str HO.out.symm, HU.out.b⟩

end Go.Proofs.YtalncnblcfcmcaaDoor
