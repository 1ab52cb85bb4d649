/- The walk of FrameBack. -/
import Derived.Test.YthcikclkocbhpaaFrSame
import Derived.Test.YthcikclkocbhpaaFrEnds
import Derived.Deep.RegionHeld3
import Derived.Deep.AppendLies
import Derived.OpenShut
namespace Go.Proofs.Ythcikclkocbhpaa
open Go.RowKit

/-- the first 2000 bytes of a text -/
def cut2 (s : ByteArray) : ByteArray := s.extract 0 (if 2000 < (s.size : Int) then (2000 : Int) else (s.size : Int)).toNat
theorem cut2_size (s : ByteArray) : (cut2 s).size ≤ 2000 := by
  unfold cut2; split <;> simp <;> omega
theorem cut2_form (s : ByteArray) : ∃ m : Nat, m ≤ s.size ∧ (if 2000 < (s.size : Int) then (2000 : Int) else (s.size : Int)) = (m : Int) ∧ s.extract 0 m = cut2 s := by
  by_cases h : 2000 < (s.size : Int)
  · exact ⟨2000, by omega, by rw [if_pos h]; rfl, by unfold cut2; rw [if_pos h]; rfl⟩
  · exact ⟨s.size, by omega, by rw [if_neg h], by unfold cut2; rw [if_neg h]; rfl⟩
/-- the records of some texts, one behind another -/
def puts (l : List ByteArray) : List UInt8 := (l.map fun s => Fr.put (cut2 s).data.toList).flatten

theorem snoc_last {α : Type} (xs : List α) (x : α) {k : Nat} (h : xs.length = k) : (xs ++ [x])[k]? = some x := by
  subst h; simp

theorem bytes_app (a b : List UInt8) : (⟨a.toArray⟩ ++ ⟨b.toArray⟩ : ByteArray) = ⟨(a ++ b).toArray⟩ := by
  apply ByteArray.ext
  apply Array.toList_inj.1
  simp

theorem puts_snoc (l : List ByteArray) {k : Nat} (h : k < l.length) : puts (l.take (k + 1)) = puts (l.take k) ++ Fr.put (cut2 l[k]).data.toList := by
  unfold puts
  rw [List.take_succ_eq_append_getElem h, List.map_append, List.flatten_append]
  simp
theorem cuts_snoc (l : List ByteArray) {k : Nat} (h : k < l.length) : (l.take (k + 1)).map (fun s => Value.string (cut2 s)) = (l.take k).map (fun s => Value.string (cut2 s)) ++ [.string (cut2 l[k])] := by
  rw [List.take_succ_eq_append_getElem h, List.map_append]
  rfl
theorem cut2_len (s : ByteArray) : (cut2 s).data.toList.length ≤ 2000 := by have := cut2_size s; simpa using this
theorem puts_le : ∀ l : List ByteArray, (puts l).length ≤ 2008 * l.length
  | [] => by simp [puts]
  | s :: l => by
    have h1 := puts_le l
    have h2 := Fr.put_length (cut2 s).data.toList (by have := cut2_len s; omega)
    have h3 := cut2_len s
    have : puts (s :: l) = Fr.put (cut2 s).data.toList ++ puts l := by simp [puts]
    rw [this, List.length_append, List.length_cons]; omega

theorem endOf_eq : ∀ l : List (List UInt8 × Nat), endOf l = Fr.lastEnd 0 l := fun l => by
  rw [Fr.lastEnd_eq]
  rfl

/-- frame.All of records, one behind another, and of what is no record behind them -/
theorem All_recs (S : ByteArray) (B : List (List UInt8)) (tail : List UInt8) (w : World) (hS : S.data.toList = (B.map Fr.put).flatten ++ tail) (hB : ∀ b ∈ B, b.length ≤ 65536)
    (hn : Fr.next ((B.map Fr.put).flatten ++ tail) ((B.map Fr.put).flatten).length = none) (hs : S.size ≤ maxLen) (h16 : B.length * 16 ≤ 140737488355328) :
    Calls Try.prog 13 #[.string S] w fun e W' => ∃ v, e = .returned (.tuple #[v, .int .i64 (((B.map Fr.put).flatten).length : Nat)]) ∧ W'.ownsRow w.heap.size 9 1 v B.length (B.map strOf) ∧ Below w.heap.size w W' := by
  have h := Fr.all_ends B [] tail hB (by simpa using hn)
  simp only [List.nil_append, List.length_nil] at h
  rw [← hS] at h
  have hlen := Fr.ends_length B 0
  refine (All_any S hs (by rw [h, hlen]; exact h16) w).mono ?_
  rintro e W' ⟨v, rfl, hr, hb⟩
  rw [h] at hr ⊢
  rw [endOf_eq, Fr.ends_last B 0 hB, Nat.zero_add]
  have hm : (Fr.ends 0 B).map (fun x => strOf x.1) = B.map strOf := by
    conv => rhs; rw [← Fr.ends_fst B 0]
    rw [List.map_map]; rfl
  rw [hm, hlen] at hr
  exact ⟨v, rfl, hr, hb⟩

/-- the bodies of some texts -/
def bodies (l : List ByteArray) : List (List UInt8) := l.map fun s => (cut2 s).data.toList
theorem puts_eq (l : List ByteArray) : puts l = ((bodies l).map Fr.put).flatten := by unfold puts bodies; rw [List.map_map]; rfl
theorem bodies_le (l : List ByteArray) : ∀ b ∈ bodies l, b.length ≤ 65536 := by
  intro b hb
  obtain ⟨s, _, rfl⟩ := List.mem_map.1 hb
  have := cut2_len s
  omega
theorem bodies_length (l : List ByteArray) : (bodies l).length = l.length := by simp [bodies]
theorem bodies_str (l : List ByteArray) : (bodies l).map strOf = (l.map cut2).map Value.string := by
  unfold bodies
  rw [List.map_map, List.map_map]
  apply List.map_congr_left
  intro s _
  show Value.string ⟨(cut2 s).data.toList.toArray⟩ = _
  rw [Lib.mk_data]
  rfl

theorem row_below {w w' : World} {base size n : Nat} {e : TypeId} {v : Value} {xs : List Value} (h : w.ownsRow base e size v n xs) (hb : Below w.heap.size w w') : w'.ownsRow base e size v n xs :=
  h.kept (grown_of_below hb) (by cases hv : v.ownBlock with
    | none => exact .inl rfl
    | some k => exact .inr (by simp))

theorem StrsAt.form {w : World} {v : Value} {l : List ByteArray} (h : StrsAt w v l) : ∃ a cap, v = .slice a l.length cap ∧ ∀ k (hk : k < l.length), ∃ g off, a = some ⟨g, off, none⟩ ∧ w.cell? ⟨g, off + k, none⟩ = some (.string l[k]) := by
  rcases h with ⟨a, c, rfl, rfl⟩ | ⟨g, off, cap, rfl, hc⟩
  · exact ⟨a, c, rfl, fun k hk => absurd hk (by simp)⟩
  · exact ⟨_, cap, rfl, fun k hk => ⟨g, off, rfl, hc k hk⟩⟩

set_option maxRecDepth 100000 in
set_option maxHeartbeats 2000000 in
theorem FrameBack_core (v : Value) (l : List ByteArray) (s : ByteArray) (i : Nat) (w : World) (hv : StrsAt w v l) (hlen : l.length * 16 ≤ 140737488351232)
    (hsz : ∀ s ∈ l, s.size ≤ maxLen) (_hs : s.size ≤ maxLen) (_hi : i < 65536) :
    Calls Try.prog 4 #[v, .string s, .int .u16 (i : Int)] w fun e w' => e = .returned (.bool true) ∧ Below w.heap.size w w' := by
  unfold maxLen at _hs
  obtain ⟨i0, hi, hz0, hz1, hz2⟩ := info_parts Try.infoStr
  obtain ⟨a, cap, rfl, hc⟩ := hv.form
  have HC := Lib.hid hc; clear hc hv
  have HSZ := Lib.hid hsz; clear hsz
  go_enter Try.func4, Try.ntmps4
  go_wp2_with fail
  refine (examples_any _).mono ?_
  rintro e w1 ⟨rfl, hb1⟩
  go_wp2_with fail
  go_loopw [8, 9, 10] (fun s v i wr => ∃ k : Nat, k ≤ l.length ∧ i = .int .i64 k ∧ s = .string ⟨(puts (l.take k)).toArray⟩ ∧ wr.ownsRow w1.heap.size 9 1 v k ((l.take k).map fun s => .string (cut2 s)) ∧ Below w1.heap.size w1 wr) (fun _ _ i _ => l.length - (intOf i).toNat)
  case atStart => exact ⟨0, by omega, rfl, rfl, World.ownsRow_nil _ _ _ _, Below.refl _ _⟩
  case round =>
    obtain ⟨k, hk, rfl, rfl, hrow, hbel⟩ := hrel
    by_cases hlt : k < l.length
    · obtain ⟨g, off, rfl, hcw⟩ := HC.out k hlt
      have hgw := World.block_lt_of_cell? w _ hcw
      have hgw1 : g < w1.heap.size := Nat.lt_of_lt_of_le hgw hb1.size
      have hc1 := ((hbel.cell (p := ⟨g, off + k, none⟩) hgw1).trans (hb1.cell (p := ⟨g, off + k, none⟩) hgw)).trans hcw
      have hgr : g < wr.heap.size := Nat.lt_of_lt_of_le hgw1 hbel.size
      have hszk := HSZ.out _ (List.getElem_mem hlt)
      obtain ⟨m, hm1, hm2, hcut⟩ := cut2_form l[k]
      have hm3 : (m : Int) ≤ (l[k].size : Int) := by omega
      have ag : u9.ownBlock ≠ some g := fun e => by have := (hrow.lt g e).1; omega
      have hps := puts_snoc l hlt
      have hcs := cuts_snoc l hlt
      have hws := hbel.size
      have hpl := puts_le (l.take k)
      rw [List.length_take, Nat.min_eq_left (by omega)] at hpl
      have hpp := Fr.put_length_le (cut2 l[k]).data.toList
      have hcl := cut2_size l[k]
      have hlt' : (k : Int) < (l.length : Int) := by omega
      have h0' : (0 : Int) ≤ (k : Int) := by omega
      have HPS := Lib.hid hps; clear hps
      have HCS := Lib.hid hcs; clear hcs hcw
      unfold maxLen at hszk
      go_wp2_with fail
      go_region_held3 (fun w' => w'.cell? ⟨g, off + k, none⟩ = some (.string l[k])) (first | go_keep | (rw [hgrow.cell_far _ (by simp; omega) (Ne.symm ag)]; assumption))
        ((refine step_append_lies _ (by rfl) _ _ _ (by rfl) w1.heap.size 9 i0 _ 1 16 Try.underlying22 hi hz0 hz1 hz2 rfl (by omega) u9 k _ (by rfl) ((hrow.alloc _).drew) ⟨wr.heap.size, 0, none⟩ 1 1 [.string (cut2 l[k])] (by rfl) (by rfl) (World.news_of_block (cs := #[.string (cut2 l[k])]) (t := 9) (fr := (0, 0)) (heap_alloc_new wr _)) (by simp [Value.oneCell']) (by omega) (by unfold maxLen; omega) (by omega) (by simp; omega) (wr.heap.size + 1) (by simp) ?_; intro gg cap' w2 hown1 hgrow hat hlt2))
      have hck : w2.cell? ⟨gg, k, none⟩ = some (.string (cut2 l[k])) := by
        rw [hown1.cellAt k (by omega)]
        exact snoc_last _ _ (by simp; omega)
      have hg2 : gg < w2.heap.size := hlt2
      have hb2 : Below w1.heap.size w1 w2 := (hbel.alloc hws (.cells #[.string (cut2 l[k])] 9)).drew.grown hgrow (by simp; omega) (fun j e => (hrow.lt j e).1)
      have HB2 := Lib.hid hb2
      have HOWN := Lib.hid hown1
      clear hown1 hgrow hat hm2 hcut hb2
      go_wp2_with fail
      refine (Put_any _ _).mono ?_
      rintro e w3 ⟨rfl, hb3⟩
      generalize Fr.put (cut2 l[k]).data.toList = PK at *
      generalize puts (l.take k) = PS at *
      go_wp2_with fail
      rw [bytes_app]
      go_roundw
      case rel =>
        refine ⟨k + 1, by omega, by go_num, by rw [HPS.out], ?_, HB2.out.trans (hb3.mono HB2.out.size)⟩
        have := HOWN.out.kept (grown_of_below hb3) (.inr (by simp [Value.ownBlock]))
        rw [HCS.out]
        exact this
      case measure => simp [intOf]; omega
    · obtain rfl : k = l.length := by omega
      rw [List.take_length] at hrow
      rw [List.take_length]
      have hL := cut2_len s
      obtain ⟨m, hm1, hm2, hcut⟩ := cut2_form s
      have hm3 : (m : Int) ≤ (s.size : Int) := by omega
      have hm4 : (0 : Int) ≤ (m : Int) := by omega
      obtain ⟨L, hLd⟩ : ∃ L, (cut2 s).data.toList = L := ⟨_, rfl⟩
      have hsz2 : (cut2 s).size = L.length := by rw [← hLd]; simp
      rw [hLd] at hL
      have hP := Fr.put_length L (by omega)
      have HPUT := Lib.hid (fun w => Put_lit (cut2 s) (Fr.put L) w (by rw [hLd]))
      have hput8 : (⟨(Fr.put L).toArray⟩ : ByteArray).size = L.length + 8 := by show (Fr.put L).toArray.size = _; simpa using hP
      obtain ⟨c, hcm⟩ : ∃ c, i % (L.length + 8) = c := ⟨_, rfl⟩
      have hcm' : (i : Int) % ((L.length : Int) + 8) = (c : Int) := by rw [← hcm, Int.natCast_emod]; rfl
      have hclt : c < L.length + 8 := by rw [← hcm]; exact Nat.mod_lt _ (by omega)
      clear hcm hm1
      have HLD := Lib.hid hLd; clear hLd
      have hpl := puts_le l
      obtain ⟨T, hT⟩ : ∃ T, (⟨(Fr.put L).toArray⟩ : ByteArray).extract 0 c = T := ⟨_, rfl⟩
      have hTd : T.data.toList = (Fr.put L).take c := by rw [← hT, Lib.extract_data]; simp
      have hTs : T.size ≤ 2008 := by rw [← hT]; simp; omega
      have hS1 : ((⟨(puts l).toArray⟩ : ByteArray) ++ T).data.toList = ((bodies l).map Fr.put).flatten ++ (Fr.put L).take c := by
        rw [← puts_eq, ← hTd]; simp
      have hS2 : ((⟨(puts l).toArray⟩ : ByteArray) ++ ⟨(Fr.put L).toArray⟩).data.toList = ((bodies l ++ [L]).map Fr.put).flatten ++ [] := by
        rw [List.map_append, List.flatten_append, ← puts_eq]; simp
      have hps : (⟨(puts l).toArray⟩ : ByteArray).size ≤ 2008 * l.length := by show (puts l).toArray.size ≤ _; simpa using hpl
      have hbl := bodies_length l
      have HA1 := Lib.hid (fun w => All_recs ((⟨(puts l).toArray⟩ : ByteArray) ++ T) (bodies l) ((Fr.put L).take c) w hS1 (bodies_le l) (Fr.next_torn _ L c (by omega) (by omega)) (by rw [ByteArray.size_append]; unfold maxLen; omega) (by omega))
      have HA2 := Lib.hid (fun w => All_recs ((⟨(puts l).toArray⟩ : ByteArray) ++ ⟨(Fr.put L).toArray⟩) (bodies l ++ [L]) [] w hS2 (by
        intro b hb
        rcases List.mem_append.1 hb with h | h
        · exact bodies_le l b h
        · rw [List.mem_singleton.1 h]; omega) (by rw [List.append_nil]; exact Fr.next_end _) (by rw [ByteArray.size_append, hput8]; unfold maxLen; omega) (by rw [List.length_append, List.length_singleton]; omega))
      have hend2 : (((bodies l ++ [L]).map Fr.put).flatten).length = (puts l).length + (L.length + 8) := by
        rw [List.map_append, List.flatten_append, ← puts_eq, List.length_append]; simp [hP]
      rw [hend2] at HA2
      rw [← puts_eq] at HA1
      clear hS1 hS2 hTd hend2 hput8
      go_wp2_with fail
      refine (HPUT.out _).mono ?_
      rintro e w2 ⟨rfl, hb2⟩
      go_upto_region 16 with fail
      clear hT hm2 hcut hcm' HPUT
      have hbody := bodies_str l
      have hbody2 : (bodies l ++ [L]).map strOf = (l.map cut2 ++ [cut2 s]).map Value.string := by
        rw [List.map_append, bodies_str, List.map_append]
        congr 1
        show [Value.string ⟨L.toArray⟩] = [Value.string (cut2 s)]
        rw [← HLD.out, Lib.mk_data]
      rw [hbody] at HA1
      rw [hbody2] at HA2
      have hlen2 : (bodies l ++ [L]).length = l.length + 1 := by simp [hbl]
      rw [hlen2] at HA2
      rw [hbl] at HA1
      have ecut : (l.map fun s => Value.string (cut2 s)) = (l.map cut2).map Value.string := by rw [List.map_map]; rfl
      rw [ecut] at hrow
      clear ecut
      clear hbody hbody2 hlen2 hbl
      have hq := hpl
      generalize puts l = PS at *
      have hTs' : ¬ (9223372036854775807 < PS.length + T.size) := by omega
      go_wp2_with fail
      refine (HA1.out _).mono ?_
      rintro e w3 ⟨v3, rfl, hr3, hb3⟩
      have HR3 := Lib.hid hr3; clear hr3
      go_wp2_with fail
      refine (HA2.out _).mono ?_
      rintro e w4 ⟨v4, rfl, hr4, hb4⟩
      have HR4 := Lib.hid hr4; clear hr4
      go_wp2_with fail
      have hcsl : (l.map cut2).length = l.length := by simp
      have hb24 := below4 hb2 (below4 hb3 hb4)
      have hu4 := row_below hrow hb24
      have hv3 := row_below HR3.out hb4
      refine (same_any _ _ (l.map cut2) _ (StrsAt.row hv3) (StrsAt.row hu4) (by omega)).mono ?_
      rintro e w5 ⟨rfl, hb5⟩
      have hu5 := row_below hu4 hb5
      have hv5 := row_below HR4.out hb5
      have hblk : ∀ k, u9.ownBlock = some k → k < w3.heap.size := fun k hk => Nat.lt_of_lt_of_le (hrow.lt k hk).2 (Nat.le_trans hb2.size hb3.size)
      have hblk4 := HR4.out.lt
      have hwb : w1.heap.size ≤ w5.heap.size := Nat.le_trans hbel.size (Nat.le_trans hb24.size hb5.size)
      have HV5 := Lib.hid hv5
      have HBLK := Lib.hid hblk
      have HBLK4 := Lib.hid hblk4
      clear hv3 hu4 hrow hv5 hblk hblk4
      go_wp2_with (at_builtin; refine BigFrame.wpList_want (by rfl) (fun K hK => ?_); refine wp_append_lies _ _ _ 22 rfl w1.heap.size 9 i0 (.string ⟨#[]⟩) 1 16 Try.underlying22 hi hz0 hz1 hz2 rfl (by decide) u9 l.length _ rfl (hu5.alloc _) ⟨w5.heap.size, 0, none⟩ 1 1 [.string (cut2 s)] rfl rfl (cell_one_new _ _ _) (by simp [Value.oneCell']) (by decide) (by unfold maxLen; omega) (by omega) (by simp; omega) (w5.heap.size + 1) (by simp) ?_; intro gg cap' w6 hown6 hgrow hat hlt6; refine hK _ _ ?_; clear hK K)
      have hu6 : w6.ownsRow w1.heap.size 9 1 (.slice (some ⟨gg, 0, none⟩) (l.length + 1) cap') (l.length + 1) ((l.map cut2 ++ [cut2 s]).map Value.string) := by
        rw [List.map_append]; exact hown6
      have hv6 : w6.ownsRow w3.heap.size 9 1 v4 (l.length + 1) ((l.map cut2 ++ [cut2 s]).map Value.string) := by
        refine ((HV5.out.alloc (.cells #[.string (cut2 s)] 9)).kept hgrow ?_)
        cases hk4 : v4.ownBlock with
        | none => exact .inl rfl
        | some k4 =>
          refine .inr fun e => ?_
          have h1 := (HBLK4.out k4 hk4).1
          have h2 := HBLK.out k4 e.symm
          omega
      have hcl2 : (l.map cut2 ++ [cut2 s]).length = l.length + 1 := by simp
      refine (same_any _ _ (l.map cut2 ++ [cut2 s]) _ (StrsAt.row hv6) (StrsAt.row hu6) (by omega)).mono ?_
      rintro e w7 ⟨rfl, hb7⟩
      have hw0 : Below w1.heap.size w1 w7 := (((hbel.trans (hb24.mono hbel.size)).trans (hb5.mono (Nat.le_trans hbel.size hb24.size))).alloc hwb (.cells #[.string (cut2 s)] 9)).grown hgrow (by simp; omega) (fun j e => (hu5.lt j e).1) |>.trans (hb7.mono (by have := hgrow.size; simp at this; omega))
      have HW0 := Lib.hid hw0
      clear hu6 hv6 hcl2 hw0 hown6 hgrow hat
      go_wp2_with fail
      go_ret
      exact ⟨rfl, below4 hb1 HW0.out⟩

theorem FrameBack_walk (v : Value) (l : List ByteArray) (s : ByteArray) (i : Int) (w : World) (hv : StrsAt w v l) (hsz : ∀ s ∈ l, s.size ≤ maxLen) (hlen : l.length * 16 ≤ 140737488351232)
    (hs : s.size ≤ 140737488351232) (wi : (Lit.int .u16 i).wf = true) :
    Calls Try.prog 4 #[v, .string s, .int .u16 i] w fun e w' => e = .returned (.bool true) ∧ Below w.heap.size w w' := by
  have h1 := bounds_u16 wi
  obtain ⟨m, rfl⟩ := Int.eq_ofNat_of_zero_le h1.1
  exact FrameBack_core v l s m w hv hlen hsz (by unfold maxLen; omega) (by omega)

end Go.Proofs.Ythcikclkocbhpaa
