/- The walk of wire.Get. -/
import Derived.Test.YtalncnblcfcmcaaDoorWiGet1
import Derived.Test.YtalncnblcfcmcaaDoorWiScan
namespace Go.Proofs.YtalncnblcfcmcaaDoor
open Go.RowKit

theorem Gv.new (w : World) (s : ByteArray) (a : Int) : Gv w (((((w.alloc (.cells #[.string s] 9)).alloc (.cells #[.int .i64 a] 3)).alloc (.cells #[.int .u64 0] 25)).alloc (.cells #[.int .i64 0] 3)).alloc (.cells #[.bool false] 4)) s a 0 0 false :=
  ⟨Row.alloc (Row.alloc (Row.alloc (Row.alloc (Row.at rfl rfl) (by simp) _) (by simp <;> omega) _) (by simp <;> omega) _) (by simp <;> omega) _,
   Row.alloc (Row.alloc (Row.alloc (Row.at (by simp) rfl) (by simp) _) (by simp <;> omega) _) (by simp <;> omega) _,
   Row.alloc (Row.alloc (Row.at (by simp) rfl) (by simp) _) (by simp <;> omega) _,
   Row.alloc (Row.at (by simp) rfl) (by simp) _, Row.at (by simp) rfl,
   ((((((Below.refl _ _).alloc (Nat.le_refl _) _).alloc (by simp) _).alloc (by simp <;> omega) _).alloc (by simp <;> omega) _).alloc (by simp <;> omega) _), by simp⟩

theorem data_at {s : ByteArray} {a p : Nat} (hap : a ≤ p) (hp : p < s.size) : ∃ h : p - a < (s.data.toList.drop a).length, (s.data.toList.drop a)[p - a] = s[p] := by
  have hl : s.data.toList.length = s.size := by simp
  refine ⟨by simp; omega, ?_⟩
  rw [List.getElem_drop]
  have : a + (p - a) = p := by omega
  simp [this]
  rfl

theorem extract_list (s : ByteArray) (a n : Nat) : (s.extract a n).toList = (s.data.toList.drop a).take (n - a) := by
  rw [Lib.toList_data, Lib.extract_data]

/-- what stands there, as the code hands it back -/
def Wi.val (r : Nat × Int × Bool) : Value := .tuple #[.int .u64 (r.1 : Int), .int .i64 r.2.1, .bool r.2.2]

theorem bytes_list (l : List UInt8) : (⟨l.toArray⟩ : ByteArray).toList = l := by rw [Lib.toList_data]

theorem get_never {s : ByteArray} {a : Nat} (h : Wi.at0 (s.data.toList.drop a) = none) : Wi.get s a = (0, 0, false) := by
  unfold Wi.get
  rw [if_neg (by omega), Int.toNat_natCast, h]
theorem get_found {s : ByteArray} {a c u : Nat} (h : Wi.at0 (s.data.toList.drop a) = some (u, c)) : Wi.get s a = (u, (a : Int) + (c : Int), true) := by
  unfold Wi.get
  rw [if_neg (by omega), Int.toNat_natCast, h]

theorem get_door {s : ByteArray} {a p V : Nat} {r : Bool} (hap : a ≤ p) (hd : Wi.at0 (s.data.toList.drop a) = if Wi.put V = (s.data.toList.drop a).take (p - a + 1) then some (V, p - a + 1) else none)
    (hr : ((⟨(Wi.put V).toArray⟩ : ByteArray).toList == (s.extract a (p + 1)).toList) = r) : Wi.get s a = (if r then V else 0, if r then ((p + 1 : Nat) : Int) else 0, r) := by
  rw [bytes_list, extract_list, show p + 1 - a = p - a + 1 by omega] at hr
  by_cases h : Wi.put V = (s.data.toList.drop a).take (p - a + 1)
  · rw [if_pos h] at hd
    have : r = true := by rw [← hr, h]; simp
    subst this
    rw [get_found hd]
    simp; omega
  · rw [if_neg h] at hd
    have : r = false := by rw [← hr]; simpa using h
    subst this
    rw [get_never hd]
    simp

set_option maxHeartbeats 8000000 in
theorem Get_in (s : ByteArray) (a : Nat) (w : World) (hs : a < s.size) (hz : s.size ≤ 9007199254740992) :
    Calls Tryd.prog 31 #[.string s, .int .i64 (a : Int)] w fun e w' => e = .returned (Wi.val (Wi.get s a)) ∧ Below w.heap.size w w' := by
  have hmf : ∀ (fn : Fn) (first cap : Array Value) (w : World), (Instr.makeFunc fn first cap).run Tryd.prog w = .ok (.func fn first cap) w := fun _ _ _ _ => rfl
  obtain ⟨r, hr⟩ : ∃ r, Wi.get s a = r := ⟨_, rfl⟩
  rw [hr]
  have HR := Lib.hid hr; clear hr
  have ha1 : ¬ ((a : Int) < 0) := by omega
  have ha2 : (a : Int) < (s.size : Int) := by omega
  have ha3 : ¬ ((s.size : Int) ≤ (a : Int)) := by omega
  go_enter_defers Tryd.func31, Tryd.ntmps31
  have HG0 := Lib.hid (Gv.new w s a)
  go_wp2_with fail
  go_loopw [7] (fun v wr => ∃ (p U : Nat), a ≤ p ∧ p ≤ s.size ∧ p ≤ a + 10 ∧ v = .int .i64 (p : Int) ∧ Gv w wr s a U 0 false ∧ Wi.Scan (s.data.toList.drop a) (p - a) U) (fun v _ => s.size - (intOf v).toNat)
  case atStart => exact ⟨a, 0, by omega, by omega, by omega, rfl, HG0.out, by rw [Nat.sub_self]; exact Wi.Scan.start _⟩
  case round =>
    clear HG0
    obtain ⟨p, U, h1, h2, h3, rfl, hG, hS⟩ := hrel
    obtain ⟨c0, c1, c2, c3, c4, f2, f3, f4⟩ := hG.cells
    have HG := Lib.hid hG; clear hG hmf
    have HS := Lib.hid hS; clear hS
    have hlen : (s.data.toList.drop a).length = s.size - a := by simp
    have HL := Lib.hid hlen; clear hlen
    by_cases hp : p < s.size ∧ p < a + 10
    · obtain ⟨hp1, hp2⟩ := hp
      have hp1' : (p : Int) < (s.size : Int) := by omega
      have hp2' : (p : Int) < (a : Int) + 10 := by omega
      have hp0 : (0 : Int) ≤ (p : Int) := by omega
      have hw1 : IntKind.i64.wrap ((a : Int) + 10) = (a : Int) + 10 := by rw [IntKind.wrap_i64]; omega
      obtain ⟨hj, hje⟩ := data_at h1 hp1
      obtain ⟨x, hx⟩ : ∃ x, s[p].toNat = x := ⟨_, rfl⟩
      have hx256 : x < 256 := by have := UInt8.toNat_lt s[p]; omega
      have HOR := Lib.hid (Wi.or_step U x (p - a) HS.out.lt hx256)
      have hVlt := Wi.nx_lt U x (p - a) HS.out.lt
      have HN := Lib.hid (fun (hb : 128 ≤ (s.data.toList.drop a)[p - a].toNat) => HS.out.next hj (by omega) hb)
      have HD := Lib.hid (fun (hb : (s.data.toList.drop a)[p - a].toNat < 128) => HS.out.done hj (by omega) hb)
      rw [hje, hx] at HN HD
      have HX := Lib.hid hx; clear hx hje hj
      generalize Wi.nx U x (p - a) = V at HOR HN HD hVlt
      have HV := Lib.hid hVlt; clear hVlt
      go_upto_region 6 with fail
      go_cut [41] from 30 to 41 (fun _ wx => Gv w wx s a V 0 false)
      case first =>
        go_region
        all_goals (go_wp2_with fail; go_meet; rw [HX.out, HOR.out]; exact (HG.out.setU V).drew)
      case rest =>
        clear HOR HG c0 c1 c2 c3 c4 f2 f3 f4
        obtain ⟨c0, c1, c2, c3, c4, f2, f3, f4⟩ := hcut.cells
        have HG := Lib.hid hcut; clear hcut
        go_upto_region 7 with fail
        by_cases hb : x < 128
        · have hb1 : (x : Int) < 128 := by omega
          have hx := HX.out
          have hd := HD.out hb
          clear HD HN HX
          have HDD := Lib.hid hd; clear hd
          have hb2 : (s[p].toNat : Int) < 128 := by omega
          clear hx
          go_wp2_with fail
          have hG := HG.out.setN ((p : Int) + 1)
          rw [show (p : Int) + 1 = ((p + 1 : Nat) : Int) from by omega] at hG ⊢
          generalize World.setCell _ _ _ = wz at hG ⊢
          refine leaves_cons (f := 52) (args := #[.pointer (some ⟨w.heap.size + 1 + 1 + 1, 0, none⟩), .pointer (some ⟨w.heap.size + 1 + 1, 0, none⟩), .pointer (some ⟨w.heap.size, 0, none⟩), .pointer (some ⟨w.heap.size + 1, 0, none⟩), .pointer (some ⟨w.heap.size + 1 + 1 + 1 + 1, 0, none⟩)]) (by simp) (by simp [go_sem]) ?_
          obtain ⟨rr, hrr⟩ : ∃ rr, ((⟨(Wi.put V).toArray⟩ : ByteArray).toList == (s.extract a (p + 1)).toList) = rr := ⟨_, rfl⟩
          have hget := get_door h1 HDD.out hrr
          rw [HR.out] at hget
          refine (close_pos w wz s a (p + 1) V false rr hG HV.out (by omega) (by omega) (by omega) hrr).mono ?_
          rintro e u' x' ⟨rfl, rfl, hG'⟩
          obtain ⟨_, _, d2, d3, d4, _, _, _⟩ := hG'.cells
          refine ⟨Wi.val (if rr then V else 0, if rr then ((p + 1 : Nat) : Int) else 0, rr), ?_, ?_, hG'.b⟩
          · clear hget hrr
            cases rr <;> simp [results, Tryd.results31, go_sem, d2, d3, d4, Wi.val]
          · rw [hget]
        · have hb1 : ¬ ((x : Int) < 128) := by omega
          have hx := HX.out
          have hd := HN.out (by omega)
          clear HD HN HX
          have HDD := Lib.hid hd; clear hd
          have hb2 : ¬ ((s[p].toNat : Int) < 128) := by omega
          clear hx
          go_wp2_with fail
          go_roundw
          case rel => exact ⟨p + 1, V, by omega, by omega, by omega, by go_num, HG.out, by rw [show p + 1 - a = p - a + 1 by omega]; exact HDD.out⟩
          case measure => simp [intOf]; omega
    · have HZ := Lib.hid (get_never (HS.out.never (by rw [HL.out]; omega) (by rw [HL.out]; omega)))
      clear HS HL
      by_cases hp1 : p < s.size
      · have hp1' : (p : Int) < (s.size : Int) := by omega
        have hp2' : ¬ ((p : Int) < (a : Int) + 10) := by omega
        have hw1 : IntKind.i64.wrap ((a : Int) + 10) = (a : Int) + 10 := by rw [IntKind.wrap_i64]; omega
        go_wp2_with fail
        refine leaves_cons (f := 52) (args := #[.pointer (some ⟨w.heap.size + 1 + 1 + 1, 0, none⟩), .pointer (some ⟨w.heap.size + 1 + 1, 0, none⟩), .pointer (some ⟨w.heap.size, 0, none⟩), .pointer (some ⟨w.heap.size + 1, 0, none⟩), .pointer (some ⟨w.heap.size + 1 + 1 + 1 + 1, 0, none⟩)]) (by simp) (by simp [go_sem]) ?_
        refine (close_zero w _ s a U false HG.out).mono ?_
        rintro e u' x' ⟨rfl, rfl, hG'⟩
        obtain ⟨_, _, d2, d3, d4, _, _, _⟩ := hG'.cells
        refine ⟨Wi.val (0, 0, false), ?_, ?_, hG'.b⟩
        · simp [results, Tryd.results31, go_sem, d2, d3, d4]; try rfl
        · rw [← HR.out, HZ.out]
      · have hp1' : ¬ ((p : Int) < (s.size : Int)) := by omega
        go_wp2_with fail
        refine leaves_cons (f := 52) (args := #[.pointer (some ⟨w.heap.size + 1 + 1 + 1, 0, none⟩), .pointer (some ⟨w.heap.size + 1 + 1, 0, none⟩), .pointer (some ⟨w.heap.size, 0, none⟩), .pointer (some ⟨w.heap.size + 1, 0, none⟩), .pointer (some ⟨w.heap.size + 1 + 1 + 1 + 1, 0, none⟩)]) (by simp) (by simp [go_sem]) ?_
        refine (close_zero w _ s a U false HG.out).mono ?_
        rintro e u' x' ⟨rfl, rfl, hG'⟩
        obtain ⟨_, _, d2, d3, d4, _, _, _⟩ := hG'.cells
        refine ⟨Wi.val (0, 0, false), ?_, ?_, hG'.b⟩
        · simp [results, Tryd.results31, go_sem, d2, d3, d4]; try rfl
        · rw [← HR.out, HZ.out]

theorem get_out {s : ByteArray} {a : Int} (h : a < 0 ∨ (s.size : Int) ≤ a) : Wi.get s a = (0, 0, false) := by
  unfold Wi.get
  by_cases h1 : a < 0
  · rw [if_pos h1]
  · rw [if_neg h1, List.drop_eq_nil_of_le (by simp; omega)]
    rfl

set_option maxHeartbeats 4000000 in
theorem Get_out (s : ByteArray) (a : Int) (w : World) (h : a < 0 ∨ (s.size : Int) ≤ a) :
    Calls Tryd.prog 31 #[.string s, .int .i64 a] w fun e w' => e = .returned (Wi.val (Wi.get s a)) ∧ Below w.heap.size w w' := by
  have hmf : ∀ (fn : Fn) (first cap : Array Value) (w : World), (Instr.makeFunc fn first cap).run Tryd.prog w = .ok (.func fn first cap) w := fun _ _ _ _ => rfl
  obtain ⟨r, hr⟩ : ∃ r, Wi.get s a = r := ⟨_, rfl⟩
  rw [hr]
  have hz := get_out h
  rw [hr] at hz
  have HR := Lib.hid hz; clear hz hr
  have HG0 := Lib.hid (Gv.new w s a)
  by_cases ha : a < 0
  case' neg =>
    have ha2 : ¬ (a < (s.size : Int)) := by omega
    have ha3 : (s.size : Int) ≤ a := by omega
  all_goals
    clear h
    go_enter_defers Tryd.func31, Tryd.ntmps31
    go_wp2_with fail
    refine leaves_cons (f := 52) (args := #[.pointer (some ⟨w.heap.size + 1 + 1 + 1, 0, none⟩), .pointer (some ⟨w.heap.size + 1 + 1, 0, none⟩), .pointer (some ⟨w.heap.size, 0, none⟩), .pointer (some ⟨w.heap.size + 1, 0, none⟩), .pointer (some ⟨w.heap.size + 1 + 1 + 1 + 1, 0, none⟩)]) (by simp) (by simp [go_sem]) ?_
    refine (close_zero w _ s a 0 false HG0.out).mono ?_
    rintro e u' x' ⟨rfl, rfl, hG'⟩
    obtain ⟨_, _, d2, d3, d4, _, _, _⟩ := hG'.cells
    refine ⟨Wi.val (0, 0, false), ?_, ?_, hG'.b⟩
    · simp [results, Tryd.results31, go_sem, d2, d3, d4]; try rfl
    · rw [HR.out]

theorem Get_any (s : ByteArray) (a : Int) (w : World) (hz : s.size ≤ 9007199254740992) :
    Calls Tryd.prog 31 #[.string s, .int .i64 a] w fun e w' => e = .returned (Wi.val (Wi.get s a)) ∧ Below w.heap.size w w' := by
  by_cases h : a < 0 ∨ (s.size : Int) ≤ a
  · exact Get_out s a w h
  · obtain ⟨n, rfl⟩ := Int.eq_ofNat_of_zero_le (show 0 ≤ a by omega)
    exact Get_in s n w (by omega) hz

end Go.Proofs.YtalncnblcfcmcaaDoor
