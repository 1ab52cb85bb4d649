/- The walk of the document's own block. -/
import Derived.Test.YtalncnblcfcmcaaDoorShRefA
import Derived.Test.YtalncnblcfcmcaaDoorShPar
import Derived.Deep.AppendLies
import Derived.Deep.RegionHeld3
import Derived.Deep.RegionLaw
import Derived.BigRegion
namespace Go.Proofs.YtalncnblcfcmcaaDoor
open Go.RowKit

theorem Tryd.infoU32 : (Tryd.prog.info? 77).map (fun i => (i.zero, i.size, i.bytes)) = some (some (.int .u32 0), 1, 4) := by kernel_rfl
theorem wvals_snoc (l : List Nat) (x : Nat) : wvals l ++ [.int .u32 (x : Int)] = wvals (l ++ [x]) := by unfold wvals; simp
theorem Sh.wordsN_low (b : List UInt8) {i : Nat} (h : i < 16) : Sh.wordsN b (i + 1) = Sh.wordsN b i ++ [Sh.word b i] := by
  rw [Sh.wordsN, Sh.wstep, Sh.wordsN_len, if_pos h]
theorem Sh.wordsN_high (b : List UInt8) {i : Nat} (h : ¬ i < 16) : Sh.wordsN b (i + 1) = Sh.wordsN b i ++ [Sh.made (Sh.wordsN b i) i] := by
  rw [Sh.wordsN, Sh.wstep, Sh.wordsN_len, if_neg h]

/-- a slice of words that a call makes, behind its variables -/
structure Ow (w y : World) (v : Value) (n : Nat) (l : List Nat) : Prop where
  o : y.ownsRow w.heap.size 77 1 v n (wvals l)
  b : Below w.heap.size w y
theorem Ow.drewN {w y : World} {v : Value} {n : Nat} {l : List Nat} (h : Ow w y v n l) (m : Nat) : Ow w (y.drewN m) v n l := ⟨h.o, below_drewN h.b m⟩
theorem Ow.cell {w y : World} {g cap n : Nat} {l : List Nat} (h : Ow w y (.slice (some ⟨g, 0, none⟩) n cap) n l) (j : Nat) (hj : j < n) (hl : l.length = n) : y.cell? ⟨g, j, none⟩ = some (.int .u32 ((l.getD j 0 : Nat) : Int)) := by
  rw [h.o.cellAt j (by omega), wvals_get (by omega)]

theorem Ow.row {w y : World} {g cap n : Nat} {l : List Nat} (h : Ow w y (.slice (some ⟨g, 0, none⟩) n cap) n l) (hl : l.length = n) : Row y g (wvals l) := fun j v e => by
  obtain ⟨hj, _⟩ := List.getElem?_eq_some_iff.1 e
  rw [wvals_len] at hj
  exact ⟨by rw [h.o.cellAt j (by omega)]; exact e, h.o.frozenAt j⟩

theorem refturn_q (x n : Nat) (w : World) (k : Nat) (hx : x < 4294967296) (h1 : 1 ≤ n) (h2 : n ≤ 31) :
    Calls Tryd.prog 69 #[.int .u32 (x : Int), .int .i64 (n : Int)] (w.drewN k) fun e w' => e = .returned (.int .u32 (Sh.rotr x n : Nat)) ∧ ∃ m, w' = w.drewN m :=
  (refturn_quiet x n (w.drewN k) hx h1 h2).mono (by rintro e u ⟨h, m, hm⟩; exact ⟨h, k + m, by rw [hm]; simp [World.drewN, Nat.add_assoc]⟩)
theorem Sh.K_len : Sh.K.length = 64 := by kernel_rfl

/-- the sums of the words -/
structure Ms (w x : World) (gv : Nat) (l : List Nat) : Prop where
  r : Row x gv (wvals l)
  b : Below w.heap.size w x
  lt : gv < x.heap.size
  ge : w.heap.size ≤ gv
theorem Ms.drew {w x : World} {gv : Nat} {l : List Nat} (h : Ms w x gv l) : Ms w x.drew gv l := ⟨h.r, h.b.drew, h.lt, h.ge⟩
theorem Ms.set {w x : World} {gv : Nat} {l : List Nat} (h : Ms w x gv l) (j v : Nat) (hj : j < l.length) : Ms w (x.setCell ⟨gv, j, none⟩ (.int .u32 (v : Int))) gv (l.set j v) :=
  ⟨by rw [← wvals_set]; exact h.r.set j _ (by rw [wvals_len]; exact hj), h.b.setCell (p := ⟨gv, j, none⟩) h.ge _, by simpa using h.lt, h.ge⟩
theorem one_int2 {k w : Nat} {v : Sh.V} (ho : v.ok) {r6 r11 r25 : Nat} (h6 : Sh.rotr v.e 6 = r6) (h11 : Sh.rotr v.e 11 = r11) (h25 : Sh.rotr v.e 25 = r25) :
    ((((v.h : Int) + bits .xor .u32 (bits .xor .u32 (r6 : Int) (r11 : Int)) (r25 : Int) + bits .xor .u32 (bits .and .u32 (v.e : Int) (v.f : Int)) (bits .and .u32 (bits .xor .u32 (if IntKind.u32.signed = true then -1 else IntKind.u32.max) (v.e : Int)) (v.g : Int)) + (k : Int)) % 4294967296 + (w : Int)) % 4294967296) = ((Sh.one k w v : Nat) : Int) := by
  rw [← one_int ho h6 h11 h25, if_neg (by decide)]
  generalize bits .xor .u32 (bits .xor .u32 (r6 : Int) (r11 : Int)) (r25 : Int) = x
  generalize bits .xor .u32 (bits .and .u32 (v.e : Int) (v.f : Int)) _ = y
  simp only [IntKind.wrap_u32]
  omega
theorem two_int2 {v : Sh.V} (ho : v.ok) {r2 r13 r22 : Nat} (h2 : Sh.rotr v.a 2 = r2) (h13 : Sh.rotr v.a 13 = r13) (h22 : Sh.rotr v.a 22 = r22) :
    (bits .xor .u32 (bits .xor .u32 (r2 : Int) (r13 : Int)) (r22 : Int) + bits .xor .u32 (bits .xor .u32 (bits .and .u32 (v.a : Int) (v.b : Int)) (bits .and .u32 (v.a : Int) (v.c : Int))) (bits .and .u32 (v.b : Int) (v.c : Int))) % 4294967296 = ((Sh.two v : Nat) : Int) := by
  rw [← two_int ho h2 h13 h22, IntKind.wrap_u32]

/-- the variables of the rounds -/
structure Rs (w x : World) (gw gv : Nat) (WL : List Nat) (v : Sh.V) : Prop where
  ww : Row x gw (wvals WL)
  vv : Row x gv (wvals (Sh.L8 v))
  b : Below w.heap.size w x
  lw : gw < x.heap.size
  lv : gv < x.heap.size
  ge : w.heap.size ≤ gv
theorem Rs.drewN {w x : World} {gw gv : Nat} {WL : List Nat} {v : Sh.V} (h : Rs w x gw gv WL v) (n : Nat) : Rs w (x.drewN n) gw gv WL v := ⟨h.ww, h.vv, below_drewN h.b n, h.lw, h.lv, h.ge⟩
theorem Rs.drew {w x : World} {gw gv : Nat} {WL : List Nat} {v : Sh.V} (h : Rs w x gw gv WL v) : Rs w x.drew gw gv WL v := ⟨h.ww, h.vv, h.b.drew, h.lw, h.lv, h.ge⟩
theorem Rs.next {w x : World} {gw gv : Nat} {WL : List Nat} {v : Sh.V} (h : Rs w x gw gv WL v) (u : Sh.V) (arr : Array Value) (hu : arr.toList = wvals (Sh.L8 u)) : Rs w (x.alloc (.cells arr 77)) gw x.heap.size WL u :=
  ⟨h.ww.alloc h.lw _, Row.at rfl hu, h.b.alloc h.b.size _, by have := h.lw; simp; omega, by simp, h.b.size⟩

set_option maxRecDepth 100000 in
set_option maxHeartbeats 64000000 in
theorem refblock_any (st : Sh.V) (b : ByteArray) (w : World) (gh caph gk capk : Nat) (hb : b.size = 64) (hh : st.ok) (hH : Row w gh (wvals (Sh.L8 st))) (hK : Row w gk (wvals Sh.K)) (lh : gh < w.heap.size) (lk : gk < w.heap.size) :
    Calls Tryd.prog 56 #[.slice (some ⟨gh, 0, none⟩) 8 caph, .slice (some ⟨gk, 0, none⟩) 64 capk, .string b] w fun e w' => ∃ g cap, e = .returned (.slice (some ⟨g, 0, none⟩) 8 cap) ∧ Row w' g (wvals (Sh.L8 (Sh.block st b.data.toList))) ∧ w.heap.size ≤ g ∧ g < w'.heap.size ∧ Below w.heap.size w w' := by
  obtain ⟨i0, hi, hz0, hz1, hz2⟩ := info_parts Tryd.infoU32
  have HH := Lib.hid hH; clear hH
  have HK := Lib.hid hK; clear hK
  have HBK := Lib.hid (Sh.block_eq st b.data.toList)
  generalize Sh.block st b.data.toList = z at HBK ⊢
  go_enter Tryd.func56, Tryd.ntmps56
  go_wp2_with fail
  go_loopw [7, 8] (fun s7 s8 wr => ∃ i : Nat, i ≤ 16 ∧ s8 = .int .i64 (i : Int) ∧ Ow w wr s7 i (Sh.wordsN b.data.toList i)) (fun _ s8 _ => 16 - (intOf s8).toNat)
  case atStart => exact ⟨0, by omega, rfl, World.ownsRow_nil _ _ _ _, Below.refl _ _⟩
  case round =>
    obtain ⟨i, hi16, rfl, hO⟩ := hrel
    by_cases h16 : i < 16
    · have h16' : (i : Int) < 16 := by omega
      obtain ⟨p0, hp0⟩ : ∃ p, 4 * i = p := ⟨_, rfl⟩
      obtain ⟨p1, hp1⟩ : ∃ p, 4 * i + 1 = p := ⟨_, rfl⟩
      obtain ⟨p2, hp2⟩ : ∃ p, 4 * i + 2 = p := ⟨_, rfl⟩
      obtain ⟨p3, hp3⟩ : ∃ p, 4 * i + 3 = p := ⟨_, rfl⟩
      have q0 : IntKind.i64.wrap (4 * (i : Int)) = (p0 : Int) := by rw [IntKind.wrap_i64]; omega
      have q1 : IntKind.i64.wrap ((p0 : Int) + 1) = (p1 : Int) := by rw [IntKind.wrap_i64]; omega
      have q2 : IntKind.i64.wrap ((p0 : Int) + 2) = (p2 : Int) := by rw [IntKind.wrap_i64]; omega
      have q3 : IntKind.i64.wrap ((p0 : Int) + 3) = (p3 : Int) := by rw [IntKind.wrap_i64]; omega
      have r0 : p0 < b.size := by omega
      have r1 : p1 < b.size := by omega
      have r2 : p2 < b.size := by omega
      have r3 : p3 < b.size := by omega
      have b0 : (0 : Int) ≤ (p0 : Int) := by omega
      have b1 : (0 : Int) ≤ (p1 : Int) := by omega
      have b2 : (0 : Int) ≤ (p2 : Int) := by omega
      have b3 : (0 : Int) ≤ (p3 : Int) := by omega
      have b0' : (p0 : Int) < 64 := by omega
      have b1' : (p1 : Int) < 64 := by omega
      have b2' : (p2 : Int) < 64 := by omega
      have b3' : (p3 : Int) < 64 := by omega
      have hword : Sh.word b.data.toList i = Sh.four b[p0].toNat b[p1].toNat b[p2].toNat b[p3].toNat := by
        unfold Sh.word
        rw [hp1, hp2, hp3, hp0, byte_at b r0, byte_at b r1, byte_at b r2, byte_at b r3]
      generalize hx0 : b[p0].toNat = x0 at hword
      generalize hx1 : b[p1].toNat = x1 at hword
      generalize hx2 : b[p2].toNat = x2 at hword
      generalize hx3 : b[p3].toNat = x3 at hword
      have y0 : x0 < 256 := by rw [← hx0]; exact UInt8.toNat_lt _
      have y1 : x1 < 256 := by rw [← hx1]; exact UInt8.toNat_lt _
      have y2 : x2 < 256 := by rw [← hx2]; exact UInt8.toNat_lt _
      have y3 : x3 < 256 := by rw [← hx3]; exact UInt8.toNat_lt _
      have e0 : IntKind.u32.wrap (x0 : Int) = (x0 : Int) := by rw [IntKind.wrap_u32]; omega
      have e1 : IntKind.u32.wrap (x1 : Int) = (x1 : Int) := by rw [IntKind.wrap_u32]; omega
      have e2 : IntKind.u32.wrap (x2 : Int) = (x2 : Int) := by rw [IntKind.wrap_u32]; omega
      have e3 : IntKind.u32.wrap (x3 : Int) = (x3 : Int) := by rw [IntKind.wrap_u32]; omega
      have k0 : IntKind.u32.wrap ((x0 : Int) * 16777216) = (x0 : Int) * 16777216 := by rw [IntKind.wrap_u32]; omega
      have k1 : IntKind.u32.wrap ((x1 : Int) * 65536) = (x1 : Int) * 65536 := by rw [IntKind.wrap_u32]; omega
      have k2 : IntKind.u32.wrap ((x2 : Int) * 256) = (x2 : Int) * 256 := by rw [IntKind.wrap_u32]; omega
      have hv := four_int y0 y1 y2 y3
      have HN := Lib.hid (show Sh.wordsN b.data.toList (i + 1) = Sh.wordsN b.data.toList i ++ [Sh.four x0 x1 x2 x3] from by rw [Sh.wordsN_low _ h16, hword])
      generalize Sh.four x0 x1 x2 x3 = wd at hv HN
      have hown := hO.o
      have hbel := hO.b
      have hws := hbel.size
      have HP := Lib.hid (⟨hp0, hp1, hp2, hp3⟩ : _ ∧ _ ∧ _ ∧ _)
      clear hp0 hp1 hp2 hp3 y0 y1 y2 y3 hword hO
      go_upto_region 5 with fail
      refine wp_region_held_drew (S := fun _ => True) (by kernel_rfl) ?_ (fun hHeld => ?_)
      · exact trivial
      refine' wpAnyH_take (i := 0) (v := _) rfl (by kernel_rfl) (by kernel_rfl) (by kernel_rfl) (fun _ _ _ h => h) (Or.inl ⟨by rfl, ?yyz0⟩) (by assumption) ?rrz0
      case yyz0 => (intro w hSw; (try dsimp only at hSw); first | (go_simp; done) | (go_simp; with_reducible rfl))
      (try simp only [Act.put, List.setIfInBounds_toArray, List.set_cons_zero, List.set_cons_succ, List.getElem_toArray, List.getElem_cons_zero])
      refine' wpAnyH_take (i := 1) (v := _) rfl (by kernel_rfl) (by kernel_rfl) (by kernel_rfl) (fun _ _ _ h => h) (Or.inl ⟨by rfl, ?yyz1⟩) (by assumption) ?rrz1
      case yyz1 => (intro w hSw; (try dsimp only at hSw); first | (go_simp; done) | (go_simp; with_reducible rfl))
      (try simp only [Act.put, List.setIfInBounds_toArray, List.set_cons_zero, List.set_cons_succ, List.getElem_toArray, List.getElem_cons_zero, List.getElem_cons_succ])
      refine' wpAnyH_take (i := 2) (v := _) rfl (by kernel_rfl) (by kernel_rfl) (by kernel_rfl) (fun _ _ _ h => h) (Or.inl ⟨by rfl, ?yyz2⟩) (by assumption) ?rrz2
      case yyz2 => (intro w hSw; (try dsimp only at hSw); first | (go_simp; done) | (go_simp; with_reducible rfl))
      (try simp only [Act.put, List.setIfInBounds_toArray, List.set_cons_zero, List.set_cons_succ, List.getElem_toArray, List.getElem_cons_zero, List.getElem_cons_succ])
      refine' wpAnyH_take (i := 3) (v := _) rfl (by kernel_rfl) (by kernel_rfl) (by kernel_rfl) (fun _ _ _ h => h) (Or.inl ⟨by rfl, ?yyz3⟩) (by assumption) ?rrz3
      case yyz3 => (intro w hSw; (try dsimp only at hSw); first | (go_simp; done) | (go_simp; with_reducible rfl))
      (try simp only [Act.put, List.setIfInBounds_toArray, List.set_cons_zero, List.set_cons_succ, List.getElem_toArray, List.getElem_cons_zero, List.getElem_cons_succ])
      refine' wpAnyH_take (i := 4) (v := _) rfl (by kernel_rfl) (by kernel_rfl) (by kernel_rfl) (fun _ _ _ h => h) (Or.inl ⟨by rfl, ?yyz4⟩) (by assumption) ?rrz4
      case yyz4 => (intro w hSw; (try dsimp only at hSw); first | (go_simp; done) | (go_simp; with_reducible rfl))
      (try simp only [Act.put, List.setIfInBounds_toArray, List.set_cons_zero, List.set_cons_succ, List.getElem_toArray, List.getElem_cons_zero, List.getElem_cons_succ])
      refine' wpAnyH_take (i := 5) (v := _) rfl (by kernel_rfl) (by kernel_rfl) (by kernel_rfl) (fun _ _ _ h => h) (Or.inl ⟨by rfl, ?yyz5⟩) (by assumption) ?rrz5
      case yyz5 => (intro w hSw; (try dsimp only at hSw); first | (go_simp; done) | (go_simp; with_reducible rfl))
      (try simp only [Act.put, List.setIfInBounds_toArray, List.set_cons_zero, List.set_cons_succ, List.getElem_toArray, List.getElem_cons_zero, List.getElem_cons_succ])
      refine' wpAnyH_take (i := 6) (v := _) rfl (by kernel_rfl) (by kernel_rfl) (by kernel_rfl) (fun _ _ _ h => h) (Or.inl ⟨by rfl, ?yyz6⟩) (by assumption) ?rrz6
      case yyz6 => (intro w hSw; (try dsimp only at hSw); first | (go_simp; done) | (go_simp; with_reducible rfl))
      (try simp only [Act.put, List.setIfInBounds_toArray, List.set_cons_zero, List.set_cons_succ, List.getElem_toArray, List.getElem_cons_zero, List.getElem_cons_succ])
      refine' wpAnyH_take (i := 7) (v := _) rfl (by kernel_rfl) (by kernel_rfl) (by kernel_rfl) (fun _ _ _ h => h) (Or.inl ⟨by rfl, ?yyz7⟩) (by assumption) ?rrz7
      case yyz7 => (intro w hSw; (try dsimp only at hSw); first | (go_simp; done) | (go_simp; with_reducible rfl))
      (try simp only [Act.put, List.setIfInBounds_toArray, List.set_cons_zero, List.set_cons_succ, List.getElem_toArray, List.getElem_cons_zero, List.getElem_cons_succ])
      refine' wpAnyH_take (i := 8) (v := _) rfl (by kernel_rfl) (by kernel_rfl) (by kernel_rfl) (fun _ _ _ h => h) (Or.inl ⟨by rfl, ?yyz8⟩) (by assumption) ?rrz8
      case yyz8 => (intro w hSw; (try dsimp only at hSw); first | (go_simp; done) | (go_simp; with_reducible rfl))
      (try simp only [Act.put, List.setIfInBounds_toArray, List.set_cons_zero, List.set_cons_succ, List.getElem_toArray, List.getElem_cons_zero, List.getElem_cons_succ])
      refine' wpAnyH_take (i := 9) (v := _) rfl (by kernel_rfl) (by kernel_rfl) (by kernel_rfl) (fun _ _ _ h => h) (Or.inl ⟨by rfl, ?yyz9⟩) (by assumption) ?rrz9
      case yyz9 => (intro w hSw; (try dsimp only at hSw); first | (go_simp; done) | (go_simp; with_reducible rfl))
      (try simp only [Act.put, List.setIfInBounds_toArray, List.set_cons_zero, List.set_cons_succ, List.getElem_toArray, List.getElem_cons_zero, List.getElem_cons_succ])
      refine' wpAnyH_take (i := 10) (v := _) rfl (by kernel_rfl) (by kernel_rfl) (by kernel_rfl) (fun _ _ _ h => h) (Or.inl ⟨by rfl, ?yyz10⟩) (by assumption) ?rrz10
      case yyz10 => (intro w hSw; (try dsimp only at hSw); first | (go_simp; done) | (go_simp; with_reducible rfl))
      (try simp only [Act.put, List.setIfInBounds_toArray, List.set_cons_zero, List.set_cons_succ, List.getElem_toArray, List.getElem_cons_zero, List.getElem_cons_succ])
      refine' wpAnyH_take (i := 11) (v := _) rfl (by kernel_rfl) (by kernel_rfl) (by kernel_rfl) (fun _ _ _ h => h) (Or.inl ⟨by rfl, ?yyz11⟩) (by assumption) ?rrz11
      case yyz11 => (intro w hSw; (try dsimp only at hSw); first | (go_simp; done) | (go_simp; with_reducible rfl))
      (try simp only [Act.put, List.setIfInBounds_toArray, List.set_cons_zero, List.set_cons_succ, List.getElem_toArray, List.getElem_cons_zero, List.getElem_cons_succ])
      refine' wpAnyH_take (i := 12) (v := _) rfl (by kernel_rfl) (by kernel_rfl) (by kernel_rfl) (fun _ _ _ h => h) (Or.inl ⟨by rfl, ?yyz12⟩) (by assumption) ?rrz12
      case yyz12 => (intro w hSw; (try dsimp only at hSw); first | (go_simp; done) | (go_simp; with_reducible rfl))
      (try simp only [Act.put, List.setIfInBounds_toArray, List.set_cons_zero, List.set_cons_succ, List.getElem_toArray, List.getElem_cons_zero, List.getElem_cons_succ])
      refine' wpAnyH_take (i := 13) (v := _) rfl (by kernel_rfl) (by kernel_rfl) (by kernel_rfl) (fun _ _ _ h => h) (Or.inl ⟨by rfl, ?yyz13⟩) (by assumption) ?rrz13
      case yyz13 => (intro w hSw; (try dsimp only at hSw); first | (go_simp; done) | (go_simp; with_reducible rfl))
      (try simp only [Act.put, List.setIfInBounds_toArray, List.set_cons_zero, List.set_cons_succ, List.getElem_toArray, List.getElem_cons_zero, List.getElem_cons_succ])
      refine' wpAnyH_take (i := 14) (v := _) rfl (by kernel_rfl) (by kernel_rfl) (by kernel_rfl) (fun _ _ _ h => h) (Or.inl ⟨by rfl, ?yyz14⟩) (by assumption) ?rrz14
      case yyz14 => (intro w hSw; (try dsimp only at hSw); first | (go_simp; done) | (go_simp; with_reducible rfl))
      (try simp only [Act.put, List.setIfInBounds_toArray, List.set_cons_zero, List.set_cons_succ, List.getElem_toArray, List.getElem_cons_zero, List.getElem_cons_succ])
      refine' wpAnyH_take (i := 15) (v := _) rfl (by kernel_rfl) (by kernel_rfl) (by kernel_rfl) (fun _ _ _ h => h) (Or.inl ⟨by rfl, ?yyz15⟩) (by assumption) ?rrz15
      case yyz15 => (intro w hSw; (try dsimp only at hSw); first | (go_simp; done) | (go_simp; with_reducible rfl))
      (try simp only [Act.put, List.setIfInBounds_toArray, List.set_cons_zero, List.set_cons_succ, List.getElem_toArray, List.getElem_cons_zero, List.getElem_cons_succ])
      refine' wpAnyH_take (i := 16) (v := _) rfl (by kernel_rfl) (by kernel_rfl) (by kernel_rfl) (fun _ _ _ h => h) (Or.inl ⟨by rfl, ?yyz16⟩) (by assumption) ?rrz16
      case yyz16 => (intro w hSw; (try dsimp only at hSw); first | (go_simp; done) | (go_simp; with_reducible rfl))
      (try simp only [Act.put, List.setIfInBounds_toArray, List.set_cons_zero, List.set_cons_succ, List.getElem_toArray, List.getElem_cons_zero, List.getElem_cons_succ])
      refine' wpAnyH_take (i := 17) (v := _) rfl (by kernel_rfl) (by kernel_rfl) (by kernel_rfl) (fun _ _ _ h => h) (Or.inl ⟨by rfl, ?yyz17⟩) (by assumption) ?rrz17
      case yyz17 => (intro w hSw; (try dsimp only at hSw); first | (go_simp; done) | (go_simp; with_reducible rfl))
      (try simp only [Act.put, List.setIfInBounds_toArray, List.set_cons_zero, List.set_cons_succ, List.getElem_toArray, List.getElem_cons_zero, List.getElem_cons_succ])
      refine' wpAnyH_take (i := 18) (v := _) rfl (by kernel_rfl) (by kernel_rfl) (by kernel_rfl) (fun _ _ _ h => h) (Or.inl ⟨by rfl, ?yyz18⟩) (by assumption) ?rrz18
      case yyz18 => (intro w hSw; (try dsimp only at hSw); first | (go_simp; done) | (go_simp; with_reducible rfl))
      (try simp only [Act.put, List.setIfInBounds_toArray, List.set_cons_zero, List.set_cons_succ, List.getElem_toArray, List.getElem_cons_zero, List.getElem_cons_succ])
      refine' wpAnyH_take (i := 19) (v := _) rfl (by kernel_rfl) (by kernel_rfl) (by kernel_rfl) (fun _ _ _ h => h) (Or.inl ⟨by rfl, ?yyz19⟩) (by assumption) ?rrz19
      case yyz19 => (intro w hSw; (try dsimp only at hSw); first | (go_simp; done) | (go_simp; with_reducible rfl))
      (try simp only [Act.put, List.setIfInBounds_toArray, List.set_cons_zero, List.set_cons_succ, List.getElem_toArray, List.getElem_cons_zero, List.getElem_cons_succ])
      refine' wpAnyH_take (i := 20) (v := _) rfl (by kernel_rfl) (by kernel_rfl) (by kernel_rfl) (fun _ _ _ h => h) (Or.inl ⟨by rfl, ?yyz20⟩) (by assumption) ?rrz20
      case yyz20 => (intro w hSw; (try dsimp only at hSw); first | (go_simp; done) | (go_simp; with_reducible rfl))
      (try simp only [Act.put, List.setIfInBounds_toArray, List.set_cons_zero, List.set_cons_succ, List.getElem_toArray, List.getElem_cons_zero, List.getElem_cons_succ])
      refine' wpAnyH_take (i := 21) (v := _) rfl (by kernel_rfl) (by kernel_rfl) (by kernel_rfl) (fun _ _ _ h => h) (Or.inl ⟨by rfl, ?yyz21⟩) (by assumption) ?rrz21
      case yyz21 => (intro w hSw; (try dsimp only at hSw); first | (go_simp; done) | (go_simp; with_reducible rfl))
      (try simp only [Act.put, List.setIfInBounds_toArray, List.set_cons_zero, List.set_cons_succ, List.getElem_toArray, List.getElem_cons_zero, List.getElem_cons_succ])
      refine' wpAnyH_take (i := 22) (v := _) rfl (by kernel_rfl) (by kernel_rfl) (by kernel_rfl) (fun _ _ _ h => h) (Or.inl ⟨by rfl, ?yyz22⟩) (by assumption) ?rrz22
      case yyz22 => (intro w hSw; (try dsimp only at hSw); first | (go_simp; done) | (go_simp; with_reducible rfl))
      (try simp only [Act.put, List.setIfInBounds_toArray, List.set_cons_zero, List.set_cons_succ, List.getElem_toArray, List.getElem_cons_zero, List.getElem_cons_succ])
      refine' wpAnyH_take (i := 23) (v := _) rfl (by kernel_rfl) (by kernel_rfl) (by kernel_rfl) (fun _ _ _ h => h) (Or.inl ⟨by rfl, ?yyz23⟩) (by assumption) ?rrz23
      case yyz23 => (intro w hSw; (try dsimp only at hSw); first | (go_simp; done) | (go_simp; with_reducible rfl))
      (try simp only [Act.put, List.setIfInBounds_toArray, List.set_cons_zero, List.set_cons_succ, List.getElem_toArray, List.getElem_cons_zero, List.getElem_cons_succ])
      refine' wpAnyH_take (i := 24) (v := _) rfl (by kernel_rfl) (by kernel_rfl) (by kernel_rfl) (fun _ _ _ h => h) (Or.inl ⟨by rfl, ?yyz24⟩) (by assumption) ?rrz24
      case yyz24 => (intro w hSw; (try dsimp only at hSw); first | (go_simp; done) | (go_simp; with_reducible rfl))
      (try simp only [Act.put, List.setIfInBounds_toArray, List.set_cons_zero, List.set_cons_succ, List.getElem_toArray, List.getElem_cons_zero, List.getElem_cons_succ])
      refine' wpAnyH_take (i := 25) (v := _) rfl (by kernel_rfl) (by kernel_rfl) (by kernel_rfl) (fun _ _ _ h => h) (Or.inl ⟨by rfl, ?yyz25⟩) (by assumption) ?rrz25
      case yyz25 => (intro w hSw; (try dsimp only at hSw); first | (go_simp; done) | (go_simp; with_reducible rfl))
      (try simp only [Act.put, List.setIfInBounds_toArray, List.set_cons_zero, List.set_cons_succ, List.getElem_toArray, List.getElem_cons_zero, List.getElem_cons_succ])
      refine' wpAnyH_take (i := 26) (v := _) rfl (by kernel_rfl) (by kernel_rfl) (by kernel_rfl) (fun _ _ _ h => h) (Or.inl ⟨by rfl, ?yyz26⟩) (by assumption) ?rrz26
      case yyz26 => (intro w hSw; (try dsimp only at hSw); first | (go_simp; done) | (go_simp; with_reducible rfl))
      (try simp only [Act.put, List.setIfInBounds_toArray, List.set_cons_zero, List.set_cons_succ, List.getElem_toArray, List.getElem_cons_zero, List.getElem_cons_succ])
      refine' wpAnyH_take (i := 27) (v := _) rfl (by kernel_rfl) (by kernel_rfl) (by kernel_rfl) (fun _ _ _ h => h) (Or.inl ⟨by rfl, ?yyz27⟩) (by assumption) ?rrz27
      case yyz27 => (intro w hSw; (try dsimp only at hSw); first | (go_simp; done) | (go_simp; with_reducible rfl))
      (try simp only [Act.put, List.setIfInBounds_toArray, List.set_cons_zero, List.set_cons_succ, List.getElem_toArray, List.getElem_cons_zero, List.getElem_cons_succ])
      refine' wpAnyH_take (i := 28) (v := _) rfl (by kernel_rfl) (by kernel_rfl) (by kernel_rfl) (fun _ _ _ h => h) (Or.inl ⟨by rfl, ?yyz28⟩) (by assumption) ?rrz28
      case yyz28 => (intro w hSw; (try dsimp only at hSw); first | (go_simp; done) | (go_simp; with_reducible rfl))
      (try simp only [Act.put, List.setIfInBounds_toArray, List.set_cons_zero, List.set_cons_succ, List.getElem_toArray, List.getElem_cons_zero, List.getElem_cons_succ])
      refine' wpAnyH_take (i := 29) (v := _) rfl (by kernel_rfl) (by kernel_rfl) (by kernel_rfl) (fun _ _ _ h => h) (Or.inl ⟨by rfl, ?yyz29⟩) (by assumption) ?rrz29
      case yyz29 => (intro w hSw; (try dsimp only at hSw); first | (go_simp; done) | (go_simp; with_reducible rfl))
      (try simp only [Act.put, List.setIfInBounds_toArray, List.set_cons_zero, List.set_cons_succ, List.getElem_toArray, List.getElem_cons_zero, List.getElem_cons_succ])
      refine wpAnyH_ready (rs := [30]) (by kernel_rfl) (by simp) ?_
      refine AllReadyH.cons rfl (fun K hK => ?_) AllReadyH.nil
      rw [if_pos (by rfl)]
      go_simp
      refine hK.out _ _ trivial (fun hHeld2 => ?_)
      clear hK K
      (try simp only [Act.put, List.setIfInBounds_toArray, List.set_cons_zero, List.set_cons_succ, List.getElem_toArray, List.getElem_cons_zero, List.getElem_cons_succ])
      refine wpAnyH_ready (rs := [31]) (by kernel_rfl) (by simp) ?_
      refine AllReadyH.cons rfl (fun K hK => ?_) AllReadyH.nil
      refine step_append_lies _ (by rfl) _ _ _ (by rfl) w.heap.size 77 i0 _ 1 4 Tryd.underlying81 hi hz0 hz1 hz2 rfl (by omega) u7 i _ (by rfl) ((hown.alloc _).drew) ⟨wr.heap.size, 0, none⟩ 1 1 [.int .u32 (wd : Int)] (by rfl) (by rfl) (World.news_of_block (cs := #[.int .u32 (wd : Int)]) (t := 77) (fr := (0, 0)) (heap_alloc_new wr _)) (by simp [Value.oneCell']) (by omega) (by unfold maxLen; omega) (by omega) (by simp; omega) (wr.heap.size + 1) (by simp) ?_; intro gg cap' w2 hown1 hgrow hat hlt2
      refine hK.out _ _ trivial (fun hHeld3 => ?_)
      clear hK K
      (try simp only [Act.put, List.setIfInBounds_toArray, List.set_cons_zero, List.set_cons_succ, List.getElem_toArray, List.getElem_cons_zero, List.getElem_cons_succ])
      refine' wpAnyH_take (i := 32) (v := _) rfl (by kernel_rfl) (by kernel_rfl) (by kernel_rfl) (fun _ _ _ h => h) (Or.inl ⟨by rfl, ?yyz32⟩) (by assumption) ?rrz32
      case yyz32 => (intro w hSw; (try dsimp only at hSw); first | (go_simp; done) | (go_simp; with_reducible rfl))
      (try simp only [Act.put, List.setIfInBounds_toArray, List.set_cons_zero, List.set_cons_succ, List.getElem_toArray, List.getElem_cons_zero, List.getElem_cons_succ])
      refine wpAnyH_done (by kernel_rfl) ?_ _
      all_goals (
        have hb2 : Below w.heap.size w w2 := (hbel.alloc hws (.cells #[.int .u32 (wd : Int)] 77)).drew.grown hgrow (by simp; omega) (fun j e => (hown.lt j e).1)
        rw [wvals_snoc, ← HN.out] at hown1
        have HO := Lib.hid (Ow.mk hown1 hb2)
        clear hown1 hgrow hat hlt2 hb2 hown hbel hx0 hx1 hx2 hx3 e0 e1 e2 e3 k0 k1 k2 hv q0 q1 q2 q3 b0 b1 b2 b3 b0' b1' b2' b3' HP HN
        go_wp2_with fail
        refine ⟨⟨i + 1, by omega, by go_num, HO.out⟩, by simp only [intOf]; omega⟩)
    · obtain rfl : i = 16 := by omega
      have h16' : ¬ ((16 : Nat) : Int) < 16 := by omega
      have HO := Lib.hid hO; clear hO
      go_wp2_with fail
      go_loopw [7, 9] (fun s7 s9 wy => ∃ i : Nat, 16 ≤ i ∧ i ≤ 64 ∧ s9 = .int .i64 (i : Int) ∧ Ow w wy s7 i (Sh.wordsN b.data.toList i)) (fun _ s9 _ => 64 - (intOf s9).toNat)
      case atStart => exact ⟨16, by omega, by omega, rfl, HO.out⟩
      case round =>
        clear HO
        obtain ⟨i, hi1, hi64, rfl, hO⟩ := hrel
        have hl := Sh.wordsN_len b.data.toList i
        by_cases h64 : i < 64
        · have h64' : (i : Int) < 64 := by omega
          obtain ⟨g, cap, rfl⟩ := own_form hO.o (by omega)
          obtain ⟨n15, m15⟩ : ∃ n, i - 15 = n := ⟨_, rfl⟩
          obtain ⟨n2, m2⟩ : ∃ n, i - 2 = n := ⟨_, rfl⟩
          obtain ⟨n16, m16⟩ : ∃ n, i - 16 = n := ⟨_, rfl⟩
          obtain ⟨n7, m7⟩ : ∃ n, i - 7 = n := ⟨_, rfl⟩
          have c15 := hO.cell n15 (by omega) hl
          have c2 := hO.cell n2 (by omega) hl
          have c16 := hO.cell n16 (by omega) hl
          have c7 := hO.cell n7 (by omega) hl
          have hmade : Sh.made (Sh.wordsN b.data.toList i) i = Sh.add (Sh.add (Sh.add ((Sh.wordsN b.data.toList i).getD n16 0) (Sh.sig0 ((Sh.wordsN b.data.toList i).getD n15 0))) ((Sh.wordsN b.data.toList i).getD n7 0)) (Sh.sig1 ((Sh.wordsN b.data.toList i).getD n2 0)) := by
            unfold Sh.made
            rw [m15, m2, m16, m7]
          have hlt : ∀ j, (Sh.wordsN b.data.toList i).getD j 0 < 4294967296 := fun j => by
            by_cases hj : j < i
            · have := Sh.padw_lt b.data.toList i j
              rwa [Sh.padw_get _ hj] at this
            · rw [List.getD_eq_getElem?_getD, List.getElem?_eq_none (by omega)]; decide
          have l15 := hlt n15
          have l2 := hlt n2
          have HN := Lib.hid (Sh.wordsN_high b.data.toList (show ¬ i < 16 by omega))
          rw [hmade] at HN
          generalize (Sh.wordsN b.data.toList i).getD n15 0 = x at c15 HN l15
          generalize (Sh.wordsN b.data.toList i).getD n2 0 = y at c2 HN l2
          generalize (Sh.wordsN b.data.toList i).getD n16 0 = p at c16 HN
          generalize (Sh.wordsN b.data.toList i).getD n7 0 = q at c7 HN
          have q15 : IntKind.i64.wrap ((i : Int) - 15) = (n15 : Int) := by rw [IntKind.wrap_i64]; omega
          have q2 : IntKind.i64.wrap ((i : Int) - 2) = (n2 : Int) := by rw [IntKind.wrap_i64]; omega
          have q16 : IntKind.i64.wrap ((i : Int) - 16) = (n16 : Int) := by rw [IntKind.wrap_i64]; omega
          have q7 : IntKind.i64.wrap ((i : Int) - 7) = (n7 : Int) := by rw [IntKind.wrap_i64]; omega
          have b15 : (0 : Int) ≤ (n15 : Int) := by omega
          have b15' : (n15 : Int) < (i : Int) := by omega
          have b2 : (0 : Int) ≤ (n2 : Int) := by omega
          have b2' : (n2 : Int) < (i : Int) := by omega
          have b16 : (0 : Int) ≤ (n16 : Int) := by omega
          have b16' : (n16 : Int) < (i : Int) := by omega
          have b7 : (0 : Int) ≤ (n7 : Int) := by omega
          have b7' : (n7 : Int) < (i : Int) := by omega
          obtain ⟨r7, hr7⟩ : ∃ r, Sh.rotr x 7 = r := ⟨_, rfl⟩
          obtain ⟨r18, hr18⟩ : ∃ r, Sh.rotr x 18 = r := ⟨_, rfl⟩
          obtain ⟨r17, hr17⟩ : ∃ r, Sh.rotr y 17 = r := ⟨_, rfl⟩
          obtain ⟨r19, hr19⟩ : ∃ r, Sh.rotr y 19 = r := ⟨_, rfl⟩
          have T7 := Lib.hid (fun w => show Calls Tryd.prog 69 #[.int .u32 (x : Int), .int .i64 7] w fun e w' => e = .returned (.int .u32 (r7 : Int)) ∧ ∃ m, w' = w.drewN m from hr7 ▸ refturn_quiet x 7 w l15 (by omega) (by omega))
          have T18 := Lib.hid (fun w => show Calls Tryd.prog 69 #[.int .u32 (x : Int), .int .i64 18] w fun e w' => e = .returned (.int .u32 (r18 : Int)) ∧ ∃ m, w' = w.drewN m from hr18 ▸ refturn_quiet x 18 w l15 (by omega) (by omega))
          have T17 := Lib.hid (fun w => show Calls Tryd.prog 69 #[.int .u32 (y : Int), .int .i64 17] w fun e w' => e = .returned (.int .u32 (r17 : Int)) ∧ ∃ m, w' = w.drewN m from hr17 ▸ refturn_quiet y 17 w l2 (by omega) (by omega))
          have T19 := Lib.hid (fun w => show Calls Tryd.prog 69 #[.int .u32 (y : Int), .int .i64 19] w fun e w' => e = .returned (.int .u32 (r19 : Int)) ∧ ∃ m, w' = w.drewN m from hr19 ▸ refturn_quiet y 19 w l2 (by omega) (by omega))
          have HV := Lib.hid (made_int p q x y r7 r18 r17 r19 l15 l2 hr7 hr18 hr17 hr19)
          have HO := Lib.hid hO
          clear hO hmade hlt l15 l2 m15 m2 m16 m7 hr7 hr18 hr17 hr19 hl
          go_upto_region 13 with (first
            | (go_at_call 69; ((with_reducible refine (T7.out _).mono ?_); rintro e u ⟨rfl, m, rfl⟩))
            | (go_at_call 69; ((with_reducible refine (T18.out _).mono ?_); rintro e u ⟨rfl, m, rfl⟩))
            | (go_at_call 69; ((with_reducible refine (T17.out _).mono ?_); rintro e u ⟨rfl, m, rfl⟩))
            | (go_at_call 69; ((with_reducible refine (T19.out _).mono ?_); rintro e u ⟨rfl, m, rfl⟩)))
          generalize hW4 : World.drewN wr _ = W4
          have hO4 : Ow w W4 (.slice (some ⟨g, 0, none⟩) i cap) i (Sh.wordsN b.data.toList i) := hW4 ▸ HO.out.drewN _
          have d16 : W4.cell? ⟨g, n16, none⟩ = some (.int .u32 (p : Int)) := hW4 ▸ c16
          have d7 : W4.cell? ⟨g, n7, none⟩ = some (.int .u32 (q : Int)) := hW4 ▸ c7
          have hv := HV.out
          have hown := hO4.o
          have hbel := hO4.b
          have hws := hbel.size
          clear HV HO T7 T18 T17 T19 c15 c2 c16 c7 q15 q2 b15 b15' b2 b2' hW4 hO4
          generalize Sh.add (Sh.add (Sh.add p (Sh.sig0 x)) q) (Sh.sig1 y) = wd at hv HN
          generalize bits .xor .u32 (bits .xor .u32 (r7 : Int) (r18 : Int)) ((x : Int) / 8) = lo at hv ⊢
          generalize bits .xor .u32 (bits .xor .u32 (r17 : Int) (r19 : Int)) ((y : Int) / 1024) = up at hv ⊢
          go_region_law (refine step_append_lies _ (by rfl) _ _ _ (by rfl) w.heap.size 77 i0 _ 1 4 Tryd.underlying81 hi hz0 hz1 hz2 rfl (by omega) (.slice (some ⟨g, 0, none⟩) i cap) i _ (by rfl) ((hown.alloc _).drew) ⟨W4.heap.size, 0, none⟩ 1 1 [.int .u32 (wd : Int)] (by rfl) (by rfl) (World.news_of_block (cs := #[.int .u32 (wd : Int)]) (t := 77) (fr := (0, 0)) (heap_alloc_new W4 _)) (by simp [Value.oneCell']) (by omega) (by unfold maxLen; omega) (by omega) (by simp; omega) (W4.heap.size + 1) (by simp) ?_; intro gg cap' w2 hown1 hgrow hat hlt2)
          all_goals (
            have hb2 : Below w.heap.size w w2 := (hbel.alloc hws (.cells #[.int .u32 (wd : Int)] 77)).drew.grown hgrow (by simp; omega) (fun j e => (hown.lt j e).1)
            rw [wvals_snoc, ← HN.out] at hown1
            have HO := Lib.hid (Ow.mk hown1 hb2)
            clear hown1 hgrow hat hlt2 hb2 hown hbel hv q16 q7 b16 b16' b7 b7' HN d16 d7
            go_wp2_with fail
            refine ⟨⟨i + 1, by omega, by omega, by go_num, HO.out⟩, by simp only [intOf]; omega⟩)
        · obtain rfl : i = 64 := by omega
          have h64' : ¬ ((64 : Nat) : Int) < 64 := by omega
          obtain ⟨gw, capw, rfl⟩ := own_form hO.o (by omega)
          have hO' : Ow w wr (.slice (some ⟨gw, 0, none⟩) 64 capw) 64 (Sh.words b.data.toList) := hO
          have hwl := Sh.words_len b.data.toList
          have hwlt : ∀ i, (Sh.words b.data.toList).getD i 0 < 4294967296 := fun i => by have := Sh.padw_lt b.data.toList 64 i; unfold Sh.padw at this; simpa [Sh.words] using this
          clear hO hl
          generalize Sh.words b.data.toList = WL at hO' hwl hwlt HBK
          have HWLT := Lib.hid hwlt; clear hwlt
          have hws := hO'.b.size
          have HW := Lib.hid (Ow.row hO' hwl)
          have HWG := Lib.hid (hO'.o.lt gw rfl)
          have HB := Lib.hid hO'.b
          have HHR := Lib.hid (HH.out.below hO'.b lh)
          clear hO'
          have N1 := Lib.hid (show ∀ (j : Nat) (u : Value), (wvals (Sh.L8 st))[j]? = some u → wr.cell? ((⟨gh, 0, none⟩ : Addr).add j) = some u from fun j u hj => by
            have h := (HHR.out j u hj).1
            have e : ((⟨gh, 0, none⟩ : Addr).add j) = ⟨gh, j, none⟩ := by simp [Addr.add]; omega
            rw [e]; exact h)
          have N2 := Lib.hid (show ∀ u ∈ wvals (Sh.L8 st), u.oneCell' = true from fun u hu => by
            obtain ⟨x, _, rfl⟩ := List.mem_map.1 hu
            rfl)
          go_wp2_with (at_builtin; refine wpList_append_own _ rfl _ _ 81 rfl w.heap.size 77 i0 (.int .u32 0) 1 4 Tryd.underlying81 hi hz0 hz1 hz2 rfl (by decide) _ 0 [] rfl (World.ownsRow_nil _ _ _ _) ⟨gh, 0, none⟩ 8 caph (wvals (Sh.L8 st)) rfl rfl N1.out N2.out (by unfold maxLen; omega) (by omega) hws ?_; intro v' w2 hown' hgrow _)
          have hgrow2 : wr.grownBy w2 none := hgrow
          have hown8 : w2.ownsRow w.heap.size 77 1 v' 8 (wvals (Sh.L8 st)) := hown'
          clear hgrow hown'
          obtain ⟨gv, capv, rfl⟩ := own_form hown8 (by omega)
          have hbw : Below wr.heap.size wr w2 := (Below.refl _ _).grown hgrow2 (Nat.le_refl _) (fun j e => by cases e)
          have hb2 := HB.out.trans (hbw.mono hws)
          have HR := Lib.hid (show Rs w w2 gw gv WL st from ⟨HW.out.below hbw HWG.out.2, Ow.row ⟨hown8, hb2⟩ rfl, hb2, Nat.lt_of_lt_of_le HWG.out.2 hbw.size, (hown8.lt gv rfl).2, (hown8.lt gv rfl).1⟩)
          clear hown8 hbw hb2 hgrow2 N1 N2 HB HW HHR HWG hws
          go_loopw [14, 15] (fun s14 s15 wy => ∃ (i gv cap : Nat), i ≤ 64 ∧ s15 = .int .i64 (i : Int) ∧ s14 = .slice (some ⟨gv, 0, none⟩) 8 cap ∧ Rs w wy gw gv WL (Sh.rounds WL st i)) (fun _ s15 _ => 64 - (intOf s15).toNat)
          case atStart => exact ⟨0, gv, capv, by omega, rfl, rfl, HR.out⟩
          case round =>
            clear HR
            obtain ⟨i, gv, capv, hi64, rfl, rfl, hR⟩ := hrel
            by_cases h64 : i < 64
            · have h64' : (i : Int) < 64 := by omega
              have hi0 : (0 : Int) ≤ (i : Int) := by omega
              have hki := ((HK.out.below hR.b lk) i _ (wvals_get (by rw [Sh.K_len]; exact h64))).1
              have hwi := (hR.ww i _ (wvals_get (by omega))).1
              have hok := Sh.rounds_ok WL hh i
              have hnext : Sh.rounds WL st (i + 1) = Sh.rnd (Sh.K.getD i 0) (WL.getD i 0) (Sh.rounds WL st i) := Sh.rounds_succ _ _ _
              generalize WL.getD i 0 = wi at hwi hnext
              generalize Sh.K.getD i 0 = ki at hki hnext
              have HR := Lib.hid hR
              obtain ⟨c0, c1, c2, c3, c4, c5, c6, c7, _⟩ := Row.eight hR.vv
              clear hR
              generalize Sh.rounds WL st i = v at *
              obtain ⟨va, vb, vc, vd, ve, vf, vg, vh⟩ := v
              simp only at c0 c1 c2 c3 c4 c5 c6 c7
              have hva := hok.a
              have hve := hok.e
              simp only at hva hve
              obtain ⟨r2, hr2⟩ : ∃ r, Sh.rotr va 2 = r := ⟨_, rfl⟩
              have T2 := Lib.hid (fun w k => show Calls Tryd.prog 69 #[.int .u32 (va : Int), .int .i64 2] (World.drewN w k) fun e w' => e = .returned (.int .u32 (r2 : Int)) ∧ ∃ m, w' = w.drewN m from hr2 ▸ refturn_q va 2 w k hva (by omega) (by omega))
              obtain ⟨r13, hr13⟩ : ∃ r, Sh.rotr va 13 = r := ⟨_, rfl⟩
              have T13 := Lib.hid (fun w k => show Calls Tryd.prog 69 #[.int .u32 (va : Int), .int .i64 13] (World.drewN w k) fun e w' => e = .returned (.int .u32 (r13 : Int)) ∧ ∃ m, w' = w.drewN m from hr13 ▸ refturn_q va 13 w k hva (by omega) (by omega))
              obtain ⟨r22, hr22⟩ : ∃ r, Sh.rotr va 22 = r := ⟨_, rfl⟩
              have T22 := Lib.hid (fun w k => show Calls Tryd.prog 69 #[.int .u32 (va : Int), .int .i64 22] (World.drewN w k) fun e w' => e = .returned (.int .u32 (r22 : Int)) ∧ ∃ m, w' = w.drewN m from hr22 ▸ refturn_q va 22 w k hva (by omega) (by omega))
              obtain ⟨r6, hr6⟩ : ∃ r, Sh.rotr ve 6 = r := ⟨_, rfl⟩
              have T6 := Lib.hid (fun w k => show Calls Tryd.prog 69 #[.int .u32 (ve : Int), .int .i64 6] (World.drewN w k) fun e w' => e = .returned (.int .u32 (r6 : Int)) ∧ ∃ m, w' = w.drewN m from hr6 ▸ refturn_q ve 6 w k hve (by omega) (by omega))
              obtain ⟨r11, hr11⟩ : ∃ r, Sh.rotr ve 11 = r := ⟨_, rfl⟩
              have T11 := Lib.hid (fun w k => show Calls Tryd.prog 69 #[.int .u32 (ve : Int), .int .i64 11] (World.drewN w k) fun e w' => e = .returned (.int .u32 (r11 : Int)) ∧ ∃ m, w' = w.drewN m from hr11 ▸ refturn_q ve 11 w k hve (by omega) (by omega))
              obtain ⟨r25, hr25⟩ : ∃ r, Sh.rotr ve 25 = r := ⟨_, rfl⟩
              have T25 := Lib.hid (fun w k => show Calls Tryd.prog 69 #[.int .u32 (ve : Int), .int .i64 25] (World.drewN w k) fun e w' => e = .returned (.int .u32 (r25 : Int)) ∧ ∃ m, w' = w.drewN m from hr25 ▸ refturn_q ve 25 w k hve (by omega) (by omega))
              have HRR := Lib.hid (⟨hr2, hr13, hr22, hr6, hr11, hr25⟩ : _ ∧ _ ∧ _ ∧ _ ∧ _ ∧ _)
              have HOK := Lib.hid hok
              have HN := Lib.hid hnext
              clear hr2 hr13 hr22 hr6 hr11 hr25 hok hnext hva hve
              go_upto_region 20 with fail
              go_quiet ((first
                | (go_at_call 69; with_reducible exact T6.out _ _)
                | (go_at_call 69; with_reducible exact T11.out _ _)
                | (go_at_call 69; with_reducible exact T25.out _ _)))
              have H1 := one_int2 (k := ki) (w := wi) HOK.out HRR.out.2.2.2.1 HRR.out.2.2.2.2.1 HRR.out.2.2.2.2.2
              simp only at H1
              rw [H1]
              clear H1
              generalize ho : Sh.one ki wi _ = o
              have hR2 := HR.out.drewN nq
              generalize World.drewN wr nq = wa at hR2 ⊢
              clear c0 c1 c2 c3 c4 c5 c6 c7 hki hwi HR T6 T11 T25
              obtain ⟨c0, c1, c2, c3, c4, c5, c6, c7, _⟩ := Row.eight hR2.vv
              have HR := Lib.hid hR2; clear hR2
              go_upto_region 21 with fail
              go_quiet ((first
                | (go_at_call 69; with_reducible exact T2.out _ _)
                | (go_at_call 69; with_reducible exact T13.out _ _)
                | (go_at_call 69; with_reducible exact T22.out _ _)))
              have H2 := two_int2 HOK.out HRR.out.1 HRR.out.2.1 HRR.out.2.2.1
              simp only at H2
              rw [H2]
              clear H2 HRR T2 T13 T22
              generalize ht : Sh.two _ = t
              have hR2 := HR.out.drewN nq
              generalize World.drewN wa nq = wb at hR2 ⊢
              clear c0 c1 c2 c3 c4 c5 c6 c7 HR
              obtain ⟨c0, c1, c2, c3, c4, c5, c6, c7, _⟩ := Row.eight hR2.vv
              have HN2 := HN.out
              unfold Sh.rnd at HN2
              rw [ho, ht] at HN2
              have HN3 := Lib.hid HN2
              clear ho ht HN HN2 HOK
              go_upto_region 22 with fail
              go_region
              have hR3 := (hR2.next (Sh.rounds WL st (i + 1)) #[.int .u32 (((o : Int) + (t : Int)) % 4294967296), .int .u32 (va : Int), .int .u32 (vb : Int), .int .u32 (vc : Int), .int .u32 (((vd : Int) + (o : Int)) % 4294967296), .int .u32 (ve : Int), .int .u32 (vf : Int), .int .u32 (vg : Int)] (by rw [HN3.out]; unfold Sh.L8 wvals Sh.add; simp)).drew
              have HR3 := Lib.hid hR3
              clear hR3 hR2 HN3 c0 c1 c2 c3 c4 c5 c6 c7
              go_wp2_with fail
              refine ⟨⟨i + 1, _, 8, by omega, by go_num, rfl, HR3.out⟩, by simp only [intOf]; omega⟩
            · obtain rfl : i = 64 := by omega
              have h64' : ¬ ((64 : Nat) : Int) < 64 := by omega
              have hB0 := HBK.out
              clear HBK HWLT
              generalize Sh.rounds WL st 64 = v at hR hB0
              have HB0 := Lib.hid hB0; clear hB0
              have HM := Lib.hid (show Ms w wr gv (Sh.mixA (Sh.L8 v) (Sh.L8 st) 0) from ⟨hR.vv, hR.b, hR.lv, hR.ge⟩)
              clear hR
              go_wp2_with fail
              go_loopw [20] (fun s20 wy => ∃ j : Nat, j ≤ 8 ∧ s20 = .int .i64 (j : Int) ∧ Ms w wy gv (Sh.mixA (Sh.L8 v) (Sh.L8 st) j)) (fun s20 _ => 8 - (intOf s20).toNat)
              case atStart => exact ⟨0, by omega, rfl, HM.out⟩
              case round =>
                clear HM
                obtain ⟨j, hj, rfl, hM⟩ := hrel
                have hl := Sh.mixA_len (Sh.L8 v) (Sh.L8 st) j
                have hl8 : (Sh.L8 v).length = 8 := rfl
                by_cases h8 : j < 8
                · have h8' : (j : Int) < 8 := by omega
                  have hj0 : (0 : Int) ≤ (j : Int) := by omega
                  obtain ⟨c0, f0⟩ := hM.r j _ (wvals_get (by omega))
                  have c1 := ((HH.out.below hM.b lh) j _ (wvals_get (show j < (Sh.L8 st).length from h8))).1
                  have hnext := (hM.set j (Sh.add ((Sh.mixA (Sh.L8 v) (Sh.L8 st) j).getD j 0) ((Sh.L8 st).getD j 0)) (by omega)).drew
                  rw [Sh.mixA_succ] at hnext
                  have HNX := Lib.hid hnext
                  clear hnext hM hl hl8
                  generalize (Sh.mixA (Sh.L8 v) (Sh.L8 st) j).getD j 0 = p at c0 f0 HNX
                  generalize (Sh.L8 st).getD j 0 = q at c1 HNX
                  go_upto_region 26 with fail
                  go_region
                  go_wp2_with fail
                  have e1 : ((Sh.add p q : Nat) : Int) = ((p : Int) + (q : Int)) % 4294967296 := by unfold Sh.add; omega
                  have HN4 := HNX.out
                  rw [e1] at HN4
                  refine ⟨⟨j + 1, by omega, by go_num, HN4⟩, by simp only [intOf]; omega⟩
                · obtain rfl : j = 8 := by omega
                  have h8' : ¬ ((8 : Nat) : Int) < 8 := by omega
                  rw [Sh.mixA_eight, ← HB0.out] at hM
                  have HM := Lib.hid hM
                  clear hM HB0 hl hl8
                  go_wp2_with fail
                  go_ret
                  exact ⟨gv, ⟨capv, rfl⟩, HM.out.r, HM.out.ge, HM.out.lt, HM.out.b⟩

end Go.Proofs.YtalncnblcfcmcaaDoor
