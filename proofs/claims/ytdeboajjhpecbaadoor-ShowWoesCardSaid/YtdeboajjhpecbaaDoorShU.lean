/- ShU: several texts in one. -/
import Derived.Test.YtdeboajjhpecbaaDoorTxt
import Derived.Test.YtdeboajjhpecbaaDoorShM
import Derived.Test.YtdeboajjhpecbaaDoorShG
/- Show: contract of the statements' str: the string of a slice of units. -/
set_option linter.unusedVariables false
namespace Go.Proofs.YtdeboajjhpecbaaDoor.Tx
open Go.RowKit

set_option maxHeartbeats 4000000 in
set_option maxRecDepth 100000 in
theorem str14_any (a : Option Addr) (n cap : Nat) (l : List Nat) (w : World) (h : SliceR .u16 w a n cap (ints l)) (hf : Fits l) (hn : n ≤ 100000000) :
    Calls Tryd.prog 13 #[.slice a n cap] w fun e w' => e = .returned (.string (uS l)) ∧ Below w.heap.size w w' := by
  obtain ⟨i0, hi, hz0, hz1, hz2⟩ := info_parts infoInt
  obtain ⟨h1, h2, h3, h3', h4⟩ := h
  rw [ints_length] at h1
  go_enter Tryd.func13, Tryd.ntmps13
  go_wp2
  go_loopw [3, 8] (fun v i wr => ∃ k : Nat, k ≤ n ∧ i = .int .i64 k ∧ wr.ownsRow w.heap.size 3 1 v k (numCells .i64 (ints (l.take k))) ∧ Below w.heap.size w wr) (fun _ i _ => n - (intOf i).toNat)
  case atStart => exact ⟨0, Nat.zero_le _, rfl, World.ownsRow_nil _ _ _ _, Below.refl _ _⟩
  case round =>
    obtain ⟨k, hk, rfl, hown, hb⟩ := hrel
    by_cases hlt : k < n
    · obtain ⟨b, off, rfl, hbl, hcell⟩ := h4 (by omega)
      have hck := (hb.cell (p := ⟨b, off + k, none⟩) hbl).trans (hcell k hlt)
      rw [ints_getD] at hck
      have hul : l.getD k 0 < 65536 := by
        rw [List.getD_eq_getElem?_getD, List.getElem?_eq_getElem (by omega)]; exact hf _ (List.getElem_mem _)
      have hts := take_snocN l k (by omega)
      obtain ⟨u, hu⟩ : ∃ u, u = l.getD k 0 := ⟨_, rfl⟩
      rw [← hu] at hck hul hts
      have HT := Lib.hid hts
      clear hts h4 hcell h3' h1 hu
      have hz := hb.size
      have hk0 : (0 : Int) ≤ (k : Int) := by omega
      have hk1 : (k : Int) < (n : Int) := by omega
      have y0 : (0 : Int) ≤ (u : Int) := by omega
      go_wp2_with (at_builtin; refine wpList_append_own _ rfl _ _ 31 rfl w.heap.size 3 i0 (.int .i64 0) 1 8 Tryd.underlying31 hi hz0 hz1 hz2 rfl (by decide) _ _ _ rfl (hown.alloc _) ⟨wr.heap.size, 0, none⟩ 1 1 [.int .i64 (u : Int)] rfl rfl (by intro j v hj; match j, hj with | 0, hj => simp at hj; subst hj; simp [Addr.add]) (by simp [Value.oneCell']) (by unfold maxLen; omega) (by omega) (by simp; omega) ?_)
      intro v' w1 hown1 hgrow _
      have hb2 := (hb.alloc hz (.cells #[.int .i64 (u : Int)] 3)).grown hgrow (by simp; omega) (fun k' hk' => ((hown.alloc (.cells #[.int .i64 (u : Int)] 3)).lt k' hk').1)
      clear hown hgrow
      go_wp2
      go_roundw
      case rel =>
        refine ⟨k + 1, by omega, by go_num, ?_, hb2⟩
        rw [HT.out, ints_append, numCells_append]
        exact hown1
      case measure => simp [intOf]; omega
    · have hk2 : k = n := by omega
      subst hk2
      have t1 : decide ((k : Int) < (k : Int)) = false := by simp
      rw [List.take_of_length_le (by omega)] at hown
      subst h1
      obtain ⟨a', cap', rfl, hR, hB⟩ := sliceR_own (l := ints l) (by rw [ints_length]; exact hown)
      rw [ints_length] at hR ⊢
      clear h2 h3 h3' h4
      go_wp2_with (go_at_call 28; refine (str_any a' l.length cap' l _ hR hf hn).mono ?_)
      rintro e w2 ⟨rfl, b2⟩
      go_wp2
      go_ret
      exact ⟨rfl, hb.trans (b2.mono hb.size)⟩
end Go.Proofs.YtdeboajjhpecbaaDoor.Tx

/- Show: Find, along a chain of two objects. -/
set_option linter.unusedVariables false
set_option linter.unusedSimpArgs false
namespace Go.Proofs.YtdeboajjhpecbaaDoor.Hp
open Go.RowKit Go.Proofs.YtdeboajjhpecbaaDoor Go.Shelf
/-- What Own answers of a key. -/
abbrev OwnC (w : World) (b : Nat) (k v : K3) (fl : Int) (ok : Bool) : Prop :=
  ∀ W, Below w.heap.size w W → Calls Tryd.prog 39 #[.pointer (some ⟨b, 0, none⟩), VK k] W fun e W' => e = .returned (.tuple #[VK v, .int .i64 fl, .bool ok]) ∧ Below W.heap.size W W'
def chP (b0 b1 : Nat) : Nat → Value
  | 0 => .pointer (some ⟨b0, 0, none⟩)
  | 1 => .pointer (some ⟨b1, 0, none⟩)
  | _ => .pointer none
def chZ (b0 b1 : Nat) : Value → Nat
  | .pointer (some a) => if a.block = b0 then 2 else if a.block = b1 then 1 else 0
  | _ => 0
/-- What is found. -/
def fndV (v0 v1 : K3) : Bool → Bool → K3
  | true, _ => v0
  | false, true => v1
  | false, false => (0, 0, ⟨#[]⟩)
def fndF (f0 f1 : Int) : Bool → Bool → Int
  | true, _ => f0
  | false, true => f1
  | false, false => 0
set_option maxRecDepth 100000 in
set_option maxHeartbeats 8000000 in
theorem find_two {w : World} {H b0 b1 : Nat} {r0 r1 : Int} {k v0 v1 : K3} {f0 f1 : Int} {ok0 ok1 : Bool} (hne : b0 ≠ b1)
    (h0 : ∀ W, Below w.heap.size w W → Calls Tryd.prog 22 #[.pointer (some ⟨H, 0, none⟩), .int .i64 r0] W fun e W' => e = .returned (chP b0 b1 0) ∧ Below W.heap.size W W')
    (h1 : ∀ W, Below w.heap.size w W → Calls Tryd.prog 22 #[.pointer (some ⟨H, 0, none⟩), .int .i64 r1] W fun e W' => e = .returned (chP b0 b1 1) ∧ Below W.heap.size W W')
    (h2 : ∀ W, Below w.heap.size w W → Calls Tryd.prog 22 #[.pointer (some ⟨H, 0, none⟩), .int .i64 0] W fun e W' => e = .returned (chP b0 b1 2) ∧ Below W.heap.size W W')
    (c0 : w.cell? ⟨b0, 1, none⟩ = some (.int .i64 r1)) (c1 : w.cell? ⟨b1, 1, none⟩ = some (.int .i64 0)) (o0 : OwnC w b0 k v0 f0 ok0) (o1 : OwnC w b1 k v1 f1 ok1) :
    Calls Tryd.prog 36 #[.pointer (some ⟨H, 0, none⟩), .int .i64 r0, VK k] w fun e w' => e = .returned (.tuple #[VK (fndV v0 v1 ok0 ok1), .int .i64 (fndF f0 f1 ok0 ok1), .bool (ok0 || ok1)]) ∧ Below w.heap.size w w' := by
  obtain ⟨k1, k2, k3⟩ := k
  have b0' : Below w.heap.size w ((w.alloc (.cells #[.int .i64 k1, .int .i64 k2, .string k3] 26)).alloc (.cells VZ 26)) := ((Below.refl _ _).alloc (Nat.le_refl _) _).alloc (by simp) _
  have kb : Blk ((w.alloc (.cells #[.int .i64 k1, .int .i64 k2, .string k3] 26)).alloc (.cells VZ 26)) w.heap.size 26 #[.int .i64 k1, .int .i64 k2, .string k3] := (Blk.new w _ _).alloc _
  have rb : Blk ((w.alloc (.cells #[.int .i64 k1, .int .i64 k2, .string k3] 26)).alloc (.cells VZ 26)) (w.heap.size + 1) 26 VZ := by
    have := Blk.new (w.alloc (.cells #[.int .i64 k1, .int .i64 k2, .string k3] 26)) 26 VZ
    rwa [World.size_alloc] at this
  have HO := Lib.hid (And.intro h0 (And.intro h1 h2))
  have HC := Lib.hid (And.intro c0 c1)
  have HW := Lib.hid (And.intro o0 o1)
  have HI := Lib.hid (And.intro b0' (And.intro kb rb))
  clear h0 h1 h2 c0 c1 o0 o1 b0' kb rb
  go_enter Tryd.func36, Tryd.ntmps36
  go_wp2_with (fail)
  generalize (w.alloc (.cells #[.int .i64 k1, .int .i64 k2, .string k3] 26)).alloc (.cells VZ 26) = W1 at *
  refine (HO.out.1 W1 HI.out.1).mono ?_
  rintro e w2 ⟨rfl, b2⟩
  have HJ := Lib.hid (And.intro (HI.out.1.trans (b2.mono HI.out.1.size)) (And.intro (HI.out.2.1.below b2 HI.out.2.1.lt) (HI.out.2.2.below b2 HI.out.2.2.lt)))
  clear b2 HI
  go_wp2_with (fail)
  go_loopw [9] (fun v wr => ∃ j : Nat, v = chP b0 b1 j ∧ j ≤ 2 ∧ Hid ((1 ≤ j → ok0 = false) ∧ (2 ≤ j → ok1 = false)) ∧ Hid (Below w.heap.size w wr ∧ Blk wr w.heap.size 26 #[.int .i64 k1, .int .i64 k2, .string k3] ∧ Blk wr (w.heap.size + 1) 26 VZ)) (fun v _ => chZ b0 b1 v)
  case atStart => exact ⟨0, rfl, by omega, Lib.hid ⟨fun h => by omega, fun h => by omega⟩, HJ⟩
  case round =>
    obtain ⟨j, rfl, hj, HK, HB⟩ := hrel
    have q0 : wr.cell? ⟨w.heap.size, 0, none⟩ = some (.int .i64 k1) := by rw [HB.out.2.1.cell]; rfl
    have q1 : wr.cell? ⟨w.heap.size, 1, none⟩ = some (.int .i64 k2) := by rw [HB.out.2.1.cell]; rfl
    have q2 : wr.cell? ⟨w.heap.size, 2, none⟩ = some (.string k3) := by rw [HB.out.2.1.cell]; rfl
    match j, hj with
    | 0, _ =>
      simp only [chP]
      go_wp2_with (fail)
      refine (HW.out.1 wr HB.out.1).mono ?_
      rintro e w3 ⟨rfl, b3⟩
      have HB3 := Lib.hid (And.intro (HB.out.1.trans (b3.mono HB.out.1.size)) (And.intro (HB.out.2.1.below b3 HB.out.2.1.lt) (HB.out.2.2.below b3 HB.out.2.2.lt)))
      clear b3 q0 q1 q2
      obtain ⟨g1, g2, g3⟩ := v0
      have ba := (Below.refl w3.heap.size w3).alloc (Nat.le_refl _) (.cells #[.int .i64 g1, .int .i64 g2, .string g3] 26)
      have HB4 := Lib.hid (And.intro (HB3.out.1.trans (ba.mono HB3.out.1.size)) (And.intro (HB3.out.2.1.below ba HB3.out.2.1.lt) (And.intro (HB3.out.2.2.below ba HB3.out.2.2.lt) (And.intro (Blk.new w3 26 #[.int .i64 g1, .int .i64 g2, .string g3]) HB3.out.2.2.lt))))
      clear ba
      cases ok0 with
      | true =>
        have z0 : (w3.alloc (.cells #[.int .i64 g1, .int .i64 g2, .string g3] 26)).frozen? ⟨w.heap.size + 1, 0, none⟩ = false := HB4.out.2.2.1.frozen 0
        have z1 : (w3.alloc (.cells #[.int .i64 g1, .int .i64 g2, .string g3] 26)).frozen? ⟨w.heap.size + 1, 1, none⟩ = false := HB4.out.2.2.1.frozen 1
        have z2 : (w3.alloc (.cells #[.int .i64 g1, .int .i64 g2, .string g3] 26)).frozen? ⟨w.heap.size + 1, 2, none⟩ = false := HB4.out.2.2.1.frozen 2
        have y0 : (w3.alloc (.cells #[.int .i64 g1, .int .i64 g2, .string g3] 26)).cell? ⟨w.heap.size + 1, 0, none⟩ = some (.int .i64 0) := by rw [HB4.out.2.2.1.cell]; rfl
        have y1 : (w3.alloc (.cells #[.int .i64 g1, .int .i64 g2, .string g3] 26)).cell? ⟨w.heap.size + 1, 1, none⟩ = some (.int .i64 0) := by rw [HB4.out.2.2.1.cell]; rfl
        have y2 : (w3.alloc (.cells #[.int .i64 g1, .int .i64 g2, .string g3] 26)).cell? ⟨w.heap.size + 1, 2, none⟩ = some (.string ⟨#[]⟩) := by rw [HB4.out.2.2.1.cell]; rfl
        have l5 := HB4.out.2.2.1.lt
        go_upto_region 6 with fail
        have x0 : (w3.alloc (.cells #[.int .i64 g1, .int .i64 g2, .string g3] 26)).cell? ⟨w3.heap.size, 0, none⟩ = some (.int .i64 g1) := by rw [HB4.out.2.2.2.1.cell]; rfl
        have x1 : (w3.alloc (.cells #[.int .i64 g1, .int .i64 g2, .string g3] 26)).cell? ⟨w3.heap.size, 1, none⟩ = some (.int .i64 g2) := by rw [HB4.out.2.2.2.1.cell]; rfl
        have x2 : (w3.alloc (.cells #[.int .i64 g1, .int .i64 g2, .string g3] 26)).cell? ⟨w3.heap.size, 2, none⟩ = some (.string g3) := by rw [HB4.out.2.2.2.1.cell]; rfl
        generalize w3.alloc (.cells #[.int .i64 g1, .int .i64 g2, .string g3] 26) = w4 at *
        generalize w3.heap.size = Y at *
        clear HB3
        go_wp2
        refine bodyPost_ret (v := .tuple #[VS g1 g2 g3, .int .i64 f0, .bool true]) (by simp [results, Tryd.results36, go_sem, y0, y1, y2, l5]) rfl ?_
        have u : Upd w4 (((w4.setCell ⟨w.heap.size + 1, 0, none⟩ (.int .i64 g1)).setCell ⟨w.heap.size + 1, 1, none⟩ (.int .i64 g2)).setCell ⟨w.heap.size + 1, 2, none⟩ (.string g3)) (fun k => k = w.heap.size + 1) := (((Upd.refl w4 (fun k => k = w.heap.size + 1)).set _ 0 _ rfl).set _ 1 _ rfl).set _ 2 _ rfl
        exact ⟨rfl, HB4.out.1.trans (u.below HB4.out.1.size (fun k e => by omega))⟩
      | false =>
        have c3 : (w3.alloc (.cells #[.int .i64 g1, .int .i64 g2, .string g3] 26)).cell? ⟨b0, 1, none⟩ = some (.int .i64 r1) := (HB4.out.1.cell (World.block_lt_of_cell? w _ HC.out.1)).trans HC.out.1
        go_wp2_with (fail)
        refine (HO.out.2.1 _ HB4.out.1).mono ?_
        rintro e w5 ⟨rfl, b5⟩
        have HB5 := Lib.hid (And.intro (HB4.out.1.trans (b5.mono HB4.out.1.size)) (And.intro (HB4.out.2.1.below b5 HB4.out.2.1.lt) (HB4.out.2.2.1.below b5 HB4.out.2.2.1.lt)))
        clear b5 c3 HB4 HB3
        go_wp2_with (fail)
        go_roundw
        case rel => exact ⟨1, rfl, by omega, Lib.hid ⟨fun _ => (by first | trivial | rfl), fun h => (by first | trivial | rfl | omega)⟩, HB5⟩
        case measure => simp [chZ, chP]; split <;> omega
    | 1, _ =>
      simp only [chP]
      obtain rfl := HK.out.1 (by omega)
      go_wp2_with (fail)
      refine (HW.out.2 wr HB.out.1).mono ?_
      rintro e w3 ⟨rfl, b3⟩
      have HB3 := Lib.hid (And.intro (HB.out.1.trans (b3.mono HB.out.1.size)) (And.intro (HB.out.2.1.below b3 HB.out.2.1.lt) (HB.out.2.2.below b3 HB.out.2.2.lt)))
      clear b3 q0 q1 q2
      obtain ⟨g1, g2, g3⟩ := v1
      have ba := (Below.refl w3.heap.size w3).alloc (Nat.le_refl _) (.cells #[.int .i64 g1, .int .i64 g2, .string g3] 26)
      have HB4 := Lib.hid (And.intro (HB3.out.1.trans (ba.mono HB3.out.1.size)) (And.intro (HB3.out.2.1.below ba HB3.out.2.1.lt) (And.intro (HB3.out.2.2.below ba HB3.out.2.2.lt) (And.intro (Blk.new w3 26 #[.int .i64 g1, .int .i64 g2, .string g3]) HB3.out.2.2.lt))))
      clear ba
      cases ok1 with
      | true =>
        have z0 : (w3.alloc (.cells #[.int .i64 g1, .int .i64 g2, .string g3] 26)).frozen? ⟨w.heap.size + 1, 0, none⟩ = false := HB4.out.2.2.1.frozen 0
        have z1 : (w3.alloc (.cells #[.int .i64 g1, .int .i64 g2, .string g3] 26)).frozen? ⟨w.heap.size + 1, 1, none⟩ = false := HB4.out.2.2.1.frozen 1
        have z2 : (w3.alloc (.cells #[.int .i64 g1, .int .i64 g2, .string g3] 26)).frozen? ⟨w.heap.size + 1, 2, none⟩ = false := HB4.out.2.2.1.frozen 2
        have y0 : (w3.alloc (.cells #[.int .i64 g1, .int .i64 g2, .string g3] 26)).cell? ⟨w.heap.size + 1, 0, none⟩ = some (.int .i64 0) := by rw [HB4.out.2.2.1.cell]; rfl
        have y1 : (w3.alloc (.cells #[.int .i64 g1, .int .i64 g2, .string g3] 26)).cell? ⟨w.heap.size + 1, 1, none⟩ = some (.int .i64 0) := by rw [HB4.out.2.2.1.cell]; rfl
        have y2 : (w3.alloc (.cells #[.int .i64 g1, .int .i64 g2, .string g3] 26)).cell? ⟨w.heap.size + 1, 2, none⟩ = some (.string ⟨#[]⟩) := by rw [HB4.out.2.2.1.cell]; rfl
        have l5 := HB4.out.2.2.1.lt
        go_upto_region 6 with fail
        have x0 : (w3.alloc (.cells #[.int .i64 g1, .int .i64 g2, .string g3] 26)).cell? ⟨w3.heap.size, 0, none⟩ = some (.int .i64 g1) := by rw [HB4.out.2.2.2.1.cell]; rfl
        have x1 : (w3.alloc (.cells #[.int .i64 g1, .int .i64 g2, .string g3] 26)).cell? ⟨w3.heap.size, 1, none⟩ = some (.int .i64 g2) := by rw [HB4.out.2.2.2.1.cell]; rfl
        have x2 : (w3.alloc (.cells #[.int .i64 g1, .int .i64 g2, .string g3] 26)).cell? ⟨w3.heap.size, 2, none⟩ = some (.string g3) := by rw [HB4.out.2.2.2.1.cell]; rfl
        generalize w3.alloc (.cells #[.int .i64 g1, .int .i64 g2, .string g3] 26) = w4 at *
        generalize w3.heap.size = Y at *
        clear HB3
        go_wp2
        refine bodyPost_ret (v := .tuple #[VS g1 g2 g3, .int .i64 f1, .bool true]) (by simp [results, Tryd.results36, go_sem, y0, y1, y2, l5]) rfl ?_
        have u : Upd w4 (((w4.setCell ⟨w.heap.size + 1, 0, none⟩ (.int .i64 g1)).setCell ⟨w.heap.size + 1, 1, none⟩ (.int .i64 g2)).setCell ⟨w.heap.size + 1, 2, none⟩ (.string g3)) (fun k => k = w.heap.size + 1) := (((Upd.refl w4 (fun k => k = w.heap.size + 1)).set _ 0 _ rfl).set _ 1 _ rfl).set _ 2 _ rfl
        exact ⟨rfl, HB4.out.1.trans (u.below HB4.out.1.size (fun k e => by omega))⟩
      | false =>
        have c3 : (w3.alloc (.cells #[.int .i64 g1, .int .i64 g2, .string g3] 26)).cell? ⟨b1, 1, none⟩ = some (.int .i64 0) := (HB4.out.1.cell (World.block_lt_of_cell? w _ HC.out.2)).trans HC.out.2
        go_wp2_with (fail)
        refine (HO.out.2.2 _ HB4.out.1).mono ?_
        rintro e w5 ⟨rfl, b5⟩
        have HB5 := Lib.hid (And.intro (HB4.out.1.trans (b5.mono HB4.out.1.size)) (And.intro (HB4.out.2.1.below b5 HB4.out.2.1.lt) (HB4.out.2.2.1.below b5 HB4.out.2.2.1.lt)))
        clear b5 c3 HB4 HB3
        go_wp2_with (fail)
        go_roundw
        case rel => exact ⟨2, rfl, by omega, Lib.hid ⟨fun _ => (by first | trivial | rfl), fun h => (by first | trivial | rfl | omega)⟩, HB5⟩
        case measure => simp [chZ, chP]; split <;> omega
    | 2, _ =>
      simp only [chP]
      obtain rfl := HK.out.1 (by omega)
      obtain rfl := HK.out.2 (by omega)
      have z0 : wr.frozen? ⟨w.heap.size + 1, 0, none⟩ = false := HB.out.2.2.frozen 0
      have z1 : wr.frozen? ⟨w.heap.size + 1, 1, none⟩ = false := HB.out.2.2.frozen 1
      have z2 : wr.frozen? ⟨w.heap.size + 1, 2, none⟩ = false := HB.out.2.2.frozen 2
      have y0 : wr.cell? ⟨w.heap.size + 1, 0, none⟩ = some (.int .i64 0) := by rw [HB.out.2.2.cell]; rfl
      have y1 : wr.cell? ⟨w.heap.size + 1, 1, none⟩ = some (.int .i64 0) := by rw [HB.out.2.2.cell]; rfl
      have y2 : wr.cell? ⟨w.heap.size + 1, 2, none⟩ = some (.string ⟨#[]⟩) := by rw [HB.out.2.2.cell]; rfl
      have l5 := HB.out.2.2.lt
      go_wp2
      refine bodyPost_ret (v := .tuple #[VS 0 0 ⟨#[]⟩, .int .i64 0, .bool false]) (by simp [results, Tryd.results36, go_sem, y0, y1, y2, l5]) rfl ?_
      have u : Upd wr (((wr.setCell ⟨w.heap.size + 1, 0, none⟩ (.int .i64 0)).setCell ⟨w.heap.size + 1, 1, none⟩ (.int .i64 0)).setCell ⟨w.heap.size + 1, 2, none⟩ (.string ⟨#[]⟩)) (fun k => k = w.heap.size + 1) := (((Upd.refl wr (fun k => k = w.heap.size + 1)).set _ 0 _ rfl).set _ 1 _ rfl).set _ 2 _ rfl
      exact ⟨rfl, HB.out.1.trans (u.below HB.out.1.size (fun k e => by omega))⟩
end Go.Proofs.YtdeboajjhpecbaaDoor.Hp

/- Show: Woe. -/
set_option linter.unusedVariables false
set_option linter.unusedSimpArgs false
namespace Go.Proofs.YtdeboajjhpecbaaDoor.Hp
open Go.RowKit Go.Proofs.YtdeboajjhpecbaaDoor Go.Shelf
/-- Boxes of a call's own, each with its value. -/
structure Bx (w : World) (L : List (Nat × K3)) (W : World) : Prop where
  bel : Below w.heap.size w W
  box : ∀ p ∈ L, w.heap.size ≤ p.1 ∧ Blk W p.1 26 #[.int .i64 p.2.1, .int .i64 p.2.2.1, .string p.2.2.2]
theorem Bx.below {w W W' : World} {L : List (Nat × K3)} (h : Bx w L W) (b : Below W.heap.size W W') : Bx w L W' := ⟨h.bel.trans (b.mono h.bel.size), fun p hp => ⟨(h.box p hp).1, (h.box p hp).2.below b (h.box p hp).2.lt⟩⟩
theorem Bx.new {w W : World} {L : List (Nat × K3)} (h : Bx w L W) (k : K3) : Bx w ((W.heap.size, k) :: L) (W.alloc (.cells #[.int .i64 k.1, .int .i64 k.2.1, .string k.2.2] 26)) := by
  have b := (Below.refl W.heap.size W).alloc (Nat.le_refl _) (.cells #[.int .i64 k.1, .int .i64 k.2.1, .string k.2.2] 26)
  have h2 := h.below b
  refine ⟨h2.bel, fun p hp => ?_⟩
  rcases List.mem_cons.1 hp with rfl | hp
  · exact ⟨h.bel.size, Blk.new W _ _⟩
  · exact h2.box p hp
theorem Bx.set {w W : World} {L : List (Nat × K3)} {Y : Nat} {k0 : K3} (h : Bx w ((Y, k0) :: L) W) (hY : ∀ p ∈ L, p.1 ≠ Y) (k : K3) :
    Bx w ((Y, k) :: L) (((W.setCell ⟨Y, 0, none⟩ (.int .i64 k.1)).setCell ⟨Y, 1, none⟩ (.int .i64 k.2.1)).setCell ⟨Y, 2, none⟩ (.string k.2.2)) := by
  have hb := h.box _ (List.mem_cons_self ..)
  have u : Upd W (((W.setCell ⟨Y, 0, none⟩ (.int .i64 k.1)).setCell ⟨Y, 1, none⟩ (.int .i64 k.2.1)).setCell ⟨Y, 2, none⟩ (.string k.2.2)) (fun k => k = Y) := (((Upd.refl W (fun k => k = Y)).set _ 0 _ rfl).set _ 1 _ rfl).set _ 2 _ rfl
  refine ⟨h.bel.trans (u.below h.bel.size (fun k e => e ▸ hb.1)), fun p hp => ?_⟩
  rcases List.mem_cons.1 hp with rfl | hp
  · exact ⟨hb.1, ((hb.2.set_ 0 _).set_ 1 _).set_ 2 _⟩
  · exact ⟨(h.box p (List.mem_cons_of_mem _ hp)).1, u.blk (h.box p (List.mem_cons_of_mem _ hp)).2 (hY p hp)⟩
set_option maxRecDepth 100000 in
set_option maxHeartbeats 16000000 in
theorem woe_any {w : World} {m H : Nat} {n0 : Int} {s0 : ByteArray} {vn vm : K3} {fn fm : Int} {okn okm : Bool} {gn gm : List UInt8} (x0 : w.cell? ⟨m, 0, none⟩ = some (.pointer (some ⟨H, 0, none⟩)))
    (hFn : ∀ W, Below w.heap.size w W → Calls Tryd.prog 36 #[.pointer (some ⟨H, 0, none⟩), .int .i64 n0, VK nameK3] W fun e W' => e = .returned (.tuple #[VK vn, .int .i64 fn, .bool okn]) ∧ Below W.heap.size W W')
    (hFm : ∀ W, Below w.heap.size w W → Calls Tryd.prog 36 #[.pointer (some ⟨H, 0, none⟩), .int .i64 n0, VK msgK3] W fun e W' => e = .returned (.tuple #[VK vm, .int .i64 fm, .bool okm]) ∧ Below W.heap.size W W')
    (hSn : ∀ W, Below w.heap.size w W → Calls Tryd.prog 24 #[.pointer (some ⟨m, 0, none⟩), VK vn, .int .i64 9] W (ShwP ⟨gn.toArray⟩ W))
    (hSm : ∀ W, Below w.heap.size w W → Calls Tryd.prog 24 #[.pointer (some ⟨m, 0, none⟩), VK vm, .int .i64 9] W (ShwP ⟨gm.toArray⟩ W))
    (hl : gn.length + gm.length ≤ 16000) (B : Bool) (h7 : vm.1 = 7) (hB : vm.2.2.toList.isEmpty = B) :
    Calls Tryd.prog 15 #[.pointer (some ⟨m, 0, none⟩), VS 9 n0 s0] w (ShwP ⟨(if B then gn else gn ++ 58 :: 32 :: gm).toArray⟩ w) := by
  obtain ⟨vn1, vn2, vn3⟩ := vn
  obtain ⟨vm1, vm2, vm3⟩ := vm
  dsimp only at h7 hB
  subst h7
  obtain ⟨res, hres⟩ : ∃ r, (if B then gn else gn ++ 58 :: 32 :: gm) = r := ⟨_, rfl⟩
  rw [hres]
  have HRS := Lib.hid hres
  have HF := Lib.hid (And.intro hFn hFm)
  have HSH := Lib.hid (And.intro hSn hSm)
  have HL := Lib.hid hl
  have HM := Lib.hid x0
  have HEQ := Lib.hid hB
  have HX := Lib.hid (Bx.new (L := []) ⟨Below.refl w.heap.size w, fun p hp => by cases hp⟩ (9, n0, s0))
  clear hFn hFm hSn hSm hl x0 hres hB
  go_enter Tryd.func15, Tryd.ntmps15
  go_upto_region 1 with fail
  generalize w.alloc (.cells #[.int .i64 9, .int .i64 n0, .string s0] 26) = W1 at *
  generalize hXX : w.heap.size = X at HX ⊢
  go_cut [5] from 5 to 22 (fun s5 wx => ∃ Y : Nat, s5 = .pointer (some ⟨Y, 0, none⟩) ∧ Y ≠ X ∧ Hid (Bx w ((Y, (vn1, vn2, vn3)) :: [(X, (9, n0, s0))]) wx))
  case first =>
    refine wp_var0 (fun KV HKV => ?_)
    refine wp_region_till (m := 7) (S := (fun W => W.cell? ⟨m, 0, none⟩ = some (.pointer (some ⟨H, 0, none⟩)) ∧ W.cell? ⟨X, 1, none⟩ = some (.int .i64 n0))) (by kernel_rfl) ?_
    have e4 : W1.drew = W1.drewN 1 := rfl
    rw [e4]
    have HY := Lib.hid (HX.out.below (below_drw (Below.refl _ _) 1))
    have S0 : (W1.drewN 1).cell? ⟨m, 0, none⟩ = some (.pointer (some ⟨H, 0, none⟩)) ∧ (W1.drewN 1).cell? ⟨X, 1, none⟩ = some (.int .i64 n0) := ⟨(HY.out.bel.cell (World.block_lt_of_cell? _ _ HM.out)).trans HM.out, by rw [(HY.out.box (X, (9, n0, s0)) (by simp)).2.cell]; rfl⟩
    clear e4 HX
    generalize W1.drewN 1 = E0 at *
    change tillH _ _ _ _ _ _ 16 #[false, false, false, false, false, false, false, false, false, false, false, false, false, false, false, false] _ _
    refine tillH_takeAny (i := 0) (oi := ?oo1) (v := ?vv1) ?hi1 (by kernel_rfl) (by kernel_rfl) (by kernel_rfl) ?hq1 (by kernel_rfl) ?hy1 (fun _ => S0) ?hh1
    case hi1 => (simp only [List.getElem?_toArray, List.getElem?_cons_succ, List.getElem?_cons_zero]; rfl)
    case hq1 => exact fun _ _ _ h => h
    case hy1 => exact Or.inl ⟨by rfl, by (intro W; go_simp; (try with_reducible rfl))⟩
    (try simp only [Act.put, List.setIfInBounds_toArray, List.set_cons_zero, List.set_cons_succ])
    refine tillH_takeAny (i := 1) (oi := ?oo2) (v := ?vv2) ?hi2 (by kernel_rfl) (by kernel_rfl) (by kernel_rfl) ?hq2 (by kernel_rfl) ?hy2 (fun _ => S0) ?hh2
    case hi2 => (simp only [List.getElem?_toArray, List.getElem?_cons_succ, List.getElem?_cons_zero]; rfl)
    case hq2 => exact fun _ _ _ h => h
    case hy2 => exact Or.inl ⟨by rfl, by (intro W; go_simp; (try with_reducible rfl))⟩
    (try simp only [Act.put, List.setIfInBounds_toArray, List.set_cons_zero, List.set_cons_succ])
    refine tillH_takeAny (i := 2) (oi := ?oo3) (v := ?vv3) ?hi3 (by kernel_rfl) (by kernel_rfl) (by kernel_rfl) ?hq3 (by kernel_rfl) ?hy3 (fun _ => S0) ?hh3
    case hi3 => (simp only [List.getElem?_toArray, List.getElem?_cons_succ, List.getElem?_cons_zero]; rfl)
    case hq3 => exact fun _ _ _ h => h
    case hy3 => exact Or.inl ⟨by rfl, by (intro W; go_simp; (try with_reducible rfl))⟩
    (try simp only [Act.put, List.setIfInBounds_toArray, List.set_cons_zero, List.set_cons_succ])
    refine tillH_take (i := 3) (oi := ?oo4) (v := ?vv4) ?hi4 (by kernel_rfl) (by kernel_rfl) (by kernel_rfl) ?hq4 (by kernel_rfl) (by kernel_rfl) (by kernel_rfl) ?hy4 S0 ?hh4
    case hi4 => (simp only [List.getElem?_toArray, List.getElem?_cons_succ, List.getElem?_cons_zero]; rfl)
    case hq4 => exact fun _ _ _ h => h
    case hy4 => exact Or.inl ⟨by rfl, by (intro W hSw; (try obtain ⟨s0, s1⟩ := hSw); go_simp; (try with_reducible rfl))⟩
    (try simp only [Act.put, List.setIfInBounds_toArray, List.set_cons_zero, List.set_cons_succ])
    refine tillH_takeAny (i := 4) (oi := ?oo5) (v := ?vv5) ?hi5 (by kernel_rfl) (by kernel_rfl) (by kernel_rfl) ?hq5 (by kernel_rfl) ?hy5 (fun _ => S0) ?hh5
    case hi5 => (simp only [List.getElem?_toArray, List.getElem?_cons_succ, List.getElem?_cons_zero]; rfl)
    case hq5 => exact fun _ _ _ h => h
    case hy5 => exact Or.inl ⟨by rfl, by (intro W; go_simp; (try with_reducible rfl))⟩
    (try simp only [Act.put, List.setIfInBounds_toArray, List.set_cons_zero, List.set_cons_succ])
    refine tillH_take (i := 5) (oi := ?oo6) (v := ?vv6) ?hi6 (by kernel_rfl) (by kernel_rfl) (by kernel_rfl) ?hq6 (by kernel_rfl) (by kernel_rfl) (by kernel_rfl) ?hy6 S0 ?hh6
    case hi6 => (simp only [List.getElem?_toArray, List.getElem?_cons_succ, List.getElem?_cons_zero]; rfl)
    case hq6 => exact fun _ _ _ h => h
    case hy6 => exact Or.inl ⟨by rfl, by (intro W hSw; (try obtain ⟨s0, s1⟩ := hSw); go_simp; (try with_reducible rfl))⟩
    (try simp only [Act.put, List.setIfInBounds_toArray, List.set_cons_zero, List.set_cons_succ])
    refine tillH_next (rs := [6, 12]) (by kernel_rfl) (by simp) ?_
    refine NextH.cons rfl (fun K hK => ?_) (NextH.cons rfl (fun K hK => ?_) NextH.nil)
    · go_simp
      refine (val_name E0).mono ?_
      rintro e E1 ⟨rfl, b6⟩
      have HY := Lib.hid (HY.out.below b6)
      clear b6
      have S1 : E1.cell? ⟨m, 0, none⟩ = some (.pointer (some ⟨H, 0, none⟩)) ∧ E1.cell? ⟨X, 1, none⟩ = some (.int .i64 n0) := ⟨(HY.out.bel.cell (World.block_lt_of_cell? _ _ HM.out)).trans HM.out, by rw [(HY.out.box (X, (9, n0, s0)) (by simp)).2.cell]; rfl⟩
      refine hK.out _ _ (fun _ => S1) ?_
      clear hK K
      (try simp only [Act.put, List.setIfInBounds_toArray, List.set_cons_zero, List.set_cons_succ])
      refine tillH_next (rs := [7, 12]) (by kernel_rfl) (by simp) ?_
      refine NextH.cons rfl (fun K hK => ?_) (NextH.cons rfl (fun K hK => ?_) NextH.nil)
      · go_simp
        refine (HF.out.1 E1 HY.out.bel).mono ?_
        rintro e E2 ⟨rfl, b6⟩
        have HY := Lib.hid (HY.out.below b6)
        clear b6
        refine hK.out _ _ (fun h => absurd h (by simp)) ?_
        clear hK K
        (try simp only [Act.put, List.setIfInBounds_toArray, List.set_cons_zero, List.set_cons_succ])
        refine tillH_takeAny (i := 8) (oi := ?oo7) (v := ?vv7) ?hi7 (by kernel_rfl) (by kernel_rfl) (by kernel_rfl) ?hq7 (by kernel_rfl) ?hy7 (fun h => absurd h (by simp)) ?hh7
        case hi7 => (simp only [List.getElem?_toArray, List.getElem?_cons_succ, List.getElem?_cons_zero]; rfl)
        case hq7 => exact fun _ _ _ h => h
        case hy7 => exact Or.inl ⟨by rfl, by (intro W; go_simp; (try with_reducible rfl))⟩
        (try simp only [Act.put, List.setIfInBounds_toArray, List.set_cons_zero, List.set_cons_succ])
        refine tillH_takeAny (i := 9) (oi := ?oo8) (v := ?vv8) ?hi8 (by kernel_rfl) (by kernel_rfl) (by kernel_rfl) ?hq8 (by kernel_rfl) ?hy8 (fun h => absurd h (by simp)) ?hh8
        case hi8 => (simp only [List.getElem?_toArray, List.getElem?_cons_succ, List.getElem?_cons_zero]; rfl)
        case hq8 => exact fun _ _ _ h => h
        case hy8 => exact Or.inl ⟨by rfl, by (intro W; go_simp; (try with_reducible rfl))⟩
        (try simp only [Act.put, List.setIfInBounds_toArray, List.set_cons_zero, List.set_cons_succ])
        refine tillH_takeAny (i := 10) (oi := ?oo9) (v := ?vv9) ?hi9 (by kernel_rfl) (by kernel_rfl) (by kernel_rfl) ?hq9 (by kernel_rfl) ?hy9 (fun h => absurd h (by simp)) ?hh9
        case hi9 => (simp only [List.getElem?_toArray, List.getElem?_cons_succ, List.getElem?_cons_zero]; rfl)
        case hq9 => exact fun _ _ _ h => h
        case hy9 => exact Or.inl ⟨by rfl, by (intro W; go_simp; (try with_reducible rfl))⟩
        (try simp only [Act.put, List.setIfInBounds_toArray, List.set_cons_zero, List.set_cons_succ])
        refine tillH_takeAny (i := 11) (oi := ?oo10) (v := ?vv10) ?hi10 (by kernel_rfl) (by kernel_rfl) (by kernel_rfl) ?hq10 (by kernel_rfl) ?hy10 (fun h => absurd h (by simp)) ?hh10
        case hi10 => (simp only [List.getElem?_toArray, List.getElem?_cons_succ, List.getElem?_cons_zero]; rfl)
        case hq10 => exact fun _ _ _ h => h
        case hy10 => exact Or.inl ⟨by rfl, by (intro W; go_simp; (try with_reducible rfl))⟩
        (try simp only [Act.put, List.setIfInBounds_toArray, List.set_cons_zero, List.set_cons_succ])
        refine tillH_next (rs := [12]) (by kernel_rfl) (by simp) ?_
        refine NextH.cons rfl (fun K hK => ?_) NextH.nil
        go_simp
        have hYX : E2.heap.size ≠ X := by have := (HY.out.box (X, (9, n0, s0)) (by simp)).2.lt; omega
        have HY := Lib.hid (HY.out.new (0, 0, ⟨#[]⟩))
        refine hK.out _ _ (fun h => absurd h (by simp)) ?_
        clear hK K
        (try simp only [Act.put, List.setIfInBounds_toArray, List.set_cons_zero, List.set_cons_succ])
        dsimp only at HY
        generalize E2.alloc (.cells #[.int .i64 0, .int .i64 0, .string ⟨#[]⟩] 26) = E3 at *
        generalize E2.heap.size = Y at *
        have hb := HY.out.box (Y, (0, 0, ⟨#[]⟩)) (by simp)
        have z0 : E3.frozen? ⟨Y, 0, none⟩ = false := hb.2.frozen 0
        have z1 : E3.frozen? ⟨Y, 1, none⟩ = false := hb.2.frozen 1
        have z2 : E3.frozen? ⟨Y, 2, none⟩ = false := hb.2.frozen 2
        have y0 : E3.cell? ⟨Y, 0, none⟩ = some (.int .i64 0) := by rw [hb.2.cell]; rfl
        have y1 : E3.cell? ⟨Y, 1, none⟩ = some (.int .i64 0) := by rw [hb.2.cell]; rfl
        have y2 : E3.cell? ⟨Y, 2, none⟩ = some (.string ⟨#[]⟩) := by rw [hb.2.cell]; rfl
        refine tillH_next (rs := [13]) (by kernel_rfl) (by simp) ?_
        refine NextH.cons rfl (fun K hK => ?_) NextH.nil
        go_simp
        refine hK.out _ _ (fun h => absurd h (by simp)) ?_
        clear hK K z0 z1 z2 y0 y1 y2 hb
        (try simp only [Act.put, List.setIfInBounds_toArray, List.set_cons_zero, List.set_cons_succ])
        refine tillH_takeAny (i := 14) (oi := ?oo11) (v := ?vv11) ?hi11 (by kernel_rfl) (by kernel_rfl) (by kernel_rfl) ?hq11 (by kernel_rfl) ?hy11 (fun h => absurd h (by simp)) ?hh11
        case hi11 => (simp only [List.getElem?_toArray, List.getElem?_cons_succ, List.getElem?_cons_zero]; rfl)
        case hq11 => exact fun _ _ _ h => h
        case hy11 => exact Or.inl ⟨by rfl, by (intro W; go_simp; (try with_reducible rfl))⟩
        (try simp only [Act.put, List.setIfInBounds_toArray, List.set_cons_zero, List.set_cons_succ])
        refine tillH_takeAny (i := 15) (oi := ?oo12) (v := ?vv12) ?hi12 (by kernel_rfl) (by kernel_rfl) (by kernel_rfl) ?hq12 (by kernel_rfl) ?hy12 (fun h => absurd h (by simp)) ?hh12
        case hi12 => (simp only [List.getElem?_toArray, List.getElem?_cons_succ, List.getElem?_cons_zero]; rfl)
        case hq12 => exact fun _ _ _ h => h
        case hy12 => exact Or.inl ⟨by rfl, by (intro W; go_simp; (try with_reducible rfl))⟩
        (try simp only [Act.put, List.setIfInBounds_toArray, List.set_cons_zero, List.set_cons_succ])
        refine tillH_done (by kernel_rfl) ?_ _
        refine HKV.out _ _ ?_
        have HZ := Lib.hid (HY.out.set (fun p hp => by simp at hp; subst hp; exact fun e => hYX e.symm) (vn1, vn2, vn3))
        clear HY S0
        go_wp2_with (fail)
        go_meet
        exact ⟨Y, rfl, hYX, HZ⟩
      · go_simp
        have hYX : E1.heap.size ≠ X := by have := (HY.out.box (X, (9, n0, s0)) (by simp)).2.lt; omega
        have HY := Lib.hid (HY.out.new (0, 0, ⟨#[]⟩))
        have S4 : (E1.alloc (.cells #[.int .i64 0, .int .i64 0, .string ⟨#[]⟩] 26)).cell? ⟨m, 0, none⟩ = some (.pointer (some ⟨H, 0, none⟩)) ∧ (E1.alloc (.cells #[.int .i64 0, .int .i64 0, .string ⟨#[]⟩] 26)).cell? ⟨X, 1, none⟩ = some (.int .i64 n0) := ⟨(HY.out.bel.cell (World.block_lt_of_cell? _ _ HM.out)).trans HM.out, by rw [(HY.out.box (X, (9, n0, s0)) (by simp)).2.cell]; rfl⟩
        refine hK.out _ _ (fun _ => S4) ?_
        clear hK K
        (try simp only [Act.put, List.setIfInBounds_toArray, List.set_cons_zero, List.set_cons_succ])
        dsimp only at HY
        generalize E1.alloc (.cells #[.int .i64 0, .int .i64 0, .string ⟨#[]⟩] 26) = E4 at *
        generalize E1.heap.size = Y at *
        refine tillH_next (rs := [7]) (by kernel_rfl) (by simp) ?_
        refine NextH.cons rfl (fun K hK => ?_) NextH.nil
        go_simp
        refine (HF.out.1 E4 HY.out.bel).mono ?_
        rintro e E5 ⟨rfl, b6⟩
        have HY := Lib.hid (HY.out.below b6)
        clear b6
        refine hK.out _ _ (fun h => absurd h (by simp)) ?_
        clear hK K
        (try simp only [Act.put, List.setIfInBounds_toArray, List.set_cons_zero, List.set_cons_succ])
        refine tillH_takeAny (i := 8) (oi := ?oo13) (v := ?vv13) ?hi13 (by kernel_rfl) (by kernel_rfl) (by kernel_rfl) ?hq13 (by kernel_rfl) ?hy13 (fun h => absurd h (by simp)) ?hh13
        case hi13 => (simp only [List.getElem?_toArray, List.getElem?_cons_succ, List.getElem?_cons_zero]; rfl)
        case hq13 => exact fun _ _ _ h => h
        case hy13 => exact Or.inl ⟨by rfl, by (intro W; go_simp; (try with_reducible rfl))⟩
        (try simp only [Act.put, List.setIfInBounds_toArray, List.set_cons_zero, List.set_cons_succ])
        refine tillH_takeAny (i := 9) (oi := ?oo14) (v := ?vv14) ?hi14 (by kernel_rfl) (by kernel_rfl) (by kernel_rfl) ?hq14 (by kernel_rfl) ?hy14 (fun h => absurd h (by simp)) ?hh14
        case hi14 => (simp only [List.getElem?_toArray, List.getElem?_cons_succ, List.getElem?_cons_zero]; rfl)
        case hq14 => exact fun _ _ _ h => h
        case hy14 => exact Or.inl ⟨by rfl, by (intro W; go_simp; (try with_reducible rfl))⟩
        (try simp only [Act.put, List.setIfInBounds_toArray, List.set_cons_zero, List.set_cons_succ])
        refine tillH_takeAny (i := 10) (oi := ?oo15) (v := ?vv15) ?hi15 (by kernel_rfl) (by kernel_rfl) (by kernel_rfl) ?hq15 (by kernel_rfl) ?hy15 (fun h => absurd h (by simp)) ?hh15
        case hi15 => (simp only [List.getElem?_toArray, List.getElem?_cons_succ, List.getElem?_cons_zero]; rfl)
        case hq15 => exact fun _ _ _ h => h
        case hy15 => exact Or.inl ⟨by rfl, by (intro W; go_simp; (try with_reducible rfl))⟩
        (try simp only [Act.put, List.setIfInBounds_toArray, List.set_cons_zero, List.set_cons_succ])
        refine tillH_takeAny (i := 11) (oi := ?oo16) (v := ?vv16) ?hi16 (by kernel_rfl) (by kernel_rfl) (by kernel_rfl) ?hq16 (by kernel_rfl) ?hy16 (fun h => absurd h (by simp)) ?hh16
        case hi16 => (simp only [List.getElem?_toArray, List.getElem?_cons_succ, List.getElem?_cons_zero]; rfl)
        case hq16 => exact fun _ _ _ h => h
        case hy16 => exact Or.inl ⟨by rfl, by (intro W; go_simp; (try with_reducible rfl))⟩
        (try simp only [Act.put, List.setIfInBounds_toArray, List.set_cons_zero, List.set_cons_succ])
        have hb := HY.out.box (Y, (0, 0, ⟨#[]⟩)) (by simp)
        have z0 : E5.frozen? ⟨Y, 0, none⟩ = false := hb.2.frozen 0
        have z1 : E5.frozen? ⟨Y, 1, none⟩ = false := hb.2.frozen 1
        have z2 : E5.frozen? ⟨Y, 2, none⟩ = false := hb.2.frozen 2
        have y0 : E5.cell? ⟨Y, 0, none⟩ = some (.int .i64 0) := by rw [hb.2.cell]; rfl
        have y1 : E5.cell? ⟨Y, 1, none⟩ = some (.int .i64 0) := by rw [hb.2.cell]; rfl
        have y2 : E5.cell? ⟨Y, 2, none⟩ = some (.string ⟨#[]⟩) := by rw [hb.2.cell]; rfl
        refine tillH_next (rs := [13]) (by kernel_rfl) (by simp) ?_
        refine NextH.cons rfl (fun K hK => ?_) NextH.nil
        go_simp
        refine hK.out _ _ (fun h => absurd h (by simp)) ?_
        clear hK K z0 z1 z2 y0 y1 y2 hb
        (try simp only [Act.put, List.setIfInBounds_toArray, List.set_cons_zero, List.set_cons_succ])
        refine tillH_takeAny (i := 14) (oi := ?oo17) (v := ?vv17) ?hi17 (by kernel_rfl) (by kernel_rfl) (by kernel_rfl) ?hq17 (by kernel_rfl) ?hy17 (fun h => absurd h (by simp)) ?hh17
        case hi17 => (simp only [List.getElem?_toArray, List.getElem?_cons_succ, List.getElem?_cons_zero]; rfl)
        case hq17 => exact fun _ _ _ h => h
        case hy17 => exact Or.inl ⟨by rfl, by (intro W; go_simp; (try with_reducible rfl))⟩
        (try simp only [Act.put, List.setIfInBounds_toArray, List.set_cons_zero, List.set_cons_succ])
        refine tillH_takeAny (i := 15) (oi := ?oo18) (v := ?vv18) ?hi18 (by kernel_rfl) (by kernel_rfl) (by kernel_rfl) ?hq18 (by kernel_rfl) ?hy18 (fun h => absurd h (by simp)) ?hh18
        case hi18 => (simp only [List.getElem?_toArray, List.getElem?_cons_succ, List.getElem?_cons_zero]; rfl)
        case hq18 => exact fun _ _ _ h => h
        case hy18 => exact Or.inl ⟨by rfl, by (intro W; go_simp; (try with_reducible rfl))⟩
        (try simp only [Act.put, List.setIfInBounds_toArray, List.set_cons_zero, List.set_cons_succ])
        refine tillH_done (by kernel_rfl) ?_ _
        refine HKV.out _ _ ?_
        have HZ := Lib.hid (HY.out.set (fun p hp => by simp at hp; subst hp; exact fun e => hYX e.symm) (vn1, vn2, vn3))
        clear HY S0
        go_wp2_with (fail)
        go_meet
        exact ⟨Y, rfl, hYX, HZ⟩
    · go_simp
      have hYX : E0.heap.size ≠ X := by have := (HY.out.box (X, (9, n0, s0)) (by simp)).2.lt; omega
      have HY := Lib.hid (HY.out.new (0, 0, ⟨#[]⟩))
      have S6 : (E0.alloc (.cells #[.int .i64 0, .int .i64 0, .string ⟨#[]⟩] 26)).cell? ⟨m, 0, none⟩ = some (.pointer (some ⟨H, 0, none⟩)) ∧ (E0.alloc (.cells #[.int .i64 0, .int .i64 0, .string ⟨#[]⟩] 26)).cell? ⟨X, 1, none⟩ = some (.int .i64 n0) := ⟨(HY.out.bel.cell (World.block_lt_of_cell? _ _ HM.out)).trans HM.out, by rw [(HY.out.box (X, (9, n0, s0)) (by simp)).2.cell]; rfl⟩
      refine hK.out _ _ (fun _ => S6) ?_
      clear hK K
      (try simp only [Act.put, List.setIfInBounds_toArray, List.set_cons_zero, List.set_cons_succ])
      dsimp only at HY
      generalize E0.alloc (.cells #[.int .i64 0, .int .i64 0, .string ⟨#[]⟩] 26) = E6 at *
      generalize E0.heap.size = Y at *
      refine tillH_next (rs := [6]) (by kernel_rfl) (by simp) ?_
      refine NextH.cons rfl (fun K hK => ?_) NextH.nil
      go_simp
      refine (val_name E6).mono ?_
      rintro e E7 ⟨rfl, b6⟩
      have HY := Lib.hid (HY.out.below b6)
      clear b6
      have S7 : E7.cell? ⟨m, 0, none⟩ = some (.pointer (some ⟨H, 0, none⟩)) ∧ E7.cell? ⟨X, 1, none⟩ = some (.int .i64 n0) := ⟨(HY.out.bel.cell (World.block_lt_of_cell? _ _ HM.out)).trans HM.out, by rw [(HY.out.box (X, (9, n0, s0)) (by simp)).2.cell]; rfl⟩
      refine hK.out _ _ (fun _ => S7) ?_
      clear hK K
      (try simp only [Act.put, List.setIfInBounds_toArray, List.set_cons_zero, List.set_cons_succ])
      refine tillH_next (rs := [7]) (by kernel_rfl) (by simp) ?_
      refine NextH.cons rfl (fun K hK => ?_) NextH.nil
      go_simp
      refine (HF.out.1 E7 HY.out.bel).mono ?_
      rintro e E8 ⟨rfl, b6⟩
      have HY := Lib.hid (HY.out.below b6)
      clear b6
      refine hK.out _ _ (fun h => absurd h (by simp)) ?_
      clear hK K
      (try simp only [Act.put, List.setIfInBounds_toArray, List.set_cons_zero, List.set_cons_succ])
      refine tillH_takeAny (i := 8) (oi := ?oo19) (v := ?vv19) ?hi19 (by kernel_rfl) (by kernel_rfl) (by kernel_rfl) ?hq19 (by kernel_rfl) ?hy19 (fun h => absurd h (by simp)) ?hh19
      case hi19 => (simp only [List.getElem?_toArray, List.getElem?_cons_succ, List.getElem?_cons_zero]; rfl)
      case hq19 => exact fun _ _ _ h => h
      case hy19 => exact Or.inl ⟨by rfl, by (intro W; go_simp; (try with_reducible rfl))⟩
      (try simp only [Act.put, List.setIfInBounds_toArray, List.set_cons_zero, List.set_cons_succ])
      refine tillH_takeAny (i := 9) (oi := ?oo20) (v := ?vv20) ?hi20 (by kernel_rfl) (by kernel_rfl) (by kernel_rfl) ?hq20 (by kernel_rfl) ?hy20 (fun h => absurd h (by simp)) ?hh20
      case hi20 => (simp only [List.getElem?_toArray, List.getElem?_cons_succ, List.getElem?_cons_zero]; rfl)
      case hq20 => exact fun _ _ _ h => h
      case hy20 => exact Or.inl ⟨by rfl, by (intro W; go_simp; (try with_reducible rfl))⟩
      (try simp only [Act.put, List.setIfInBounds_toArray, List.set_cons_zero, List.set_cons_succ])
      refine tillH_takeAny (i := 10) (oi := ?oo21) (v := ?vv21) ?hi21 (by kernel_rfl) (by kernel_rfl) (by kernel_rfl) ?hq21 (by kernel_rfl) ?hy21 (fun h => absurd h (by simp)) ?hh21
      case hi21 => (simp only [List.getElem?_toArray, List.getElem?_cons_succ, List.getElem?_cons_zero]; rfl)
      case hq21 => exact fun _ _ _ h => h
      case hy21 => exact Or.inl ⟨by rfl, by (intro W; go_simp; (try with_reducible rfl))⟩
      (try simp only [Act.put, List.setIfInBounds_toArray, List.set_cons_zero, List.set_cons_succ])
      refine tillH_takeAny (i := 11) (oi := ?oo22) (v := ?vv22) ?hi22 (by kernel_rfl) (by kernel_rfl) (by kernel_rfl) ?hq22 (by kernel_rfl) ?hy22 (fun h => absurd h (by simp)) ?hh22
      case hi22 => (simp only [List.getElem?_toArray, List.getElem?_cons_succ, List.getElem?_cons_zero]; rfl)
      case hq22 => exact fun _ _ _ h => h
      case hy22 => exact Or.inl ⟨by rfl, by (intro W; go_simp; (try with_reducible rfl))⟩
      (try simp only [Act.put, List.setIfInBounds_toArray, List.set_cons_zero, List.set_cons_succ])
      have hb := HY.out.box (Y, (0, 0, ⟨#[]⟩)) (by simp)
      have z0 : E8.frozen? ⟨Y, 0, none⟩ = false := hb.2.frozen 0
      have z1 : E8.frozen? ⟨Y, 1, none⟩ = false := hb.2.frozen 1
      have z2 : E8.frozen? ⟨Y, 2, none⟩ = false := hb.2.frozen 2
      have y0 : E8.cell? ⟨Y, 0, none⟩ = some (.int .i64 0) := by rw [hb.2.cell]; rfl
      have y1 : E8.cell? ⟨Y, 1, none⟩ = some (.int .i64 0) := by rw [hb.2.cell]; rfl
      have y2 : E8.cell? ⟨Y, 2, none⟩ = some (.string ⟨#[]⟩) := by rw [hb.2.cell]; rfl
      refine tillH_next (rs := [13]) (by kernel_rfl) (by simp) ?_
      refine NextH.cons rfl (fun K hK => ?_) NextH.nil
      go_simp
      refine hK.out _ _ (fun h => absurd h (by simp)) ?_
      clear hK K z0 z1 z2 y0 y1 y2 hb
      (try simp only [Act.put, List.setIfInBounds_toArray, List.set_cons_zero, List.set_cons_succ])
      refine tillH_takeAny (i := 14) (oi := ?oo23) (v := ?vv23) ?hi23 (by kernel_rfl) (by kernel_rfl) (by kernel_rfl) ?hq23 (by kernel_rfl) ?hy23 (fun h => absurd h (by simp)) ?hh23
      case hi23 => (simp only [List.getElem?_toArray, List.getElem?_cons_succ, List.getElem?_cons_zero]; rfl)
      case hq23 => exact fun _ _ _ h => h
      case hy23 => exact Or.inl ⟨by rfl, by (intro W; go_simp; (try with_reducible rfl))⟩
      (try simp only [Act.put, List.setIfInBounds_toArray, List.set_cons_zero, List.set_cons_succ])
      refine tillH_takeAny (i := 15) (oi := ?oo24) (v := ?vv24) ?hi24 (by kernel_rfl) (by kernel_rfl) (by kernel_rfl) ?hq24 (by kernel_rfl) ?hy24 (fun h => absurd h (by simp)) ?hh24
      case hi24 => (simp only [List.getElem?_toArray, List.getElem?_cons_succ, List.getElem?_cons_zero]; rfl)
      case hq24 => exact fun _ _ _ h => h
      case hy24 => exact Or.inl ⟨by rfl, by (intro W; go_simp; (try with_reducible rfl))⟩
      (try simp only [Act.put, List.setIfInBounds_toArray, List.set_cons_zero, List.set_cons_succ])
      refine tillH_done (by kernel_rfl) ?_ _
      refine HKV.out _ _ ?_
      have HZ := Lib.hid (HY.out.set (fun p hp => by simp at hp; subst hp; exact fun e => hYX e.symm) (vn1, vn2, vn3))
      clear HY S0
      go_wp2_with (fail)
      go_meet
      exact ⟨Y, rfl, hYX, HZ⟩
  case rest =>
  obtain ⟨Y0, rfl, hY0, HX⟩ := hcut
  go_upto_region 2 with fail
  go_cut [8] from 8 to 34 (fun s5 wx => ∃ Y : Nat, s5 = .pointer (some ⟨Y, 0, none⟩) ∧ Y ≠ X ∧ Hid (Bx w ((Y, (7, vm2, vm3)) :: [(Y0, (vn1, vn2, vn3)), (X, (9, n0, s0))]) wx))
  case first =>
    refine wp_var0 (fun KV HKV => ?_)
    refine wp_region_till (m := 7) (S := (fun W => W.cell? ⟨m, 0, none⟩ = some (.pointer (some ⟨H, 0, none⟩)) ∧ W.cell? ⟨X, 1, none⟩ = some (.int .i64 n0))) (by kernel_rfl) ?_
    have e4 : wc.drew = wc.drewN 1 := rfl
    rw [e4]
    have HY := Lib.hid (HX.out.below (below_drw (Below.refl _ _) 1))
    have S0 : (wc.drewN 1).cell? ⟨m, 0, none⟩ = some (.pointer (some ⟨H, 0, none⟩)) ∧ (wc.drewN 1).cell? ⟨X, 1, none⟩ = some (.int .i64 n0) := ⟨(HY.out.bel.cell (World.block_lt_of_cell? _ _ HM.out)).trans HM.out, by rw [(HY.out.box (X, (9, n0, s0)) (by simp)).2.cell]; rfl⟩
    clear e4 HX
    generalize wc.drewN 1 = E0 at *
    change tillH _ _ _ _ _ _ 16 #[false, false, false, false, false, false, false, false, false, false, false, false, false, false, false, false] _ _
    refine tillH_takeAny (i := 0) (oi := ?oo25) (v := ?vv25) ?hi25 (by kernel_rfl) (by kernel_rfl) (by kernel_rfl) ?hq25 (by kernel_rfl) ?hy25 (fun _ => S0) ?hh25
    case hi25 => (simp only [List.getElem?_toArray, List.getElem?_cons_succ, List.getElem?_cons_zero]; rfl)
    case hq25 => exact fun _ _ _ h => h
    case hy25 => exact Or.inl ⟨by rfl, by (intro W; go_simp; (try with_reducible rfl))⟩
    (try simp only [Act.put, List.setIfInBounds_toArray, List.set_cons_zero, List.set_cons_succ])
    refine tillH_takeAny (i := 1) (oi := ?oo26) (v := ?vv26) ?hi26 (by kernel_rfl) (by kernel_rfl) (by kernel_rfl) ?hq26 (by kernel_rfl) ?hy26 (fun _ => S0) ?hh26
    case hi26 => (simp only [List.getElem?_toArray, List.getElem?_cons_succ, List.getElem?_cons_zero]; rfl)
    case hq26 => exact fun _ _ _ h => h
    case hy26 => exact Or.inl ⟨by rfl, by (intro W; go_simp; (try with_reducible rfl))⟩
    (try simp only [Act.put, List.setIfInBounds_toArray, List.set_cons_zero, List.set_cons_succ])
    refine tillH_takeAny (i := 2) (oi := ?oo27) (v := ?vv27) ?hi27 (by kernel_rfl) (by kernel_rfl) (by kernel_rfl) ?hq27 (by kernel_rfl) ?hy27 (fun _ => S0) ?hh27
    case hi27 => (simp only [List.getElem?_toArray, List.getElem?_cons_succ, List.getElem?_cons_zero]; rfl)
    case hq27 => exact fun _ _ _ h => h
    case hy27 => exact Or.inl ⟨by rfl, by (intro W; go_simp; (try with_reducible rfl))⟩
    (try simp only [Act.put, List.setIfInBounds_toArray, List.set_cons_zero, List.set_cons_succ])
    refine tillH_take (i := 3) (oi := ?oo28) (v := ?vv28) ?hi28 (by kernel_rfl) (by kernel_rfl) (by kernel_rfl) ?hq28 (by kernel_rfl) (by kernel_rfl) (by kernel_rfl) ?hy28 S0 ?hh28
    case hi28 => (simp only [List.getElem?_toArray, List.getElem?_cons_succ, List.getElem?_cons_zero]; rfl)
    case hq28 => exact fun _ _ _ h => h
    case hy28 => exact Or.inl ⟨by rfl, by (intro W hSw; (try obtain ⟨s0, s1⟩ := hSw); go_simp; (try with_reducible rfl))⟩
    (try simp only [Act.put, List.setIfInBounds_toArray, List.set_cons_zero, List.set_cons_succ])
    refine tillH_takeAny (i := 4) (oi := ?oo29) (v := ?vv29) ?hi29 (by kernel_rfl) (by kernel_rfl) (by kernel_rfl) ?hq29 (by kernel_rfl) ?hy29 (fun _ => S0) ?hh29
    case hi29 => (simp only [List.getElem?_toArray, List.getElem?_cons_succ, List.getElem?_cons_zero]; rfl)
    case hq29 => exact fun _ _ _ h => h
    case hy29 => exact Or.inl ⟨by rfl, by (intro W; go_simp; (try with_reducible rfl))⟩
    (try simp only [Act.put, List.setIfInBounds_toArray, List.set_cons_zero, List.set_cons_succ])
    refine tillH_take (i := 5) (oi := ?oo30) (v := ?vv30) ?hi30 (by kernel_rfl) (by kernel_rfl) (by kernel_rfl) ?hq30 (by kernel_rfl) (by kernel_rfl) (by kernel_rfl) ?hy30 S0 ?hh30
    case hi30 => (simp only [List.getElem?_toArray, List.getElem?_cons_succ, List.getElem?_cons_zero]; rfl)
    case hq30 => exact fun _ _ _ h => h
    case hy30 => exact Or.inl ⟨by rfl, by (intro W hSw; (try obtain ⟨s0, s1⟩ := hSw); go_simp; (try with_reducible rfl))⟩
    (try simp only [Act.put, List.setIfInBounds_toArray, List.set_cons_zero, List.set_cons_succ])
    refine tillH_next (rs := [6, 12]) (by kernel_rfl) (by simp) ?_
    refine NextH.cons rfl (fun K hK => ?_) (NextH.cons rfl (fun K hK => ?_) NextH.nil)
    · go_simp
      refine (val_msg E0).mono ?_
      rintro e E1 ⟨rfl, b6⟩
      have HY := Lib.hid (HY.out.below b6)
      clear b6
      have S1 : E1.cell? ⟨m, 0, none⟩ = some (.pointer (some ⟨H, 0, none⟩)) ∧ E1.cell? ⟨X, 1, none⟩ = some (.int .i64 n0) := ⟨(HY.out.bel.cell (World.block_lt_of_cell? _ _ HM.out)).trans HM.out, by rw [(HY.out.box (X, (9, n0, s0)) (by simp)).2.cell]; rfl⟩
      refine hK.out _ _ (fun _ => S1) ?_
      clear hK K
      (try simp only [Act.put, List.setIfInBounds_toArray, List.set_cons_zero, List.set_cons_succ])
      refine tillH_next (rs := [7, 12]) (by kernel_rfl) (by simp) ?_
      refine NextH.cons rfl (fun K hK => ?_) (NextH.cons rfl (fun K hK => ?_) NextH.nil)
      · go_simp
        refine (HF.out.2 E1 HY.out.bel).mono ?_
        rintro e E2 ⟨rfl, b6⟩
        have HY := Lib.hid (HY.out.below b6)
        clear b6
        refine hK.out _ _ (fun h => absurd h (by simp)) ?_
        clear hK K
        (try simp only [Act.put, List.setIfInBounds_toArray, List.set_cons_zero, List.set_cons_succ])
        refine tillH_takeAny (i := 8) (oi := ?oo31) (v := ?vv31) ?hi31 (by kernel_rfl) (by kernel_rfl) (by kernel_rfl) ?hq31 (by kernel_rfl) ?hy31 (fun h => absurd h (by simp)) ?hh31
        case hi31 => (simp only [List.getElem?_toArray, List.getElem?_cons_succ, List.getElem?_cons_zero]; rfl)
        case hq31 => exact fun _ _ _ h => h
        case hy31 => exact Or.inl ⟨by rfl, by (intro W; go_simp; (try with_reducible rfl))⟩
        (try simp only [Act.put, List.setIfInBounds_toArray, List.set_cons_zero, List.set_cons_succ])
        refine tillH_takeAny (i := 9) (oi := ?oo32) (v := ?vv32) ?hi32 (by kernel_rfl) (by kernel_rfl) (by kernel_rfl) ?hq32 (by kernel_rfl) ?hy32 (fun h => absurd h (by simp)) ?hh32
        case hi32 => (simp only [List.getElem?_toArray, List.getElem?_cons_succ, List.getElem?_cons_zero]; rfl)
        case hq32 => exact fun _ _ _ h => h
        case hy32 => exact Or.inl ⟨by rfl, by (intro W; go_simp; (try with_reducible rfl))⟩
        (try simp only [Act.put, List.setIfInBounds_toArray, List.set_cons_zero, List.set_cons_succ])
        refine tillH_takeAny (i := 10) (oi := ?oo33) (v := ?vv33) ?hi33 (by kernel_rfl) (by kernel_rfl) (by kernel_rfl) ?hq33 (by kernel_rfl) ?hy33 (fun h => absurd h (by simp)) ?hh33
        case hi33 => (simp only [List.getElem?_toArray, List.getElem?_cons_succ, List.getElem?_cons_zero]; rfl)
        case hq33 => exact fun _ _ _ h => h
        case hy33 => exact Or.inl ⟨by rfl, by (intro W; go_simp; (try with_reducible rfl))⟩
        (try simp only [Act.put, List.setIfInBounds_toArray, List.set_cons_zero, List.set_cons_succ])
        refine tillH_takeAny (i := 11) (oi := ?oo34) (v := ?vv34) ?hi34 (by kernel_rfl) (by kernel_rfl) (by kernel_rfl) ?hq34 (by kernel_rfl) ?hy34 (fun h => absurd h (by simp)) ?hh34
        case hi34 => (simp only [List.getElem?_toArray, List.getElem?_cons_succ, List.getElem?_cons_zero]; rfl)
        case hq34 => exact fun _ _ _ h => h
        case hy34 => exact Or.inl ⟨by rfl, by (intro W; go_simp; (try with_reducible rfl))⟩
        (try simp only [Act.put, List.setIfInBounds_toArray, List.set_cons_zero, List.set_cons_succ])
        refine tillH_next (rs := [12]) (by kernel_rfl) (by simp) ?_
        refine NextH.cons rfl (fun K hK => ?_) NextH.nil
        go_simp
        have hYX : E2.heap.size ≠ X := by have := (HY.out.box (X, (9, n0, s0)) (by simp)).2.lt; omega
        have hYX2 : E2.heap.size ≠ Y0 := by have := (HY.out.box (Y0, (vn1, vn2, vn3)) (by simp)).2.lt; omega
        have HY := Lib.hid (HY.out.new (0, 0, ⟨#[]⟩))
        refine hK.out _ _ (fun h => absurd h (by simp)) ?_
        clear hK K
        (try simp only [Act.put, List.setIfInBounds_toArray, List.set_cons_zero, List.set_cons_succ])
        dsimp only at HY
        generalize E2.alloc (.cells #[.int .i64 0, .int .i64 0, .string ⟨#[]⟩] 26) = E3 at *
        generalize E2.heap.size = Y at *
        have hb := HY.out.box (Y, (0, 0, ⟨#[]⟩)) (by simp)
        have z0 : E3.frozen? ⟨Y, 0, none⟩ = false := hb.2.frozen 0
        have z1 : E3.frozen? ⟨Y, 1, none⟩ = false := hb.2.frozen 1
        have z2 : E3.frozen? ⟨Y, 2, none⟩ = false := hb.2.frozen 2
        have y0 : E3.cell? ⟨Y, 0, none⟩ = some (.int .i64 0) := by rw [hb.2.cell]; rfl
        have y1 : E3.cell? ⟨Y, 1, none⟩ = some (.int .i64 0) := by rw [hb.2.cell]; rfl
        have y2 : E3.cell? ⟨Y, 2, none⟩ = some (.string ⟨#[]⟩) := by rw [hb.2.cell]; rfl
        refine tillH_next (rs := [13]) (by kernel_rfl) (by simp) ?_
        refine NextH.cons rfl (fun K hK => ?_) NextH.nil
        go_simp
        refine hK.out _ _ (fun h => absurd h (by simp)) ?_
        clear hK K z0 z1 z2 y0 y1 y2 hb
        (try simp only [Act.put, List.setIfInBounds_toArray, List.set_cons_zero, List.set_cons_succ])
        refine tillH_takeAny (i := 14) (oi := ?oo35) (v := ?vv35) ?hi35 (by kernel_rfl) (by kernel_rfl) (by kernel_rfl) ?hq35 (by kernel_rfl) ?hy35 (fun h => absurd h (by simp)) ?hh35
        case hi35 => (simp only [List.getElem?_toArray, List.getElem?_cons_succ, List.getElem?_cons_zero]; rfl)
        case hq35 => exact fun _ _ _ h => h
        case hy35 => exact Or.inl ⟨by rfl, by (intro W; go_simp; (try with_reducible rfl))⟩
        (try simp only [Act.put, List.setIfInBounds_toArray, List.set_cons_zero, List.set_cons_succ])
        refine tillH_takeAny (i := 15) (oi := ?oo36) (v := ?vv36) ?hi36 (by kernel_rfl) (by kernel_rfl) (by kernel_rfl) ?hq36 (by kernel_rfl) ?hy36 (fun h => absurd h (by simp)) ?hh36
        case hi36 => (simp only [List.getElem?_toArray, List.getElem?_cons_succ, List.getElem?_cons_zero]; rfl)
        case hq36 => exact fun _ _ _ h => h
        case hy36 => exact Or.inl ⟨by rfl, by (intro W; go_simp; (try with_reducible rfl))⟩
        (try simp only [Act.put, List.setIfInBounds_toArray, List.set_cons_zero, List.set_cons_succ])
        refine tillH_done (by kernel_rfl) ?_ _
        refine HKV.out _ _ ?_
        have HZ := Lib.hid (HY.out.set (fun p hp => by simp at hp; rcases hp with rfl | rfl; exact fun e => hYX2 e.symm; exact fun e => hYX e.symm) (7, vm2, vm3))
        clear HY S0
        go_wp2_with (fail)
        go_meet
        exact ⟨Y, rfl, hYX, HZ⟩
      · go_simp
        have hYX : E1.heap.size ≠ X := by have := (HY.out.box (X, (9, n0, s0)) (by simp)).2.lt; omega
        have hYX2 : E1.heap.size ≠ Y0 := by have := (HY.out.box (Y0, (vn1, vn2, vn3)) (by simp)).2.lt; omega
        have HY := Lib.hid (HY.out.new (0, 0, ⟨#[]⟩))
        have S4 : (E1.alloc (.cells #[.int .i64 0, .int .i64 0, .string ⟨#[]⟩] 26)).cell? ⟨m, 0, none⟩ = some (.pointer (some ⟨H, 0, none⟩)) ∧ (E1.alloc (.cells #[.int .i64 0, .int .i64 0, .string ⟨#[]⟩] 26)).cell? ⟨X, 1, none⟩ = some (.int .i64 n0) := ⟨(HY.out.bel.cell (World.block_lt_of_cell? _ _ HM.out)).trans HM.out, by rw [(HY.out.box (X, (9, n0, s0)) (by simp)).2.cell]; rfl⟩
        refine hK.out _ _ (fun _ => S4) ?_
        clear hK K
        (try simp only [Act.put, List.setIfInBounds_toArray, List.set_cons_zero, List.set_cons_succ])
        dsimp only at HY
        generalize E1.alloc (.cells #[.int .i64 0, .int .i64 0, .string ⟨#[]⟩] 26) = E4 at *
        generalize E1.heap.size = Y at *
        refine tillH_next (rs := [7]) (by kernel_rfl) (by simp) ?_
        refine NextH.cons rfl (fun K hK => ?_) NextH.nil
        go_simp
        refine (HF.out.2 E4 HY.out.bel).mono ?_
        rintro e E5 ⟨rfl, b6⟩
        have HY := Lib.hid (HY.out.below b6)
        clear b6
        refine hK.out _ _ (fun h => absurd h (by simp)) ?_
        clear hK K
        (try simp only [Act.put, List.setIfInBounds_toArray, List.set_cons_zero, List.set_cons_succ])
        refine tillH_takeAny (i := 8) (oi := ?oo37) (v := ?vv37) ?hi37 (by kernel_rfl) (by kernel_rfl) (by kernel_rfl) ?hq37 (by kernel_rfl) ?hy37 (fun h => absurd h (by simp)) ?hh37
        case hi37 => (simp only [List.getElem?_toArray, List.getElem?_cons_succ, List.getElem?_cons_zero]; rfl)
        case hq37 => exact fun _ _ _ h => h
        case hy37 => exact Or.inl ⟨by rfl, by (intro W; go_simp; (try with_reducible rfl))⟩
        (try simp only [Act.put, List.setIfInBounds_toArray, List.set_cons_zero, List.set_cons_succ])
        refine tillH_takeAny (i := 9) (oi := ?oo38) (v := ?vv38) ?hi38 (by kernel_rfl) (by kernel_rfl) (by kernel_rfl) ?hq38 (by kernel_rfl) ?hy38 (fun h => absurd h (by simp)) ?hh38
        case hi38 => (simp only [List.getElem?_toArray, List.getElem?_cons_succ, List.getElem?_cons_zero]; rfl)
        case hq38 => exact fun _ _ _ h => h
        case hy38 => exact Or.inl ⟨by rfl, by (intro W; go_simp; (try with_reducible rfl))⟩
        (try simp only [Act.put, List.setIfInBounds_toArray, List.set_cons_zero, List.set_cons_succ])
        refine tillH_takeAny (i := 10) (oi := ?oo39) (v := ?vv39) ?hi39 (by kernel_rfl) (by kernel_rfl) (by kernel_rfl) ?hq39 (by kernel_rfl) ?hy39 (fun h => absurd h (by simp)) ?hh39
        case hi39 => (simp only [List.getElem?_toArray, List.getElem?_cons_succ, List.getElem?_cons_zero]; rfl)
        case hq39 => exact fun _ _ _ h => h
        case hy39 => exact Or.inl ⟨by rfl, by (intro W; go_simp; (try with_reducible rfl))⟩
        (try simp only [Act.put, List.setIfInBounds_toArray, List.set_cons_zero, List.set_cons_succ])
        refine tillH_takeAny (i := 11) (oi := ?oo40) (v := ?vv40) ?hi40 (by kernel_rfl) (by kernel_rfl) (by kernel_rfl) ?hq40 (by kernel_rfl) ?hy40 (fun h => absurd h (by simp)) ?hh40
        case hi40 => (simp only [List.getElem?_toArray, List.getElem?_cons_succ, List.getElem?_cons_zero]; rfl)
        case hq40 => exact fun _ _ _ h => h
        case hy40 => exact Or.inl ⟨by rfl, by (intro W; go_simp; (try with_reducible rfl))⟩
        (try simp only [Act.put, List.setIfInBounds_toArray, List.set_cons_zero, List.set_cons_succ])
        have hb := HY.out.box (Y, (0, 0, ⟨#[]⟩)) (by simp)
        have z0 : E5.frozen? ⟨Y, 0, none⟩ = false := hb.2.frozen 0
        have z1 : E5.frozen? ⟨Y, 1, none⟩ = false := hb.2.frozen 1
        have z2 : E5.frozen? ⟨Y, 2, none⟩ = false := hb.2.frozen 2
        have y0 : E5.cell? ⟨Y, 0, none⟩ = some (.int .i64 0) := by rw [hb.2.cell]; rfl
        have y1 : E5.cell? ⟨Y, 1, none⟩ = some (.int .i64 0) := by rw [hb.2.cell]; rfl
        have y2 : E5.cell? ⟨Y, 2, none⟩ = some (.string ⟨#[]⟩) := by rw [hb.2.cell]; rfl
        refine tillH_next (rs := [13]) (by kernel_rfl) (by simp) ?_
        refine NextH.cons rfl (fun K hK => ?_) NextH.nil
        go_simp
        refine hK.out _ _ (fun h => absurd h (by simp)) ?_
        clear hK K z0 z1 z2 y0 y1 y2 hb
        (try simp only [Act.put, List.setIfInBounds_toArray, List.set_cons_zero, List.set_cons_succ])
        refine tillH_takeAny (i := 14) (oi := ?oo41) (v := ?vv41) ?hi41 (by kernel_rfl) (by kernel_rfl) (by kernel_rfl) ?hq41 (by kernel_rfl) ?hy41 (fun h => absurd h (by simp)) ?hh41
        case hi41 => (simp only [List.getElem?_toArray, List.getElem?_cons_succ, List.getElem?_cons_zero]; rfl)
        case hq41 => exact fun _ _ _ h => h
        case hy41 => exact Or.inl ⟨by rfl, by (intro W; go_simp; (try with_reducible rfl))⟩
        (try simp only [Act.put, List.setIfInBounds_toArray, List.set_cons_zero, List.set_cons_succ])
        refine tillH_takeAny (i := 15) (oi := ?oo42) (v := ?vv42) ?hi42 (by kernel_rfl) (by kernel_rfl) (by kernel_rfl) ?hq42 (by kernel_rfl) ?hy42 (fun h => absurd h (by simp)) ?hh42
        case hi42 => (simp only [List.getElem?_toArray, List.getElem?_cons_succ, List.getElem?_cons_zero]; rfl)
        case hq42 => exact fun _ _ _ h => h
        case hy42 => exact Or.inl ⟨by rfl, by (intro W; go_simp; (try with_reducible rfl))⟩
        (try simp only [Act.put, List.setIfInBounds_toArray, List.set_cons_zero, List.set_cons_succ])
        refine tillH_done (by kernel_rfl) ?_ _
        refine HKV.out _ _ ?_
        have HZ := Lib.hid (HY.out.set (fun p hp => by simp at hp; rcases hp with rfl | rfl; exact fun e => hYX2 e.symm; exact fun e => hYX e.symm) (7, vm2, vm3))
        clear HY S0
        go_wp2_with (fail)
        go_meet
        exact ⟨Y, rfl, hYX, HZ⟩
    · go_simp
      have hYX : E0.heap.size ≠ X := by have := (HY.out.box (X, (9, n0, s0)) (by simp)).2.lt; omega
      have hYX2 : E0.heap.size ≠ Y0 := by have := (HY.out.box (Y0, (vn1, vn2, vn3)) (by simp)).2.lt; omega
      have HY := Lib.hid (HY.out.new (0, 0, ⟨#[]⟩))
      have S6 : (E0.alloc (.cells #[.int .i64 0, .int .i64 0, .string ⟨#[]⟩] 26)).cell? ⟨m, 0, none⟩ = some (.pointer (some ⟨H, 0, none⟩)) ∧ (E0.alloc (.cells #[.int .i64 0, .int .i64 0, .string ⟨#[]⟩] 26)).cell? ⟨X, 1, none⟩ = some (.int .i64 n0) := ⟨(HY.out.bel.cell (World.block_lt_of_cell? _ _ HM.out)).trans HM.out, by rw [(HY.out.box (X, (9, n0, s0)) (by simp)).2.cell]; rfl⟩
      refine hK.out _ _ (fun _ => S6) ?_
      clear hK K
      (try simp only [Act.put, List.setIfInBounds_toArray, List.set_cons_zero, List.set_cons_succ])
      dsimp only at HY
      generalize E0.alloc (.cells #[.int .i64 0, .int .i64 0, .string ⟨#[]⟩] 26) = E6 at *
      generalize E0.heap.size = Y at *
      refine tillH_next (rs := [6]) (by kernel_rfl) (by simp) ?_
      refine NextH.cons rfl (fun K hK => ?_) NextH.nil
      go_simp
      refine (val_msg E6).mono ?_
      rintro e E7 ⟨rfl, b6⟩
      have HY := Lib.hid (HY.out.below b6)
      clear b6
      have S7 : E7.cell? ⟨m, 0, none⟩ = some (.pointer (some ⟨H, 0, none⟩)) ∧ E7.cell? ⟨X, 1, none⟩ = some (.int .i64 n0) := ⟨(HY.out.bel.cell (World.block_lt_of_cell? _ _ HM.out)).trans HM.out, by rw [(HY.out.box (X, (9, n0, s0)) (by simp)).2.cell]; rfl⟩
      refine hK.out _ _ (fun _ => S7) ?_
      clear hK K
      (try simp only [Act.put, List.setIfInBounds_toArray, List.set_cons_zero, List.set_cons_succ])
      refine tillH_next (rs := [7]) (by kernel_rfl) (by simp) ?_
      refine NextH.cons rfl (fun K hK => ?_) NextH.nil
      go_simp
      refine (HF.out.2 E7 HY.out.bel).mono ?_
      rintro e E8 ⟨rfl, b6⟩
      have HY := Lib.hid (HY.out.below b6)
      clear b6
      refine hK.out _ _ (fun h => absurd h (by simp)) ?_
      clear hK K
      (try simp only [Act.put, List.setIfInBounds_toArray, List.set_cons_zero, List.set_cons_succ])
      refine tillH_takeAny (i := 8) (oi := ?oo43) (v := ?vv43) ?hi43 (by kernel_rfl) (by kernel_rfl) (by kernel_rfl) ?hq43 (by kernel_rfl) ?hy43 (fun h => absurd h (by simp)) ?hh43
      case hi43 => (simp only [List.getElem?_toArray, List.getElem?_cons_succ, List.getElem?_cons_zero]; rfl)
      case hq43 => exact fun _ _ _ h => h
      case hy43 => exact Or.inl ⟨by rfl, by (intro W; go_simp; (try with_reducible rfl))⟩
      (try simp only [Act.put, List.setIfInBounds_toArray, List.set_cons_zero, List.set_cons_succ])
      refine tillH_takeAny (i := 9) (oi := ?oo44) (v := ?vv44) ?hi44 (by kernel_rfl) (by kernel_rfl) (by kernel_rfl) ?hq44 (by kernel_rfl) ?hy44 (fun h => absurd h (by simp)) ?hh44
      case hi44 => (simp only [List.getElem?_toArray, List.getElem?_cons_succ, List.getElem?_cons_zero]; rfl)
      case hq44 => exact fun _ _ _ h => h
      case hy44 => exact Or.inl ⟨by rfl, by (intro W; go_simp; (try with_reducible rfl))⟩
      (try simp only [Act.put, List.setIfInBounds_toArray, List.set_cons_zero, List.set_cons_succ])
      refine tillH_takeAny (i := 10) (oi := ?oo45) (v := ?vv45) ?hi45 (by kernel_rfl) (by kernel_rfl) (by kernel_rfl) ?hq45 (by kernel_rfl) ?hy45 (fun h => absurd h (by simp)) ?hh45
      case hi45 => (simp only [List.getElem?_toArray, List.getElem?_cons_succ, List.getElem?_cons_zero]; rfl)
      case hq45 => exact fun _ _ _ h => h
      case hy45 => exact Or.inl ⟨by rfl, by (intro W; go_simp; (try with_reducible rfl))⟩
      (try simp only [Act.put, List.setIfInBounds_toArray, List.set_cons_zero, List.set_cons_succ])
      refine tillH_takeAny (i := 11) (oi := ?oo46) (v := ?vv46) ?hi46 (by kernel_rfl) (by kernel_rfl) (by kernel_rfl) ?hq46 (by kernel_rfl) ?hy46 (fun h => absurd h (by simp)) ?hh46
      case hi46 => (simp only [List.getElem?_toArray, List.getElem?_cons_succ, List.getElem?_cons_zero]; rfl)
      case hq46 => exact fun _ _ _ h => h
      case hy46 => exact Or.inl ⟨by rfl, by (intro W; go_simp; (try with_reducible rfl))⟩
      (try simp only [Act.put, List.setIfInBounds_toArray, List.set_cons_zero, List.set_cons_succ])
      have hb := HY.out.box (Y, (0, 0, ⟨#[]⟩)) (by simp)
      have z0 : E8.frozen? ⟨Y, 0, none⟩ = false := hb.2.frozen 0
      have z1 : E8.frozen? ⟨Y, 1, none⟩ = false := hb.2.frozen 1
      have z2 : E8.frozen? ⟨Y, 2, none⟩ = false := hb.2.frozen 2
      have y0 : E8.cell? ⟨Y, 0, none⟩ = some (.int .i64 0) := by rw [hb.2.cell]; rfl
      have y1 : E8.cell? ⟨Y, 1, none⟩ = some (.int .i64 0) := by rw [hb.2.cell]; rfl
      have y2 : E8.cell? ⟨Y, 2, none⟩ = some (.string ⟨#[]⟩) := by rw [hb.2.cell]; rfl
      refine tillH_next (rs := [13]) (by kernel_rfl) (by simp) ?_
      refine NextH.cons rfl (fun K hK => ?_) NextH.nil
      go_simp
      refine hK.out _ _ (fun h => absurd h (by simp)) ?_
      clear hK K z0 z1 z2 y0 y1 y2 hb
      (try simp only [Act.put, List.setIfInBounds_toArray, List.set_cons_zero, List.set_cons_succ])
      refine tillH_takeAny (i := 14) (oi := ?oo47) (v := ?vv47) ?hi47 (by kernel_rfl) (by kernel_rfl) (by kernel_rfl) ?hq47 (by kernel_rfl) ?hy47 (fun h => absurd h (by simp)) ?hh47
      case hi47 => (simp only [List.getElem?_toArray, List.getElem?_cons_succ, List.getElem?_cons_zero]; rfl)
      case hq47 => exact fun _ _ _ h => h
      case hy47 => exact Or.inl ⟨by rfl, by (intro W; go_simp; (try with_reducible rfl))⟩
      (try simp only [Act.put, List.setIfInBounds_toArray, List.set_cons_zero, List.set_cons_succ])
      refine tillH_takeAny (i := 15) (oi := ?oo48) (v := ?vv48) ?hi48 (by kernel_rfl) (by kernel_rfl) (by kernel_rfl) ?hq48 (by kernel_rfl) ?hy48 (fun h => absurd h (by simp)) ?hh48
      case hi48 => (simp only [List.getElem?_toArray, List.getElem?_cons_succ, List.getElem?_cons_zero]; rfl)
      case hq48 => exact fun _ _ _ h => h
      case hy48 => exact Or.inl ⟨by rfl, by (intro W; go_simp; (try with_reducible rfl))⟩
      (try simp only [Act.put, List.setIfInBounds_toArray, List.set_cons_zero, List.set_cons_succ])
      refine tillH_done (by kernel_rfl) ?_ _
      refine HKV.out _ _ ?_
      have HZ := Lib.hid (HY.out.set (fun p hp => by simp at hp; rcases hp with rfl | rfl; exact fun e => hYX2 e.symm; exact fun e => hYX e.symm) (7, vm2, vm3))
      clear HY S0
      go_wp2_with (fail)
      go_meet
      exact ⟨Y, rfl, hYX, HZ⟩
  case rest =>
  obtain ⟨Z, rfl, hZ, HZ⟩ := hcut
  clear hXX
  have y0 : wc.cell? ⟨Y0, 0, none⟩ = some (.int .i64 vn1) := by rw [(HZ.out.box (Y0, (vn1, vn2, vn3)) (by simp)).2.cell]; rfl
  have y1 : wc.cell? ⟨Y0, 1, none⟩ = some (.int .i64 vn2) := by rw [(HZ.out.box (Y0, (vn1, vn2, vn3)) (by simp)).2.cell]; rfl
  have y2 : wc.cell? ⟨Y0, 2, none⟩ = some (.string vn3) := by rw [(HZ.out.box (Y0, (vn1, vn2, vn3)) (by simp)).2.cell]; rfl
  have z0 : wc.cell? ⟨Z, 0, none⟩ = some (.int .i64 7) := by rw [(HZ.out.box (Z, (7, vm2, vm3)) (by simp)).2.cell]; rfl
  have z1 : wc.cell? ⟨Z, 1, none⟩ = some (.int .i64 vm2) := by rw [(HZ.out.box (Z, (7, vm2, vm3)) (by simp)).2.cell]; rfl
  have z2 : wc.cell? ⟨Z, 2, none⟩ = some (.string vm3) := by rw [(HZ.out.box (Z, (7, vm2, vm3)) (by simp)).2.cell]; rfl
  have e1 := HEQ.out
  cases B with
  | true =>
    go_wp2_with (fail)
    refine (HSH.out.1 wc HZ.out.bel).mono ?_
    rintro e F1 ⟨rfl, b6⟩
    have HY := Lib.hid (HZ.out.below b6)
    clear b6 HZ y0 y1 y2 z0 z1 z2 e1
    go_wp2_with (fail)
    refine (cut_any ⟨gn.toArray⟩ (by have := HL.out; show gn.toArray.size ≤ _; rw [List.size_toArray]; omega) F1).mono ?_
    rintro e F2 ⟨rfl, b6⟩
    have HY2 := Lib.hid (HY.out.below b6)
    clear b6 HY
    go_wp2_with (fail)
    go_ret
    exact ⟨by rw [← HRS.out]; rfl, HY2.out.bel⟩
  | false =>
    have t1 : ¬ 9223372036854775807 < gn.length + 2 := by have := HL.out; omega
    have t2 : ¬ 9223372036854775807 < gn.length + 2 + gm.length := by have := HL.out; omega
    have eq2 : (⟨gn.toArray⟩ ++ ⟨#[58, 32]⟩ ++ ⟨gm.toArray⟩ : ByteArray) = ⟨(gn ++ 58 :: 32 :: gm).toArray⟩ := ByteArray.ext (by first | rfl | (apply Array.ext'; simp [ByteArray.data_append]))
    go_upto_region 5 with fail
    clear e1
    refine wp_var0 (fun KV HKV => ?_)
    refine wp_region_till (m := 6) (S := (fun W => W.cell? ⟨Y0, 0, none⟩ = some (.int .i64 vn1) ∧ W.cell? ⟨Y0, 1, none⟩ = some (.int .i64 vn2) ∧ W.cell? ⟨Y0, 2, none⟩ = some (.string vn3) ∧ W.cell? ⟨Z, 0, none⟩ = some (.int .i64 7) ∧ W.cell? ⟨Z, 1, none⟩ = some (.int .i64 vm2) ∧ W.cell? ⟨Z, 2, none⟩ = some (.string vm3))) (by kernel_rfl) ?_
    have e4 : wc.drew = wc.drewN 1 := rfl
    rw [e4]
    have HY := Lib.hid (HZ.out.below (below_drw (Below.refl _ _) 1))
    have S0 : (wc.drewN 1).cell? ⟨Y0, 0, none⟩ = some (.int .i64 vn1) ∧ (wc.drewN 1).cell? ⟨Y0, 1, none⟩ = some (.int .i64 vn2) ∧ (wc.drewN 1).cell? ⟨Y0, 2, none⟩ = some (.string vn3) ∧ (wc.drewN 1).cell? ⟨Z, 0, none⟩ = some (.int .i64 7) ∧ (wc.drewN 1).cell? ⟨Z, 1, none⟩ = some (.int .i64 vm2) ∧ (wc.drewN 1).cell? ⟨Z, 2, none⟩ = some (.string vm3) := ⟨by rw [(HY.out.box (Y0, (vn1, vn2, vn3)) (by simp)).2.cell]; rfl, by rw [(HY.out.box (Y0, (vn1, vn2, vn3)) (by simp)).2.cell]; rfl, by rw [(HY.out.box (Y0, (vn1, vn2, vn3)) (by simp)).2.cell]; rfl, by rw [(HY.out.box (Z, (7, vm2, vm3)) (by simp)).2.cell]; rfl, by rw [(HY.out.box (Z, (7, vm2, vm3)) (by simp)).2.cell]; rfl, by rw [(HY.out.box (Z, (7, vm2, vm3)) (by simp)).2.cell]; rfl⟩
    clear e4 HZ y0 y1 y2 z0 z1 z2
    generalize wc.drewN 1 = F0 at *
    change tillH _ _ _ _ _ _ 10 #[false, false, false, false, false, false, false, false, false, false] _ _
    refine tillH_takeAny (i := 0) (oi := ?oo49) (v := ?vv49) ?hi49 (by kernel_rfl) (by kernel_rfl) (by kernel_rfl) ?hq49 (by kernel_rfl) ?hy49 (fun _ => S0) ?hh49
    case hi49 => (simp only [List.getElem?_toArray, List.getElem?_cons_succ, List.getElem?_cons_zero]; rfl)
    case hq49 => exact fun _ _ _ h => h
    case hy49 => exact Or.inl ⟨by rfl, by (intro W; go_simp; (try with_reducible rfl))⟩
    (try simp only [Act.put, List.setIfInBounds_toArray, List.set_cons_zero, List.set_cons_succ])
    refine tillH_takeC [2] (i := 1) (oi := ?oo50) (v := ?vv50) ?hi50 (by kernel_rfl) (by kernel_rfl) (by kernel_rfl) ?hq50 (by kernel_rfl) (by kernel_rfl) (by kernel_rfl) ?hy50 S0 ?hh50
    case hi50 => (simp only [List.getElem?_toArray, List.getElem?_cons_succ, List.getElem?_cons_zero]; rfl)
    case hq50 => exact fun _ _ _ h => h
    case hy50 => exact Or.inl ⟨by rfl, by (intro W hSw; (try obtain ⟨s0, s1, s2, s3, s4, s5⟩ := hSw); go_simp; (try with_reducible rfl))⟩
    (try simp only [Act.put, List.setIfInBounds_toArray, List.set_cons_zero, List.set_cons_succ])
    refine tillH_takeAny (i := 4) (oi := ?oo51) (v := ?vv51) ?hi51 (by kernel_rfl) (by kernel_rfl) (by kernel_rfl) ?hq51 (by kernel_rfl) ?hy51 (fun _ => S0) ?hh51
    case hi51 => (simp only [List.getElem?_toArray, List.getElem?_cons_succ, List.getElem?_cons_zero]; rfl)
    case hq51 => exact fun _ _ _ h => h
    case hy51 => exact Or.inl ⟨by rfl, by (intro W; go_simp; (try with_reducible rfl))⟩
    (try simp only [Act.put, List.setIfInBounds_toArray, List.set_cons_zero, List.set_cons_succ])
    refine tillH_take (i := 5) (oi := ?oo52) (v := ?vv52) ?hi52 (by kernel_rfl) (by kernel_rfl) (by kernel_rfl) ?hq52 (by kernel_rfl) (by kernel_rfl) (by kernel_rfl) ?hy52 S0 ?hh52
    case hi52 => (simp only [List.getElem?_toArray, List.getElem?_cons_succ, List.getElem?_cons_zero]; rfl)
    case hq52 => exact fun _ _ _ h => h
    case hy52 => exact Or.inl ⟨by rfl, by (intro W hSw; (try obtain ⟨s0, s1, s2, s3, s4, s5⟩ := hSw); go_simp; (try with_reducible rfl))⟩
    (try simp only [Act.put, List.setIfInBounds_toArray, List.set_cons_zero, List.set_cons_succ])
    refine tillH_next (rs := [2]) (by kernel_rfl) (by simp) ?_
    refine NextH.cons rfl (fun K hK => ?_) NextH.nil
    go_simp
    refine (HSH.out.1 F0 HY.out.bel).mono ?_
    rintro e F1 ⟨rfl, b6⟩
    have HY := Lib.hid (HY.out.below b6)
    clear b6
    have S1 : F1.cell? ⟨Y0, 0, none⟩ = some (.int .i64 vn1) ∧ F1.cell? ⟨Y0, 1, none⟩ = some (.int .i64 vn2) ∧ F1.cell? ⟨Y0, 2, none⟩ = some (.string vn3) ∧ F1.cell? ⟨Z, 0, none⟩ = some (.int .i64 7) ∧ F1.cell? ⟨Z, 1, none⟩ = some (.int .i64 vm2) ∧ F1.cell? ⟨Z, 2, none⟩ = some (.string vm3) := ⟨by rw [(HY.out.box (Y0, (vn1, vn2, vn3)) (by simp)).2.cell]; rfl, by rw [(HY.out.box (Y0, (vn1, vn2, vn3)) (by simp)).2.cell]; rfl, by rw [(HY.out.box (Y0, (vn1, vn2, vn3)) (by simp)).2.cell]; rfl, by rw [(HY.out.box (Z, (7, vm2, vm3)) (by simp)).2.cell]; rfl, by rw [(HY.out.box (Z, (7, vm2, vm3)) (by simp)).2.cell]; rfl, by rw [(HY.out.box (Z, (7, vm2, vm3)) (by simp)).2.cell]; rfl⟩
    refine hK.out _ _ (fun _ => S1) ?_
    clear hK K
    (try simp only [Act.put, List.setIfInBounds_toArray, List.set_cons_zero, List.set_cons_succ])
    refine tillH_takeAny (i := 3) (oi := ?oo53) (v := ?vv53) ?hi53 (by kernel_rfl) (by kernel_rfl) (by kernel_rfl) ?hq53 (by kernel_rfl) ?hy53 (fun _ => S1) ?hh53
    case hi53 => (simp only [List.getElem?_toArray, List.getElem?_cons_succ, List.getElem?_cons_zero]; rfl)
    case hq53 => exact fun _ _ _ h => h
    case hy53 => exact Or.inl ⟨by rfl, by (intro W; go_simp; (try with_reducible rfl))⟩
    (try simp only [Act.put, List.setIfInBounds_toArray, List.set_cons_zero, List.set_cons_succ])
    refine tillH_next (rs := [6]) (by kernel_rfl) (by simp) ?_
    refine NextH.cons rfl (fun K hK => ?_) NextH.nil
    go_simp
    refine (HSH.out.2 F1 HY.out.bel).mono ?_
    rintro e F2 ⟨rfl, b6⟩
    have HY := Lib.hid (HY.out.below b6)
    clear b6 S0 S1
    refine hK.out _ _ (fun h => absurd h (by simp)) ?_
    clear hK K
    (try simp only [Act.put, List.setIfInBounds_toArray, List.set_cons_zero, List.set_cons_succ])
    refine tillH_takeAny (i := 7) (oi := ?oo54) (v := ?vv54) ?hi54 (by kernel_rfl) (by kernel_rfl) (by kernel_rfl) ?hq54 (by kernel_rfl) ?hy54 (fun h => absurd h (by simp)) ?hh54
    case hi54 => (simp only [List.getElem?_toArray, List.getElem?_cons_succ, List.getElem?_cons_zero]; rfl)
    case hq54 => exact fun _ _ _ h => h
    case hy54 => exact Or.inl ⟨by rfl, by (intro W; go_simp; (try with_reducible rfl))⟩
    (try simp only [Act.put, List.setIfInBounds_toArray, List.set_cons_zero, List.set_cons_succ])
    refine tillH_next (rs := [8]) (by kernel_rfl) (by simp) ?_
    refine NextH.cons rfl (fun K hK => ?_) NextH.nil
    go_simp
    refine (cut_any ⟨(gn ++ 58 :: 32 :: gm).toArray⟩ (by have := HL.out; show (gn ++ 58 :: 32 :: gm).toArray.size ≤ _; rw [List.size_toArray]; simp; omega) F2).mono ?_
    rintro e F3 ⟨rfl, b6⟩
    have HY := Lib.hid (HY.out.below b6)
    clear b6
    refine hK.out _ _ (fun h => absurd h (by simp)) ?_
    clear hK K
    (try simp only [Act.put, List.setIfInBounds_toArray, List.set_cons_zero, List.set_cons_succ])
    refine tillH_takeAny (i := 9) (oi := ?oo55) (v := ?vv55) ?hi55 (by kernel_rfl) (by kernel_rfl) (by kernel_rfl) ?hq55 (by kernel_rfl) ?hy55 (fun h => absurd h (by simp)) ?hh55
    case hi55 => (simp only [List.getElem?_toArray, List.getElem?_cons_succ, List.getElem?_cons_zero]; rfl)
    case hq55 => exact fun _ _ _ h => h
    case hy55 => exact Or.inl ⟨by rfl, by (intro W; go_simp; (try with_reducible rfl))⟩
    (try simp only [Act.put, List.setIfInBounds_toArray, List.set_cons_zero, List.set_cons_succ])
    refine tillH_done (by kernel_rfl) ?_ _
    refine HKV.out _ _ ?_
    go_wp2_with (fail)
    go_ret
    exact ⟨by rw [← HRS.out]; rfl, HY.out.bel⟩
end Go.Proofs.YtdeboajjhpecbaaDoor.Hp
