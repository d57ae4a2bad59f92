/- Contracts of code.places and code.Right: when code may be. -/
import Derived.Test.YtipijgnbdnbljaaDoorCodA
import Derived.Deep.RegionHeld3

set_option linter.unusedVariables false
set_option linter.unusedSimpArgs false
namespace Go.Proofs.YtipijgnbdnbljaaDoor
open Go.RowKit

def isJump (op : Int) : Bool := op == 36 || op == 37 || op == 38 || op == 39 || op == 40 || op == 41 || op == 63 || op == 64 || op == 74
def isConst (op : Int) : Bool := op == 1 || op == 14 || op == 15 || op == 19 || op == 21 || op == 23 || op == 25 || op == 88
def pA (op : Int) : Bool := isJump op || op == 68
def pB (op : Int) : Bool := op == 68
/-- May an instruction be, in code of n instructions, C constants, F functions? -/
def insOK (n C F : Nat) (x : Int × Int × Int) : Bool :=
  !(decide (x.1 < 1) || decide (88 < x.1)) && (!pA x.1 || (!decide (x.2.1 < -1) && !decide ((n : Int) ≤ x.2.1))) && (!pB x.1 || (!decide (x.2.2 < -1) && !decide ((n : Int) ≤ x.2.2)))
    && (!isConst x.1 || (!decide (x.2.1 < 0) && !decide ((C : Int) ≤ x.2.1))) && (!(x.1 == 50) || (!decide (x.2.1 < 0) && !decide ((F : Int) ≤ x.2.1)))
theorem isJump_false {op : Int} (h : isJump op = false) : (op == 36) = false ∧ (op == 37) = false ∧ (op == 38) = false ∧ (op == 39) = false ∧ (op == 40) = false ∧ (op == 41) = false ∧ (op == 63) = false ∧ (op == 64) = false ∧ (op == 74) = false := by
  unfold isJump at h; simpa [and_assoc] using h
theorem isConst_false {op : Int} (h : isConst op = false) : (op == 1) = false ∧ (op == 14) = false ∧ (op == 15) = false ∧ (op == 19) = false ∧ (op == 21) = false ∧ (op == 23) = false ∧ (op == 25) = false ∧ (op == 88) = false := by
  unfold isConst at h; simpa [and_assoc] using h
theorem isJump_true {op : Int} (h : isJump op = true) : op = 36 ∨ op = 37 ∨ op = 38 ∨ op = 39 ∨ op = 40 ∨ op = 41 ∨ op = 63 ∨ op = 64 ∨ op = 74 := by
  unfold isJump at h; simp at h; omega
theorem isConst_true {op : Int} (h : isConst op = true) : op = 1 ∨ op = 14 ∨ op = 15 ∨ op = 19 ∨ op = 21 ∨ op = 23 ∨ op = 25 ∨ op = 88 := by
  unfold isConst at h; simp at h; omega
theorem jump_not {op : Int} (h : isJump op = true) : isConst op = false ∧ (op == 50) = false ∧ (op == 68) = false := by
  rcases isJump_true h with rfl | rfl | rfl | rfl | rfl | rfl | rfl | rfl | rfl <;> decide
theorem const_not {op : Int} (h : isConst op = true) : isJump op = false ∧ (op == 50) = false ∧ (op == 68) = false := by
  rcases isConst_true h with rfl | rfl | rfl | rfl | rfl | rfl | rfl | rfl <;> decide

set_option maxHeartbeats 1000000 in
theorem places_any (op : Int) (A B : Bool) (w : World) (hA : Hid (pA op = A)) (hB : Hid (pB op = B)) :
    Calls Tryd.prog 17 #[.int .i64 op] w fun e w' => e = .returned (.tuple #[.bool A, .bool B]) ∧ w = w' := by
  by_cases hj : isJump op = true
  · have ha : A = true := by rw [← hA.out, pA, hj]; rfl
    have hb : B = false := by rw [← hB.out, pB]; exact (jump_not hj).2.2
    subst ha; subst hb
    clear hA hB
    rcases isJump_true hj with rfl | rfl | rfl | rfl | rfl | rfl | rfl | rfl | rfl
    all_goals
      clear hj
      go_enter Tryd.func17, Tryd.ntmps17
      go_wp2
      go_ret2
      exact ⟨rfl, rfl⟩
  · have hj : isJump op = false := by simpa using hj
    obtain ⟨j1, j2, j3, j4, j5, j6, j7, j8, j9⟩ := isJump_false hj
    by_cases h68 : op = 68
    · subst h68
      have ha : A = true := by rw [← hA.out]; decide
      have hb : B = true := by rw [← hB.out]; decide
      subst ha; subst hb
      clear hA hB hj j1 j2 j3 j4 j5 j6 j7 j8 j9
      go_enter Tryd.func17, Tryd.ntmps17
      go_wp2
      go_ret2
      exact ⟨rfl, rfl⟩
    · have h68 : (op == 68) = false := by simpa using h68
      have ha : A = false := by rw [← hA.out, pA, hj, h68]; rfl
      have hb : B = false := by rw [← hB.out, pB, h68]
      subst ha; subst hb
      clear hA hB hj
      go_enter Tryd.func17, Tryd.ntmps17
      go_wp2
      go_ret2
      exact ⟨rfl, rfl⟩

/-- A row of instructions in block b. -/
structure InsRow (w : World) (a : Option Addr) (l : List (Int × Int × Int)) : Prop where
  at_ : 0 < l.length → ∃ b, a = some ⟨b, 0, none⟩ ∧ b < w.heap.size ∧ ∀ k, k < l.length → w.cell? ⟨b, k * 3, none⟩ = some (.int .i64 (l.getD k (0, 0, 0)).1) ∧ w.cell? ⟨b, k * 3 + 1, none⟩ = some (.int .i64 (l.getD k (0, 0, 0)).2.1) ∧ w.cell? ⟨b, k * 3 + 2, none⟩ = some (.int .i64 (l.getD k (0, 0, 0)).2.2)
theorem InsRow.below {w W : World} {a : Option Addr} {l : List (Int × Int × Int)} (h : InsRow w a l) (b : Below w.heap.size w W) : InsRow W a l :=
  ⟨fun hl => by
    obtain ⟨g, e, hg, hc⟩ := h.at_ hl
    exact ⟨g, e, Nat.lt_of_lt_of_le hg b.size, fun k hk => ⟨(b.cell (p := ⟨g, k * 3, none⟩) hg).trans (hc k hk).1, (b.cell (p := ⟨g, k * 3 + 1, none⟩) hg).trans (hc k hk).2.1, (b.cell (p := ⟨g, k * 3 + 2, none⟩) hg).trans (hc k hk).2.2⟩⟩⟩
/-- What Right answers: l the instructions, C how many constants, rs what it answers of the functions. -/
def rightR (l : List (Int × Int × Int)) (C : Nat) (rs : List Bool) : Bool :=
  decide (0 < l.length) && ((l.getD (l.length - 1) (0, 0, 0)).1 == 61) && l.all (insOK l.length C rs.length) && rs.all id
theorem rightR_ins {l : List (Int × Int × Int)} {C : Nat} {rs : List Bool} (k : Nat) (hk : k < l.length) (h : insOK l.length C rs.length (l.getD k (0, 0, 0)) = false) : rightR l C rs = false := by
  have h2 : l.all (insOK l.length C rs.length) = false := by
    rw [List.all_eq_false]
    refine ⟨l[k], List.getElem_mem _, ?_⟩
    rw [List.getD_eq_getElem?_getD, List.getElem?_eq_getElem hk] at h
    simpa using h
  unfold rightR; rw [h2]; simp
theorem all_take {α : Type} (p : α → Bool) (d : α) (l : List α) (k : Nat) (hk : k < l.length) (h : (l.take k).all p = true) (h2 : p (l.getD k d) = true) : (l.take (k + 1)).all p = true := by
  rw [List.take_succ_eq_append_getElem hk, List.all_append, h]
  rw [List.getD_eq_getElem?_getD, List.getElem?_eq_getElem hk] at h2
  simpa using h2


set_option maxHeartbeats 8000000 in
set_option maxRecDepth 100000 in
theorem right_core (f : Nat) (a c g : Option Addr) (n icap C ccap gcap : Nat) (l : List (Int × Int × Int)) (rs : List Bool) (ps : Nat → Addr) (w : World) (hn : l.length = n) (hnb : n ≤ 100000) (hC : C ≤ 100000) (hF : rs.length ≤ 100000)
    (f8 : w.cell? ⟨f, 8, none⟩ = some (.slice a n icap)) (f9 : w.cell? ⟨f, 9, none⟩ = some (.slice c C ccap)) (f10 : w.cell? ⟨f, 10, none⟩ = some (.slice g rs.length gcap))
    (hl : InsRow w a l) (hg : 0 < rs.length → ∃ q, g = some ⟨q, 0, none⟩ ∧ q < w.heap.size ∧ ∀ k, k < rs.length → w.cell? ⟨q, k, none⟩ = some (.pointer (some (ps k))))
    (hr : ∀ k, k < rs.length → ∀ W, Below w.heap.size w W → Calls Tryd.prog 11 #[.pointer (some (ps k))] W (Ret (.bool (rs.getD k false)) W)) :
    Calls Tryd.prog 11 #[.pointer (some ⟨f, 0, none⟩)] w (Ret (.bool (rightR l C rs)) w) := by
  have hfl : f < w.heap.size := World.block_lt_of_cell? _ _ f8
  obtain ⟨F, hFe⟩ : ∃ F, rs.length = F := ⟨_, rfl⟩
  have HG := Lib.hid hg
  have HR := Lib.hid hr
  have HL := Lib.hid hl
  have HN := Lib.hid hn
  have HFE := Lib.hid hFe
  rw [hFe] at f10 hF
  clear hg hr hl hFe
  by_cases h0 : n = 0
  · subst h0
    have HX := Lib.hid (show rightR l C rs = false by unfold rightR; rw [hn]; rfl)
    clear hn
    go_enter Tryd.func11, Tryd.ntmps11
    go_wp2
    go_ret
    exact ⟨by rw [HX.out]; rfl, Below.refl _ _⟩
  obtain ⟨b, rfl, hbl, hcells⟩ := HL.out.at_ (by omega)
  have HCL := Lib.hid hcells
  clear hcells
  obtain ⟨lop, hlop⟩ : ∃ x, (l.getD (n - 1) (0, 0, 0)).1 = x := ⟨_, rfl⟩
  have cl := (HCL.out (n - 1) (by omega)).1
  rw [hlop] at cl
  have y0 : 0 ≤ (n : Int) - 1 := by omega
  have y1 : (n : Int) - 1 < (n : Int) := by omega
  have y2 : ((n : Int) - 1).toNat = n - 1 := by omega
  have t0 : ((n : Int) == 0) = false := by rw [beq_eq_false_iff_ne]; omega
  by_cases h61 : lop = 61
  case neg =>
    have t1 : (lop == 61) = false := by simpa using h61
    have t2 : (!(lop == 61)) = true := by rw [t1]; rfl
    have HX := Lib.hid (show rightR l C rs = false by unfold rightR; rw [hn, hlop, t1]; simp)
    clear hn h61 h0 hlop
    go_enter Tryd.func11, Tryd.ntmps11
    go_wp2
    go_ret
    exact ⟨by rw [HX.out]; rfl, Below.refl _ _⟩
  subst h61
  have HLOP := Lib.hid hlop
  clear hlop hn
  go_enter Tryd.func11, Tryd.ntmps11
  go_wp2
  go_loopw [34] (fun i wr => ∃ k : Nat, k ≤ n ∧ i = .int .i64 k ∧ (l.take k).all (insOK n C F) = true ∧ Below w.heap.size w wr) (fun i _ => n - (intOf i).toNat)
  case atStart => exact ⟨0, by omega, rfl, rfl, Below.refl _ _⟩
  case round =>
    obtain ⟨k, hk, rfl, hall, hb⟩ := hrel
    have HALL := Lib.hid hall
    clear hall y0 y1 y2 cl
    have q8 := (hb.cell (p := ⟨f, 8, none⟩) hfl).trans f8
    have q9 := (hb.cell (p := ⟨f, 9, none⟩) hfl).trans f9
    have q10 := (hb.cell (p := ⟨f, 10, none⟩) hfl).trans f10
    have hfw : f < wr.heap.size := Nat.lt_of_lt_of_le hfl hb.size
    have ne8 := World.new_ne wr _ q8
    have ne9 := World.new_ne wr _ q9
    have ne10 := World.new_ne wr _ q10
    by_cases hlt : k < n
    · have tk : decide ((k : Int) < (n : Int)) = true := by simp; omega
      have z1 : (0 : Int) ≤ (k : Int) := by omega
      have z2 : (k : Int) < (n : Int) := by omega
      obtain ⟨c0, c1, c2⟩ := HCL.out k (by have := HN.out; omega)
      obtain ⟨it, hit⟩ : ∃ x, l.getD k (0, 0, 0) = x := ⟨_, rfl⟩
      rw [hit] at c0 c1 c2
      obtain ⟨op, x, y⟩ := it
      simp only at c0 c1 c2
      have d0 := (hb.cell (p := ⟨b, k * 3, none⟩) hbl).trans c0
      have d1 := (hb.cell (p := ⟨b, k * 3 + 1, none⟩) hbl).trans c1
      have d2 := (hb.cell (p := ⟨b, k * 3 + 2, none⟩) hbl).trans c2
      have hbB : Below w.heap.size w (wr.alloc (.cells #[.int .i64 op, .int .i64 x, .int .i64 y] 36)) := hb.alloc hb.size _
      have NO : insOK n C F (op, x, y) = false → rightR l C rs = false := fun h => rightR_ins k (by rw [HN.out]; exact hlt) (by rw [HN.out, HFE.out, hit]; exact h)
      have GO : insOK n C F (op, x, y) = true → (l.take (k + 1)).all (insOK n C F) = true := fun h => all_take _ (0, 0, 0) l k (by rw [HN.out]; exact hlt) HALL.out (by rw [hit]; exact h)
      have HNO := Lib.hid NO
      have HGO := Lib.hid GO
      have HBB := Lib.hid hbB
      clear NO GO c0 c1 c2 hit hbB
      obtain ⟨A, hA⟩ : ∃ A, pA op = A := ⟨_, rfl⟩
      obtain ⟨B, hB⟩ : ∃ B, pB op = B := ⟨_, rfl⟩
      have HA := Lib.hid hA
      have HB := Lib.hid hB
      by_cases hlo : op < 1
      · have r1 : decide (op < 1) = true := by simpa using hlo
        clear hA hB
        have HX := Lib.hid (HNO.out (by unfold insOK; first | (simp [pA, pB, *]; done) | (simp [pA, pB, isJump, isConst, *]; done) | decide))
        clear HNO HGO
        go_wp2_with (go_at_call 17; refine (places_any _ A B _ HA HB).mono ?_; rintro e w' ⟨rfl, rfl⟩)
        go_ret
        exact ⟨by rw [HX.out]; rfl, HBB.out⟩
      have r1 : decide (op < 1) = false := by simpa using hlo
      by_cases hhi : 88 < op
      · have r2 : decide (88 < op) = true := by simpa using hhi
        clear hA hB hlo
        have HX := Lib.hid (HNO.out (by unfold insOK; first | (simp [pA, pB, *]; done) | (simp [pA, pB, isJump, isConst, *]; done) | decide))
        clear HNO HGO
        go_wp2_with (go_at_call 17; refine (places_any _ A B _ HA HB).mono ?_; rintro e w' ⟨rfl, rfl⟩)
        go_ret
        exact ⟨by rw [HX.out]; rfl, HBB.out⟩
      have r2 : decide (88 < op) = false := by simpa using hhi
      clear hlo hhi
      by_cases hj : isJump op = true
      · obtain ⟨jc, j50, j68⟩ := jump_not hj
        obtain ⟨i1, i2, i3, i4, i5, i6, i7, i8⟩ := isConst_false jc
        obtain rfl : A = true := by rw [← hA, pA, hj]; rfl
        obtain rfl : B = false := by rw [← hB, pB, j68]
        clear hA hB
        by_cases u1 : x < -1
        · have ua : decide (x < -1) = true := by simpa using u1
          clear u1
          have HX := Lib.hid (HNO.out (by unfold insOK; first | (simp [pA, pB, *]; done) | (simp [pA, pB, isJump, isConst, *]; done) | decide))
          clear HNO HGO
          go_wp2_with (go_at_call 17; refine (places_any _ true false _ HA HB).mono ?_; rintro e w' ⟨rfl, rfl⟩)
          go_ret
          exact ⟨by rw [HX.out]; rfl, HBB.out⟩
        have ua : decide (x < -1) = false := by simpa using u1
        by_cases u2 : (n : Int) ≤ x
        · have ub : decide ((n : Int) ≤ x) = true := by simpa using u2
          clear u1 u2
          have HX := Lib.hid (HNO.out (by unfold insOK; first | (simp [pA, pB, *]; done) | (simp [pA, pB, isJump, isConst, *]; done) | decide))
          clear HNO HGO
          go_wp2_with (go_at_call 17; refine (places_any _ true false _ HA HB).mono ?_; rintro e w' ⟨rfl, rfl⟩)
          go_ret
          exact ⟨by rw [HX.out]; rfl, HBB.out⟩
        have ub : decide ((n : Int) ≤ x) = false := by simpa using u2
        clear u1 u2
        have HX := Lib.hid (HGO.out (by unfold insOK; first | (simp [pA, pB, *]; done) | (simp [pA, pB, isJump, isConst, *]; done) | decide))
        clear HNO HGO
        go_wp2_with (go_at_call 17; refine (places_any _ true false _ HA HB).mono ?_; rintro e w' ⟨rfl, rfl⟩)
        go_roundw
        case rel => exact ⟨k + 1, by omega, by go_num, HX.out, HBB.out⟩
        case measure => simp [intOf]; omega
      have hj : isJump op = false := by simpa using hj
      by_cases h68 : op = 68
      · subst h68
        obtain rfl : A = true := by rw [← hA]; decide
        obtain rfl : B = true := by rw [← hB]; decide
        clear hA hB r1 r2 hj
        by_cases u1 : x < -1
        · have ua : decide (x < -1) = true := by simpa using u1
          clear u1
          have HX := Lib.hid (HNO.out (by unfold insOK; first | (simp [pA, pB, *]; done) | (simp [pA, pB, isJump, isConst, *]; done) | decide))
          clear HNO HGO
          go_wp2_with (go_at_call 17; refine (places_any _ true true _ HA HB).mono ?_; rintro e w' ⟨rfl, rfl⟩)
          go_ret
          exact ⟨by rw [HX.out]; rfl, HBB.out⟩
        have ua : decide (x < -1) = false := by simpa using u1
        by_cases u2 : (n : Int) ≤ x
        · have ub : decide ((n : Int) ≤ x) = true := by simpa using u2
          clear u1 u2
          have HX := Lib.hid (HNO.out (by unfold insOK; first | (simp [pA, pB, *]; done) | (simp [pA, pB, isJump, isConst, *]; done) | decide))
          clear HNO HGO
          go_wp2_with (go_at_call 17; refine (places_any _ true true _ HA HB).mono ?_; rintro e w' ⟨rfl, rfl⟩)
          go_ret
          exact ⟨by rw [HX.out]; rfl, HBB.out⟩
        have ub : decide ((n : Int) ≤ x) = false := by simpa using u2
        clear u1 u2
        by_cases v1 : y < -1
        · have va : decide (y < -1) = true := by simpa using v1
          clear v1
          have HX := Lib.hid (HNO.out (by unfold insOK; first | (simp [pA, pB, *]; done) | (simp [pA, pB, isJump, isConst, *]; done) | decide))
          clear HNO HGO
          go_wp2_with (go_at_call 17; refine (places_any _ true true _ HA HB).mono ?_; rintro e w' ⟨rfl, rfl⟩)
          go_ret
          exact ⟨by rw [HX.out]; rfl, HBB.out⟩
        have va : decide (y < -1) = false := by simpa using v1
        by_cases v2 : (n : Int) ≤ y
        · have vb : decide ((n : Int) ≤ y) = true := by simpa using v2
          clear v1 v2
          have HX := Lib.hid (HNO.out (by unfold insOK; first | (simp [pA, pB, *]; done) | (simp [pA, pB, isJump, isConst, *]; done) | decide))
          clear HNO HGO
          go_wp2_with (go_at_call 17; refine (places_any _ true true _ HA HB).mono ?_; rintro e w' ⟨rfl, rfl⟩)
          go_ret
          exact ⟨by rw [HX.out]; rfl, HBB.out⟩
        have vb : decide ((n : Int) ≤ y) = false := by simpa using v2
        clear v1 v2
        have HX := Lib.hid (HGO.out (by unfold insOK; first | (simp [pA, pB, *]; done) | (simp [pA, pB, isJump, isConst, *]; done) | decide))
        clear HNO HGO
        go_wp2_with (go_at_call 17; refine (places_any _ true true _ HA HB).mono ?_; rintro e w' ⟨rfl, rfl⟩)
        go_roundw
        case rel => exact ⟨k + 1, by omega, by go_num, HX.out, HBB.out⟩
        case measure => simp [intOf]; omega
      have j68 : (op == 68) = false := by simpa using h68
      obtain rfl : A = false := by rw [← hA, pA, hj, j68]; rfl
      obtain rfl : B = false := by rw [← hB, pB, j68]
      clear hA hB h68
      by_cases hc : isConst op = true
      · rcases isConst_true hc with rfl | rfl | rfl | rfl | rfl | rfl | rfl | rfl
        all_goals
          clear r1 r2 hc hj j68
          by_cases u1 : x < 0
          · have ua : decide (x < 0) = true := by simpa using u1
            clear u1
            have HX := Lib.hid (HNO.out (by unfold insOK; first | (simp [pA, pB, *]; done) | (simp [pA, pB, isJump, isConst, *]; done) | decide))
            clear HNO HGO
            go_wp2_with (go_at_call 17; refine (places_any _ false false _ HA HB).mono ?_; rintro e w' ⟨rfl, rfl⟩)
            go_quiet (fail)
            go_wp2_with fail
            go_ret
            exact ⟨by rw [HX.out]; rfl, belowN HBB.out _⟩
          have ua : decide (x < 0) = false := by simpa using u1
          by_cases u2 : (C : Int) ≤ x
          · have ub : decide ((C : Int) ≤ x) = true := by simpa using u2
            clear u1 u2
            have HX := Lib.hid (HNO.out (by unfold insOK; first | (simp [pA, pB, *]; done) | (simp [pA, pB, isJump, isConst, *]; done) | decide))
            clear HNO HGO
            go_wp2_with (go_at_call 17; refine (places_any _ false false _ HA HB).mono ?_; rintro e w' ⟨rfl, rfl⟩)
            go_quiet (fail)
            go_wp2_with fail
            go_ret
            exact ⟨by rw [HX.out]; rfl, belowN HBB.out _⟩
          have ub : decide ((C : Int) ≤ x) = false := by simpa using u2
          clear u1 u2
          have HX := Lib.hid (HGO.out (by unfold insOK; first | (simp [pA, pB, *]; done) | (simp [pA, pB, isJump, isConst, *]; done) | decide))
          clear HNO HGO
          go_wp2_with (go_at_call 17; refine (places_any _ false false _ HA HB).mono ?_; rintro e w' ⟨rfl, rfl⟩)
          go_quiet (fail)
          go_wp2_with fail
          go_roundw
          case rel => exact ⟨k + 1, by omega, by go_num, HX.out, belowN HBB.out _⟩
          case measure => simp [intOf]; omega
      have hc : isConst op = false := by simpa using hc
      by_cases h50 : op = 50
      · subst h50
        clear r1 r2 hc hj j68
        by_cases u1 : x < 0
        · have ua : decide (x < 0) = true := by simpa using u1
          clear u1
          have HX := Lib.hid (HNO.out (by unfold insOK; first | (simp [pA, pB, *]; done) | (simp [pA, pB, isJump, isConst, *]; done) | decide))
          clear HNO HGO
          go_wp2_with (go_at_call 17; refine (places_any _ false false _ HA HB).mono ?_; rintro e w' ⟨rfl, rfl⟩)
          go_quiet (fail)
          go_wp2_with fail
          go_ret
          exact ⟨by rw [HX.out]; rfl, belowN HBB.out _⟩
        have ua : decide (x < 0) = false := by simpa using u1
        by_cases u2 : (F : Int) ≤ x
        · have ub : decide ((F : Int) ≤ x) = true := by simpa using u2
          clear u1 u2
          have HX := Lib.hid (HNO.out (by unfold insOK; first | (simp [pA, pB, *]; done) | (simp [pA, pB, isJump, isConst, *]; done) | decide))
          clear HNO HGO
          go_wp2_with (go_at_call 17; refine (places_any _ false false _ HA HB).mono ?_; rintro e w' ⟨rfl, rfl⟩)
          go_quiet (fail)
          go_wp2_with fail
          go_ret
          exact ⟨by rw [HX.out]; rfl, belowN HBB.out _⟩
        have ub : decide ((F : Int) ≤ x) = false := by simpa using u2
        clear u1 u2
        have HX := Lib.hid (HGO.out (by unfold insOK; first | (simp [pA, pB, *]; done) | (simp [pA, pB, isJump, isConst, *]; done) | decide))
        clear HNO HGO
        go_wp2_with (go_at_call 17; refine (places_any _ false false _ HA HB).mono ?_; rintro e w' ⟨rfl, rfl⟩)
        go_quiet (fail)
        go_wp2_with fail
        go_roundw
        case rel => exact ⟨k + 1, by omega, by go_num, HX.out, belowN HBB.out _⟩
        case measure => simp [intOf]; omega
      have j50 : (op == 50) = false := by simpa using h50
      obtain ⟨i1, i2, i3, i4, i5, i6, i7, i8⟩ := isConst_false hc
      clear h50
      have HX := Lib.hid (HGO.out (by unfold insOK; first | (simp [pA, pB, *]; done) | (simp [pA, pB, isJump, isConst, *]; done) | decide))
      clear HNO HGO
      go_wp2_with (go_at_call 17; refine (places_any _ false false _ HA HB).mono ?_; rintro e w' ⟨rfl, rfl⟩)
      go_roundw
      case rel => exact ⟨k + 1, by omega, by go_num, HX.out, HBB.out⟩
      case measure => simp [intOf]; omega
    · obtain rfl : k = n := by omega
      have tk : decide ((k : Int) < (k : Int)) = false := by simp
      have HALL2 := Lib.hid (show l.all (insOK k C F) = true by have := HALL.out; rwa [List.take_of_length_le (by rw [HN.out]; omega)] at this)
      clear ne8 ne9 ne10 q8 q9
      obtain ⟨wo, rfl⟩ : ∃ wo : World, wo = wr := ⟨_, rfl⟩
      go_wp2_with fail
      go_loopw [125] (fun i wr => ∃ j : Nat, j ≤ F ∧ i = .int .i64 j ∧ (rs.take j).all id = true ∧ Below w.heap.size w wr) (fun i _ => F - (intOf i).toNat)
      case atStart => exact ⟨0, by omega, rfl, rfl, hb⟩
      case round =>
        obtain ⟨j, hj, rfl, hall, hb2⟩ := hrel
        have HA2 := Lib.hid hall
        clear hall q10
        by_cases hlt : j < F
        · have tj : decide ((j : Int) < (F : Int)) = true := by simp; omega
          have z1 : (0 : Int) ≤ (j : Int) := by omega
          have z2 : (j : Int) < (F : Int) := by omega
          obtain ⟨q, rfl, hq, hqc⟩ := HG.out (by have := HFE.out; omega)
          have c0 := (hb2.cell (p := ⟨q, j, none⟩) hq).trans (hqc j (by have := HFE.out; omega))
          clear hqc
          have HCJ := Lib.hid (HR.out j (by have := HFE.out; omega) wr hb2)
          obtain ⟨r, hr⟩ : ∃ r, rs.getD j false = r := ⟨_, rfl⟩
          rw [hr] at HCJ
          obtain ⟨pj, hpj⟩ : ∃ r, ps j = r := ⟨_, rfl⟩
          rw [hpj] at HCJ c0
          cases r
          · have HX := Lib.hid (show rightR l C rs = false by
              have h2 : rs.all id = false := by
                rw [List.all_eq_false]
                refine ⟨rs[j]'(by have := HFE.out; omega), List.getElem_mem _, ?_⟩
                rw [List.getD_eq_getElem?_getD, List.getElem?_eq_getElem (by have := HFE.out; omega)] at hr
                simpa using hr
              unfold rightR; rw [h2]; simp)
            clear hr hpj
            go_wp2_with fail
            refine (HCJ.out).mono ?_
            rintro e w2 ⟨rfl, b2⟩
            go_wp2_with fail
            go_ret
            exact ⟨by rw [HX.out]; rfl, hb2.trans (b2.mono hb2.size)⟩
          · have HX := Lib.hid (all_take id false rs j (by have := HFE.out; omega) HA2.out hr)
            clear hr hpj
            go_wp2_with fail
            refine (HCJ.out).mono ?_
            rintro e w2 ⟨rfl, b2⟩
            go_wp2_with fail
            go_roundw
            case rel => exact ⟨j + 1, by omega, by go_num, HX.out, hb2.trans (b2.mono hb2.size)⟩
            case measure => simp [intOf]; omega
        · obtain rfl : j = F := by omega
          have tj : decide ((j : Int) < (j : Int)) = false := by simp
          have HX := Lib.hid (show rightR l C rs = true by
            have h3 := HA2.out
            rw [List.take_of_length_le (by rw [HFE.out]; omega)] at h3
            unfold rightR; rw [h3, HN.out, HFE.out, HALL2.out, HLOP.out]; simp; omega)
          go_wp2_with fail
          go_ret
          exact ⟨by rw [HX.out]; rfl, hb2⟩
end Go.Proofs.YtipijgnbdnbljaaDoor
