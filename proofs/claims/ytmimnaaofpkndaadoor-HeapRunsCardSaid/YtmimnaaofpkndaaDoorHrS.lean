/- HrS: several texts in one. -/
import Derived.Test.YtmimnaaofpkndaaDoorHrQ
/- HeapRuns: the heap's Find, along any chain that ends. -/
set_option linter.unusedVariables false
set_option linter.unusedSimpArgs false
namespace Go.Proofs.YtmimnaaofpkndaaDoor.Hp
open Go.RowKit Go.Proofs.YtmimnaaofpkndaaDoor Go.Shelf Go.Sort
attribute [local go_sem] Oper.semAt_some
/-- A cell's object: its pointer. -/
def bP (bl : Nat → Nat) : Nat → Value
  | 0 => .pointer none
  | i + 1 => .pointer (some ⟨bl i, 0, none⟩)
open Classical in
/-- How many objects a block's chain has. -/
noncomputable def dep (os : List PO) (bl : Nat → Nat) (b : Nat) : Nat := if h : ∃ n, ∃ i l, i < os.length ∧ bl i = b ∧ Chn os (i + 1) l ∧ l.length = n then h.choose else 0
theorem dep_at {os : List PO} {bl : Nat → Nat} (hinj : ∀ i j, i < os.length → j < os.length → bl i = bl j → i = j) {i : Nat} {l : List Nat} (hi : i < os.length) (hl : Chn os (i + 1) l) : dep os bl (bl i) = l.length := by
  unfold dep
  have h : ∃ n, ∃ j l, j < os.length ∧ bl j = bl i ∧ Chn os (j + 1) l ∧ l.length = n := ⟨_, i, l, hi, rfl, hl, rfl⟩
  rw [dif_pos h]
  obtain ⟨j, m, hj, hb, hm, hn⟩ := h.choose_spec
  have := hinj j i hj hi hb
  subst this
  rw [← hn, Chn.det hm hl]
noncomputable def depV (os : List PO) (bl : Nat → Nat) : Value → Nat
  | .pointer (some p) => dep os bl p.block
  | _ => 0
theorem depV_bP {os : List PO} {bl : Nat → Nat} (hinj : ∀ i j, i < os.length → j < os.length → bl i = bl j → i = j) {r : Nat} {l : List Nat} (hl : Chn os r l) : depV os bl (bP bl r) = l.length := by
  cases l with
  | nil =>
    obtain rfl : r = 0 := hl
    rfl
  | cons i l =>
    obtain ⟨rfl, o, ho, h3⟩ := hl
    exact dep_at hinj (List.getElem?_eq_some_iff.1 ho).1 ⟨rfl, o, ho, h3⟩
set_option maxRecDepth 100000 in
set_option maxHeartbeats 8000000 in
theorem find_chn {os : List PO} {bl : Nat → Nat} {H r : Nat} {k : K3} {w : World} {l : List Nat} (hl : Chn os r l)
    (hinj : ∀ i j, i < os.length → j < os.length → bl i = bl j → i = j)
    (hobj : ∀ W, Below w.heap.size w W → ∀ r m, Chn os r m → Calls Tryd.prog 11 #[.pointer (some ⟨H, 0, none⟩), .int .i64 (r : Int)] W fun e w' => e = .returned (bP bl r) ∧ Below W.heap.size W w')
    (hown : ∀ W, Below w.heap.size w W → ∀ i o, os[i]? = some o → Calls Tryd.prog 18 #[.pointer (some ⟨bl i, 0, none⟩), VK k] W fun e w' => e = .returned (.tuple #[VK (o.own k).1, .int .i64 (o.own k).2.1, .bool (o.own k).2.2]) ∧ Below W.heap.size W w')
    (hpr : ∀ W, Below w.heap.size w W → ∀ i o, os[i]? = some o → W.cell? ⟨bl i, 1, none⟩ = some (.int .i64 (o.pr : Int)) ∧ bl i < W.heap.size) :
    Calls Tryd.prog 14 #[.pointer (some ⟨H, 0, none⟩), .int .i64 (r : Int), VK k] w fun e w' => e = .returned (.tuple #[VK (findC os k l).1, .int .i64 (findC os k l).2.1, .bool (findC os k l).2.2]) ∧ Below w.heap.size w w' := by
  have HH := Lib.hid (And.intro hinj (And.intro hobj (And.intro hown hpr)))
  have HL := Lib.hid hl
  obtain ⟨k1, k2, k3⟩ := k
  have HB := Lib.hid (two_boxes w k1 k2 k3 0 0 ⟨#[]⟩)
  clear hinj hobj hown hpr hl
  obtain ⟨P, hP⟩ : ∃ P, w.heap.size = P := ⟨_, rfl⟩
  go_enter Tryd.func14, Tryd.ntmps14
  go_wp2_with fail
  refine (HH.out.2.1 _ HB.out.1 r l HL.out).mono ?_
  rintro e w1 ⟨rfl, b1⟩
  have HB1 := Lib.hid (And.intro (HB.out.1.trans (b1.mono HB.out.1.size)) (And.intro (HB.out.2.1.below b1 HB.out.2.1.lt) (HB.out.2.2.below b1 HB.out.2.2.lt)))
  clear b1 HB
  rw [hP] at HB1
  go_wp2_with fail
  go_loopw [9] (fun v wr => ∃ (s : Nat) (m : List Nat), v = bP bl s ∧ Hid (Chn os s m ∧ findC os (k1, k2, k3) m = findC os (k1, k2, k3) l) ∧ Hid (Below P w wr ∧ Blk wr P 34 #[.int .i64 k1, .int .i64 k2, .string k3] ∧ Blk wr (P + 1) 34 #[.int .i64 0, .int .i64 0, .string ⟨#[]⟩])) (fun v wr => depV os bl v)
  case atStart => exact ⟨r, l, rfl, Lib.hid ⟨HL.out, rfl⟩, HB1⟩
  case round =>
    clear HB1
    obtain ⟨s, m, rfl, HC, HB⟩ := hrel
    cases m with
    | nil =>
      obtain rfl : s = 0 := HC.out.1
      have hf := HC.out.2
      have rb := HB.out.2.2
      have y0 : wr.cell? ⟨P + 1, 0, none⟩ = some (.int .i64 0) := by rw [rb.cell]; rfl
      have y1 : wr.cell? ⟨P + 1, 1, none⟩ = some (.int .i64 0) := by rw [rb.cell]; rfl
      have y2 : wr.cell? ⟨P + 1, 2, none⟩ = some (.string ⟨#[]⟩) := by rw [rb.cell]; rfl
      have z0 := rb.frozen 0
      have z1 := rb.frozen 1
      have z2 := rb.frozen 2
      have lr := rb.lt
      have HF := Lib.hid hf
      clear rb hf
      rw [show bP bl 0 = .pointer none from rfl]
      go_wp2_with fail
      refine bodyPost_ret (v := .tuple #[VS 0 0 ⟨#[]⟩, .int .i64 0, .bool false]) (by simp [results, Tryd.results14, go_sem, y0, y1, y2, z0, z1, z2, lr]) rfl ⟨by rw [← HF.out]; rfl, ?_⟩
      rw [hP]
      exact ((HB.out.1.setCell (p := ⟨P + 1, 0, none⟩) (by simp) _).setCell (p := ⟨P + 1, 1, none⟩) (by simp) _).setCell (p := ⟨P + 1, 2, none⟩) (by simp) _
    | cons i m =>
      obtain ⟨hc1, o, ho, hc3⟩ := HC.out.1
      subst hc1
      have hbw : Below w.heap.size w wr := by rw [hP]; exact HB.out.1
      have hdep := depV_bP HH.out.1 HC.out.1
      have hown := HH.out.2.2.1 wr hbw i o ho
      obtain ⟨c1, lo⟩ := HH.out.2.2.2 wr hbw i o ho
      have d0 : wr.cell? ⟨P, 0, none⟩ = some (.int .i64 k1) := by rw [HB.out.2.1.cell]; rfl
      have d1 : wr.cell? ⟨P, 1, none⟩ = some (.int .i64 k2) := by rw [HB.out.2.1.cell]; rfl
      have d2 : wr.cell? ⟨P, 2, none⟩ = some (.string k3) := by rw [HB.out.2.1.cell]; rfl
      obtain ⟨⟨v1, v2, v3⟩, gf, gb, hg⟩ : ∃ (gv : K3) (gf : Int) (gb : Bool), o.own (k1, k2, k3) = (gv, gf, gb) := ⟨_, _, _, rfl⟩
      rw [hg] at hown
      have hfc : findC os (k1, k2, k3) (i :: m) = if gb = true then ((v1, v2, v3), gf, gb) else findC os (k1, k2, k3) m := by
        show (match os[i]? with
          | some o => if (o.own (k1, k2, k3)).2.2 = true then o.own (k1, k2, k3) else findC os (k1, k2, k3) m
          | none => (z3, 0, false)) = _
        rw [ho]
        dsimp only
        rw [hg]
      have HO := Lib.hid (And.intro hown (And.intro hdep (And.intro (hfc.symm.trans HC.out.2) hc3)))
      have HOO := Lib.hid ho
      clear hown hdep hfc hc3 hg ho c1
      rw [show bP bl (i + 1) = .pointer (some ⟨bl i, 0, none⟩) from rfl]
      go_wp2_with fail
      refine HO.out.1.mono ?_
      rintro e w3 ⟨rfl, b3⟩
      have b34 := b3.alloc b3.size (.cells #[.int .i64 v1, .int .i64 v2, .string v3] 34)
      have lP := HB.out.2.1.lt
      have lP2 := HB.out.2.2.lt
      have HB4 := Lib.hid (And.intro (HB.out.1.trans (b34.mono (by rw [← hP]; exact HB.out.1.size))) (And.intro (HB.out.2.1.below b34 lP) (And.intro (HB.out.2.2.below b34 lP2) (Blk.new w3 34 #[.int .i64 v1, .int .i64 v2, .string v3]))))
      clear b3 b34 d0 d1 d2 lo
      cases gb with
      | false =>
        go_upto_region 5 with fail
        generalize (w3.alloc (.cells #[.int .i64 v1, .int .i64 v2, .string v3] 34)) = w4 at *
        generalize w3.heap.size = q3 at *
        have hb4 : Below w.heap.size w w4 := by rw [hP]; exact HB4.out.1
        obtain ⟨c1, lo⟩ := HH.out.2.2.2 w4 hb4 i o HOO.out
        go_wp2_with fail
        refine (HH.out.2.1 w4 hb4 o.pr m HO.out.2.2.2).mono ?_
        rintro e w5 ⟨rfl, b5⟩
        have HB5 := Lib.hid (And.intro (HB4.out.1.trans (b5.mono (by rw [← hP]; exact HB4.out.1.size))) (And.intro (HB4.out.2.1.below b5 HB4.out.2.1.lt) (HB4.out.2.2.1.below b5 HB4.out.2.2.1.lt)))
        clear b5 c1 lo
        go_wp2_with fail
        go_roundw
        case rel =>
          refine ⟨o.pr, m, rfl, Lib.hid ⟨HO.out.2.2.2, ?_⟩, HB5⟩
          have := HO.out.2.2.1
          rwa [if_neg (by decide)] at this
        case measure =>
          show depV os bl (bP bl o.pr) < depV os bl (bP bl (i + 1))
          rw [HO.out.2.1, depV_bP HH.out.1 HO.out.2.2.2]
          exact Nat.lt_succ_self _
      | true =>
        go_upto_region 5 with fail
        have rb := HB4.out.2.2.1
        have nb := HB4.out.2.2.2
        generalize (w3.alloc (.cells #[.int .i64 v1, .int .i64 v2, .string v3] 34)) = w4 at *
        generalize w3.heap.size = q3 at *
        have n0 : w4.cell? ⟨q3, 0, none⟩ = some (.int .i64 v1) := by rw [nb.cell]; rfl
        have n1 : w4.cell? ⟨q3, 1, none⟩ = some (.int .i64 v2) := by rw [nb.cell]; rfl
        have n2 : w4.cell? ⟨q3, 2, none⟩ = some (.string v3) := by rw [nb.cell]; rfl
        have y0 : w4.cell? ⟨P + 1, 0, none⟩ = some (.int .i64 0) := by rw [rb.cell]; rfl
        have y1 : w4.cell? ⟨P + 1, 1, none⟩ = some (.int .i64 0) := by rw [rb.cell]; rfl
        have y2 : w4.cell? ⟨P + 1, 2, none⟩ = some (.string ⟨#[]⟩) := by rw [rb.cell]; rfl
        have z0 := rb.frozen 0
        have z1 := rb.frozen 1
        have z2 := rb.frozen 2
        have lr := rb.lt
        have ln := nb.lt
        clear rb nb
        go_wp2_with fail
        refine bodyPost_ret (v := .tuple #[VS v1 v2 v3, .int .i64 gf, .bool true]) (by simp [results, Tryd.results14, go_sem, y0, y1, y2, z0, z1, z2, lr]) rfl ⟨?_, ?_⟩
        · have := HO.out.2.2.1
          first | rw [if_pos rfl] at this | rw [if_pos trivial] at this
          rw [← this]
        · rw [hP]
          exact ((HB4.out.1.setCell (p := ⟨P + 1, 0, none⟩) (by simp) _).setCell (p := ⟨P + 1, 1, none⟩) (by simp) _).setCell (p := ⟨P + 1, 2, none⟩) (by simp) _
end Go.Proofs.YtmimnaaofpkndaaDoor.Hp

/- HeapRuns: the heap's Chain, along any chain that ends. -/
set_option linter.unusedVariables false
set_option linter.unusedSimpArgs false
namespace Go.Proofs.YtmimnaaofpkndaaDoor.Hp
open Go.RowKit Go.Proofs.YtmimnaaofpkndaaDoor Go.Shelf Go.Sort
attribute [local go_sem] Oper.semAt_some
/-- Is a cell none of a chain's? -/
def chnOk (r : Int) (l : List Nat) : Bool := l.all fun i => decide (((i : Int) + 1) ≠ r)
open Classical in
noncomputable def chLen (os : List PO) (s : Nat) : Nat := if h : ∃ n, ∃ l, Chn os s l ∧ l.length = n then h.choose else 0
theorem chLen_at {os : List PO} {s : Nat} {l : List Nat} (hl : Chn os s l) : chLen os s = l.length := by
  unfold chLen
  have h : ∃ n, ∃ l, Chn os s l ∧ l.length = n := ⟨_, l, hl, rfl⟩
  rw [dif_pos h]
  obtain ⟨m, hm, hn⟩ := h.choose_spec
  rw [← hn, Chn.det hm hl]
set_option maxRecDepth 100000 in
set_option maxHeartbeats 8000000 in
theorem chain_chn {os : List PO} {bl : Nat → Nat} {H p : Nat} {r : Int} {w : World} {l : List Nat} (hl : Chn os p l)
    (hobj : ∀ W, Below w.heap.size w W → ∀ r m, Chn os r m → Calls Tryd.prog 11 #[.pointer (some ⟨H, 0, none⟩), .int .i64 (r : Int)] W fun e w' => e = .returned (bP bl r) ∧ Below W.heap.size W w')
    (hpr : ∀ W, Below w.heap.size w W → ∀ i o, os[i]? = some o → W.cell? ⟨bl i, 1, none⟩ = some (.int .i64 (o.pr : Int)) ∧ bl i < W.heap.size) :
    Calls Tryd.prog 15 #[.pointer (some ⟨H, 0, none⟩), .int .i64 r, .int .i64 (p : Int)] w fun e w' => e = .returned (.bool (chnOk r l)) ∧ Below w.heap.size w w' := by
  have HH := Lib.hid (And.intro hobj hpr)
  have HL := Lib.hid hl
  clear hobj hpr hl
  obtain ⟨B, hB⟩ : ∃ B, chnOk r l = B := ⟨_, rfl⟩
  rw [hB]
  have HB0 := Lib.hid hB
  clear hB
  go_enter Tryd.func15, Tryd.ntmps15
  go_wp2_with fail
  go_loopw [7] (fun v wr => ∃ (s : Nat) (m : List Nat), v = .int .i64 (s : Int) ∧ Hid (Chn os s m ∧ chnOk r m = B) ∧ Hid (Below w.heap.size w wr)) (fun v wr => chLen os (intOf v).toNat)
  case atStart => exact ⟨p, l, rfl, Lib.hid ⟨HL.out, HB0.out⟩, Lib.hid (Below.refl _ _)⟩
  case round =>
    obtain ⟨s, m, rfl, HC, HB⟩ := hrel
    cases m with
    | nil =>
      obtain rfl : s = 0 := HC.out.1
      obtain rfl : true = B := HC.out.2
      have t0 : (((0 : Nat) : Int) != 0) = false := by simp
      go_wp2
      go_ret
      exact ⟨rfl, HB.out⟩
    | cons i m =>
      obtain ⟨hc1, o, ho, hc3⟩ := HC.out.1
      have hlen := chLen_at HC.out.1
      subst hc1
      obtain ⟨S, hS⟩ : ∃ S : Int, ((i + 1 : Nat) : Int) = S := ⟨_, rfl⟩
      rw [hS]
      have HS := Lib.hid hS
      have t0 : (S != 0) = true := by simp; omega
      have HLN := Lib.hid hlen
      have HOO := Lib.hid (And.intro ho hc3)
      clear hlen ho hc3
      by_cases he : S = r
      · have t1 : (S == r) = true := by rw [he]; simp
        obtain rfl : false = B := by
          rw [← HC.out.2]
          unfold chnOk
          rw [List.all_cons, decide_eq_false (by intro e; omega)]
          rfl
        clear he hS
        go_wp2
        go_ret
        exact ⟨rfl, HB.out⟩
      · have t1 : (S == r) = false := by simpa using he
        have hB2 : chnOk r m = B := by
          have := HC.out.2
          unfold chnOk at this ⊢
          rw [List.all_cons, decide_eq_true (by intro e; exact he (by omega)), Bool.true_and] at this
          exact this
        have HB2 := Lib.hid hB2
        have HCC := Lib.hid HC.out.1
        have ob1 : ∀ W, Below w.heap.size w W → Calls Tryd.prog 11 #[.pointer (some ⟨H, 0, none⟩), .int .i64 S] W fun e w' => e = .returned (.pointer (some ⟨bl i, 0, none⟩)) ∧ Below W.heap.size W w' := fun W bW => by
          have := HH.out.1 W bW (i + 1) (i :: m) HCC.out
          rw [hS] at this
          exact this
        have HOB := Lib.hid ob1
        clear he hB2 HC hS ob1
        go_wp2_with fail
        refine (HOB.out wr HB.out).mono ?_
        rintro e w2 ⟨rfl, b2⟩
        have HB3 := Lib.hid (HB.out.trans (b2.mono HB.out.size))
        clear b2 HB
        go_wp2_with fail
        refine (HOB.out w2 HB3.out).mono ?_
        rintro e w3 ⟨rfl, b3⟩
        have HB4 := Lib.hid (HB3.out.trans (b3.mono HB3.out.size))
        clear b3 HB3
        obtain ⟨c1, lo⟩ := HH.out.2 w3 HB4.out i o HOO.out.1
        go_wp2_with fail
        go_roundw
        case rel => exact ⟨o.pr, m, rfl, Lib.hid ⟨HOO.out.2, HB2.out⟩, HB4⟩
        case measure =>
          show chLen os (intOf (.int .i64 (o.pr : Int))).toNat < chLen os (intOf (.int .i64 S)).toNat
          simp only [intOf, Int.toNat_natCast]
          rw [show S.toNat = i + 1 by have := HS.out; omega, HLN.out, chLen_at HOO.out.2]
          exact Nat.lt_succ_self _
set_option maxRecDepth 100000 in
set_option maxHeartbeats 8000000 in
/-- Chain from a cell that is no object's. -/
theorem chain_out {H : Nat} {p r : Int} {w : World} (hp : p ≠ 0)
    (hobj : ∀ W, Below w.heap.size w W → Calls Tryd.prog 11 #[.pointer (some ⟨H, 0, none⟩), .int .i64 p] W fun e w' => e = .returned (.pointer none) ∧ Below W.heap.size W w') :
    Calls Tryd.prog 15 #[.pointer (some ⟨H, 0, none⟩), .int .i64 r, .int .i64 p] w fun e w' => e = .returned (.bool false) ∧ Below w.heap.size w w' := by
  have HO := Lib.hid hobj
  have t0 : (p != 0) = true := by simpa using hp
  clear hobj hp
  go_enter Tryd.func15, Tryd.ntmps15
  go_wp2_with fail
  go_loopw [7] (fun v wr => v = .int .i64 p ∧ wr = w) (fun v wr => 0)
  case atStart => exact ⟨rfl, rfl⟩
  case round =>
    obtain ⟨rfl, rfl⟩ := hrel
    by_cases he : p = r
    · have t1 : (p == r) = true := by rw [he]; simp
      clear he
      go_wp2
      go_ret
      exact ⟨rfl, Below.refl _ _⟩
    · have t1 : (p == r) = false := by simpa using he
      clear he
      go_wp2_with fail
      refine (HO.out _ (Below.refl _ _)).mono ?_
      rintro e w2 ⟨rfl, b2⟩
      go_wp2_with fail
      go_ret
      exact ⟨rfl, b2⟩
end Go.Proofs.YtmimnaaofpkndaaDoor.Hp
