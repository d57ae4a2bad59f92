/- HeapRuns: the document's Find, along any chain that ends. -/
import Derived.Test.YtmimnaaofpkndaaDoorHrS
import Derived.Test.YtmimnaaofpkndaaDoorHsQ
set_option linter.unusedVariables false
set_option linter.unusedSimpArgs false
namespace Go.Proofs.YtmimnaaofpkndaaDoor.Hp
open Go.RowKit Go.Proofs.YtmimnaaofpkndaaDoor Go.Shelf Go.Sort
attribute [local go_sem] Oper.semAt_some
/-- The key of what Find found. -/
def findK (os : List PO) (k : K3) (l : List Nat) : K3 := if (findC os k l).2.2 = true then k else z3
set_option maxRecDepth 100000 in
set_option maxHeartbeats 8000000 in
theorem rfind_chn {os : List PO} {bl : Nat → Nat} {Q r n cap : Nat} {la : Option Addr} {k : K3} {w : World} {l : List Nat} (hl : Chn os r l) (hn : os.length = n) (hn9 : n ≤ 1000)
    (hinj : ∀ i j, i < os.length → j < os.length → bl i = bl j → i = j)
    (hobj : ∀ W, Below w.heap.size w W → ∀ r m, Chn os r m → Calls Tryd.prog 37 #[.pointer (some ⟨Q, 0, none⟩), .int .i64 (r : Int)] W fun e w' => e = .returned (bP bl r) ∧ Below W.heap.size W w')
    (hown : ∀ W, Below w.heap.size w W → ∀ i o, os[i]? = some o → Calls Tryd.prog 62 #[.pointer (some ⟨bl i, 0, none⟩), VK k] W fun e w' => e = .returned (.tuple #[PV (rkey o k) (o.own k).1 (o.own k).2.1, .bool (o.own k).2.2]) ∧ Below W.heap.size W w')
    (hpr : ∀ W, Below w.heap.size w W → ∀ i o, os[i]? = some o → W.cell? ⟨bl i, 3, none⟩ = some (.int .i64 (o.pr : Int)) ∧ bl i < W.heap.size)
    (hQ : ∀ W, Below w.heap.size w W → W.cell? ⟨Q, 0, none⟩ = some (.slice la n cap) ∧ Q < W.heap.size) :
    Calls Tryd.prog 63 #[.pointer (some ⟨Q, 0, none⟩), .int .i64 (r : Int), VK k] w fun e w' => e = .returned (.tuple #[PV (findK os k l) (findC os k l).1 (findC os k l).2.1, .bool (findC os k l).2.2]) ∧ Below w.heap.size w w' := by
  have HH := Lib.hid (And.intro hinj (And.intro hobj (And.intro hown (And.intro hpr hQ))))
  have hll := hl.len
  rw [hn] at hll
  have HL := Lib.hid hl
  obtain ⟨k1, k2, k3⟩ := k
  have HB := Lib.hid (own_boxes w k1 k2 k3)
  clear hinj hobj hown hpr hl hn hQ
  obtain ⟨P, hP⟩ : ∃ P, w.heap.size = P := ⟨_, rfl⟩
  rw [hP] at HB
  obtain ⟨W1, hW1⟩ : ∃ W1, (w.alloc (.cells #[.int .i64 k1, .int .i64 k2, .string k3] 34)).alloc (.cells #[.int .i64 0, .int .i64 0, .string ⟨#[]⟩, .int .i64 0, .int .i64 0, .string ⟨#[]⟩, .int .i64 0] 127) = W1 := ⟨_, rfl⟩
  rw [hW1] at HB
  go_enter Tryd.func63, Tryd.ntmps63
  go_wp2_with fail
  clear hW1
  go_loopw [1, 8] (fun v v8 wr => ∃ (s c : Nat) (m : List Nat), v = .int .i64 (s : Int) ∧ v8 = .int .i64 (c : Int) ∧ c + m.length ≤ n ∧ Hid (Chn os s m ∧ findC os (k1, k2, k3) m = findC os (k1, k2, k3) l) ∧ Hid (Below P w wr ∧ Blk wr P 34 #[.int .i64 k1, .int .i64 k2, .string k3] ∧ Blk wr (P + 1) 127 #[.int .i64 0, .int .i64 0, .string ⟨#[]⟩, .int .i64 0, .int .i64 0, .string ⟨#[]⟩, .int .i64 0])) (fun v v8 wr => n + 1 - (intOf v8).toNat)
  case atStart => exact ⟨r, 0, l, rfl, rfl, by omega, Lib.hid ⟨HL.out, rfl⟩, HB⟩
  case round =>
    clear HB
    obtain ⟨s, c, m, rfl, rfl, hcm, HC, HB⟩ := hrel
    have hbw : Below w.heap.size w wr := by rw [hP]; exact HB.out.1
    obtain ⟨xq, lq⟩ := HH.out.2.2.2.2 wr hbw
    have t1 : decide ((c : Int) ≤ (n : Int)) = true := by rw [decide_eq_true_eq]; omega
    have ak : IntKind.i64.wrap ((c : Int) + 1) = ((c + 1 : Nat) : Int) := by rw [IntWalk.i64_in _ (by omega)]; rfl
    go_wp2_with fail
    refine (HH.out.2.1 wr hbw s m HC.out.1).mono ?_
    rintro e w2 ⟨rfl, b2⟩
    have HB2 := Lib.hid (And.intro (HB.out.1.trans (b2.mono (by rw [← hP]; exact HB.out.1.size))) (And.intro (HB.out.2.1.below b2 HB.out.2.1.lt) (HB.out.2.2.below b2 HB.out.2.2.lt)))
    clear b2 HB hbw xq lq
    cases m with
    | nil =>
      obtain rfl : s = 0 := HC.out.1
      have HF := Lib.hid HC.out.2
      have rb := HB2.out.2.2
      have y0 : w2.cell? ⟨P + 1, 0, none⟩ = some (.int .i64 0) := by rw [rb.cell]; rfl
      have y1 : w2.cell? ⟨P + 1, 1, none⟩ = some (.int .i64 0) := by rw [rb.cell]; rfl
      have y2 : w2.cell? ⟨P + 1, 2, none⟩ = some (.string ⟨#[]⟩) := by rw [rb.cell]; rfl
      have y3 : w2.cell? ⟨P + 1, 3, none⟩ = some (.int .i64 0) := by rw [rb.cell]; rfl
      have y4 : w2.cell? ⟨P + 1, 4, none⟩ = some (.int .i64 0) := by rw [rb.cell]; rfl
      have y5 : w2.cell? ⟨P + 1, 5, none⟩ = some (.string ⟨#[]⟩) := by rw [rb.cell]; rfl
      have y6 : w2.cell? ⟨P + 1, 6, none⟩ = some (.int .i64 0) := by rw [rb.cell]; rfl
      have fz0 := rb.frozen 0
      have fz1 := rb.frozen 1
      have fz2 := rb.frozen 2
      have fz3 := rb.frozen 3
      have fz4 := rb.frozen 4
      have fz5 := rb.frozen 5
      have fz6 := rb.frozen 6
      have lr := rb.lt
      clear rb
      rw [show bP bl 0 = .pointer none from rfl]
      go_wp2
      refine bodyPost_ret (v := .tuple #[PV z3 z3 0, .bool false]) (by simp [results, Tryd.results63, go_sem, y0, y1, y2, y3, y4, y5, y6, fz0, fz1, fz2, fz3, fz4, fz5, fz6, lr]) rfl ⟨by rw [show findK os (k1, k2, k3) l = z3 by unfold findK; rw [← HF.out]; rfl, ← HF.out]; rfl, ?_⟩
      rw [hP]
      exact store7 HB2.out.1 (by simp) _ _ _ _ _ _ _
    | cons i m =>
      obtain ⟨hc1, o, ho, hc3⟩ := HC.out.1
      subst hc1
      have hb2 : Below w.heap.size w w2 := by rw [hP]; exact HB2.out.1
      have hown := HH.out.2.2.1 w2 hb2 i o ho
      have d0 : w2.cell? ⟨P, 0, none⟩ = some (.int .i64 k1) := by rw [HB2.out.2.1.cell]; rfl
      have d1 : w2.cell? ⟨P, 1, none⟩ = some (.int .i64 k2) := by rw [HB2.out.2.1.cell]; rfl
      have d2 : w2.cell? ⟨P, 2, none⟩ = some (.string k3) := by rw [HB2.out.2.1.cell]; rfl
      obtain ⟨⟨v1, v2, v3⟩, gf, gb, hg⟩ : ∃ (gv : K3) (gf : Int) (gb : Bool), o.own (k1, k2, k3) = (gv, gf, gb) := ⟨_, _, _, rfl⟩
      obtain ⟨⟨r1, r2, r3⟩, hrk⟩ : ∃ x, rkey o (k1, k2, k3) = x := ⟨_, rfl⟩
      have hrk2 : gb = true → ((r1, r2, r3) : K3) = (k1, k2, k3) := fun e => by rw [← hrk]; unfold rkey; rw [hg, if_pos e]
      rw [hg, hrk] at hown
      have hfc : findC os (k1, k2, k3) (i :: m) = if gb = true then ((v1, v2, v3), gf, gb) else findC os (k1, k2, k3) m := by
        show (match os[i]? with
          | some o => if (o.own (k1, k2, k3)).2.2 = true then o.own (k1, k2, k3) else findC os (k1, k2, k3) m
          | none => (z3, 0, false)) = _
        rw [ho]
        dsimp only
        rw [hg]
      have HO := Lib.hid (And.intro hown (And.intro hrk2 (And.intro (hfc.symm.trans HC.out.2) hc3)))
      have HOO := Lib.hid ho
      clear hown hfc hc3 hg ho hrk hrk2
      rw [show bP bl (i + 1) = .pointer (some ⟨bl i, 0, none⟩) from rfl]
      rw [List.length_cons] at hcm
      go_wp2_with fail
      refine HO.out.1.mono ?_
      rintro e w3 ⟨rfl, b3⟩
      have b34 := b3.alloc b3.size (.cells #[.int .i64 r1, .int .i64 r2, .string r3, .int .i64 v1, .int .i64 v2, .string v3, .int .i64 gf] 127)
      have HB4 := Lib.hid (And.intro (HB2.out.1.trans (b34.mono (by rw [← hP]; exact HB2.out.1.size))) (And.intro (HB2.out.2.1.below b34 HB2.out.2.1.lt) (And.intro (HB2.out.2.2.below b34 HB2.out.2.2.lt) (Blk.new w3 127 #[.int .i64 r1, .int .i64 r2, .string r3, .int .i64 v1, .int .i64 v2, .string v3, .int .i64 gf]))))
      clear b3 b34 d0 d1 d2 hb2
      go_upto_region 7 with fail
      generalize (w3.alloc (.cells #[.int .i64 r1, .int .i64 r2, .string r3, .int .i64 v1, .int .i64 v2, .string v3, .int .i64 gf] 127)) = w4 at *
      generalize w3.heap.size = q3 at *
      cases gb with
      | false =>
        have hb4 : Below w.heap.size w w4 := by rw [hP]; exact HB4.out.1
        obtain ⟨c1, lo⟩ := HH.out.2.2.2.1 w4 hb4 i o HOO.out
        have HB5 := Lib.hid (And.intro HB4.out.1 (And.intro HB4.out.2.1 HB4.out.2.2.1))
        go_wp2_with fail
        go_roundw
        case rel =>
          refine ⟨o.pr, c + 1, m, rfl, rfl, by omega, Lib.hid ⟨HO.out.2.2.2, ?_⟩, HB5⟩
          have := HO.out.2.2.1
          rwa [if_neg (by decide)] at this
        case measure => simp only [intOf]; omega
      | true =>
        have rb := HB4.out.2.2.1
        have nb := HB4.out.2.2.2
        have n0 : w4.cell? ⟨q3, 0, none⟩ = some (.int .i64 r1) := by rw [nb.cell]; rfl
        have n1 : w4.cell? ⟨q3, 1, none⟩ = some (.int .i64 r2) := by rw [nb.cell]; rfl
        have n2 : w4.cell? ⟨q3, 2, none⟩ = some (.string r3) := by rw [nb.cell]; rfl
        have n3 : w4.cell? ⟨q3, 3, none⟩ = some (.int .i64 v1) := by rw [nb.cell]; rfl
        have n4 : w4.cell? ⟨q3, 4, none⟩ = some (.int .i64 v2) := by rw [nb.cell]; rfl
        have n5 : w4.cell? ⟨q3, 5, none⟩ = some (.string v3) := by rw [nb.cell]; rfl
        have n6 : w4.cell? ⟨q3, 6, none⟩ = some (.int .i64 gf) := by rw [nb.cell]; rfl
        have y0 : w4.cell? ⟨P + 1, 0, none⟩ = some (.int .i64 0) := by rw [rb.cell]; rfl
        have y1 : w4.cell? ⟨P + 1, 1, none⟩ = some (.int .i64 0) := by rw [rb.cell]; rfl
        have y2 : w4.cell? ⟨P + 1, 2, none⟩ = some (.string ⟨#[]⟩) := by rw [rb.cell]; rfl
        have y3 : w4.cell? ⟨P + 1, 3, none⟩ = some (.int .i64 0) := by rw [rb.cell]; rfl
        have y4 : w4.cell? ⟨P + 1, 4, none⟩ = some (.int .i64 0) := by rw [rb.cell]; rfl
        have y5 : w4.cell? ⟨P + 1, 5, none⟩ = some (.string ⟨#[]⟩) := by rw [rb.cell]; rfl
        have y6 : w4.cell? ⟨P + 1, 6, none⟩ = some (.int .i64 0) := by rw [rb.cell]; rfl
        have fz0 := rb.frozen 0
        have fz1 := rb.frozen 1
        have fz2 := rb.frozen 2
        have fz3 := rb.frozen 3
        have fz4 := rb.frozen 4
        have fz5 := rb.frozen 5
        have fz6 := rb.frozen 6
        have lr := rb.lt
        have ln := nb.lt
        clear rb nb
        go_wp2_with fail
        refine bodyPost_ret (v := .tuple #[PV (r1, r2, r3) (v1, v2, v3) gf, .bool true]) (by simp [results, Tryd.results63, go_sem, y0, y1, y2, y3, y4, y5, y6, fz0, fz1, fz2, fz3, fz4, fz5, fz6, lr]) rfl ⟨?_, ?_⟩
        · have := HO.out.2.2.1
          first | rw [if_pos rfl] at this | rw [if_pos trivial] at this
          rw [show findK os (k1, k2, k3) l = (k1, k2, k3) by unfold findK; rw [← this]; rfl, ← this, ← HO.out.2.1 (by first | rfl | trivial)]
        · try rw [hP]
          exact store7 HB4.out.1 (by simp) _ _ _ _ _ _ _
end Go.Proofs.YtmimnaaofpkndaaDoor.Hp
