/- The reference's table in memory; contracts of its key, Find, Len. -/
import Derived.Test.YtlgnjbdkkpjjaaaOtN
set_option linter.unusedVariables false
set_option linter.unusedSimpArgs false
namespace Go.Proofs.Ytlgnjbdkkpjjaaa
open Go.RowKit Go.Sort

theorem rkey_any (k : K3) (w : World) : Calls Try.prog 40 #[VK k] w (Ret (VK (norm k)) w) := by
  by_cases h6 : k.1 = 6
  · have hz : norm k = (3, 0, ⟨#[]⟩) := by unfold norm kK kN kS; simp [h6]
    rw [hz]
    have e : VK k = VS 6 k.2.1 k.2.2 := by rw [← h6]
    rw [e]
    go_enter Try.func40, Try.ntmps40
    go_wp2
    exact bodyPost_ret (v := VS 3 0 ⟨#[]⟩) (by simp [results, Try.results40, go_sem]) rfl ⟨rfl, ((Below.refl _ _).alloc (Nat.le_refl _) _).alloc (by simp) _⟩
  · have hz : norm k = k := by unfold norm kK kN kS; simp [h6]
    rw [hz]
    have t1 : (k.1 == 6) = false := by simpa using h6
    go_enter Try.func40, Try.ntmps40
    go_wp2
    exact bodyPost_ret (v := VK k) (by simp [results, Try.results40, go_sem]) rfl ⟨rfl, ((Below.refl _ _).alloc (Nat.le_refl _) _).alloc (by simp) _⟩

/-- The reference's table in memory. -/
structure RTab (w : World) (M : Nat) (lv : Value) (L : List Ent) (cl : Int) (O : Nat → Prop) : Prop where
  blk : Blk w M 54 #[lv, .int .i64 cl]
  ents : w.ownsRow 0 63 8 lv L.length (entsC L)
  oM : O M
  oL : ∀ g, lv.ownBlock = some g → O g
  oLt : ∀ k, O k → k < w.heap.size
section
variable {w w' : World} {M : Nat} {lv : Value} {L : List Ent} {cl : Int} {O Q : Nat → Prop}
theorem RTab.upd (h : RTab w M lv L cl O) (u : Upd w w' Q) (hM : ∀ k, O k → ¬ Q k) : RTab w' M lv L cl O :=
  ⟨u.blk h.blk (hM _ h.oM), u.own h.ents (fun k hk => hM k (h.oL k hk)), h.oM, h.oL, fun k hk => Nat.lt_of_lt_of_le (h.oLt k hk) u.size⟩
theorem RTab.below (h : RTab w M lv L cl O) (b : Below w.heap.size w w') : RTab w' M lv L cl O :=
  h.upd (Q := fun k => w.heap.size ≤ k) (Upd.of_below b (fun k hk => hk)) (fun k hk hQ => by have := h.oLt k hk; omega)
theorem RTab.ent {g n cap : Nat} (h : RTab w M (.slice (some ⟨g, 0, none⟩) n cap) L cl O) (i : Nat) (e : Ent) (he : L[i]? = some e) (j : Nat) (hj : j < 8) : w.cell? ⟨g, i * 8 + j, none⟩ = (entC e)[j]? := by
  have hi := (List.getElem?_eq_some_iff.1 he).1
  obtain ⟨A, c, hA, _⟩ := own_shape h.ents
  have hn : n = L.length := by injection hA
  have := h.ents
  rw [hn] at this
  rw [this.cellAt (i * 8 + j) (by omega), entsC_get L i j e he hj]
end
/-- What the reference's Find comes to. -/
def RFnd (L : List Ent) (k : K3) (i : Int) : Prop := (i = -1 ∧ ∀ x ∈ L, isKey k x = false) ∨ ∃ (j : Nat) (e : Ent), i = (j : Int) ∧ L[j]? = some e ∧ isKey k e = true
theorem isKey_ref {k : K3} {e : Ent} (hn : e.grave = false → norm e.key = e.key) : isKey k e = (!e.grave && (e.key.1 == (norm k).1 && (e.key.2.1 == (norm k).2.1 && e.key.2.2.toList == (norm k).2.2.toList))) := by
  unfold isKey
  cases hg : e.grave with
  | true => rfl
  | false =>
    rw [hn hg, Bool.not_false, Bool.true_and, Bool.true_and, Bool.eq_iff_iff, decide_eq_true_iff, Bool.and_eq_true, Bool.and_eq_true, beq_iff_eq, beq_iff_eq, beq_iff_eq]
    constructor
    · intro h; rw [h]; exact ⟨rfl, rfl, rfl⟩
    · rintro ⟨h1, h2, h3⟩
      exact Prod.ext h1 (Prod.ext h2 (ba_ext h3))
set_option maxHeartbeats 4000000 in
set_option maxRecDepth 100000 in
theorem rfind_any (M : Nat) (lv : Value) (L : List Ent) (cl : Int) (O : Nat → Prop) (k : K3) (w : World) (h : RTab w M lv L cl O) (hL : L.length ≤ 5000) (hn : ∀ e ∈ L, e.grave = false → norm e.key = e.key) :
    Calls Try.prog 33 #[.pointer (some ⟨M, 0, none⟩), VK k] w fun e w' => ∃ i, e = .returned (.int .i64 i) ∧ RFnd L k i ∧ Below w.heap.size w w' := by
  have b0 : Below w.heap.size w (w.alloc (SC k.1 k.2.1 k.2.2)) := (Below.refl _ _).alloc (Nat.le_refl _) _
  have kx := Blk.new w 27 #[.int .i64 k.1, .int .i64 k.2.1, .string k.2.2]
  obtain ⟨AL, capL, rfl, hAL⟩ := own_shape h.ents
  obtain ⟨n, hnL⟩ : ∃ n, L.length = n := ⟨_, rfl⟩
  rw [hnL] at hL
  have HNL := Lib.hid hnL
  have HAL := Lib.hid hAL
  have HN := Lib.hid hn
  have h2 := Lib.hid (h.below b0)
  clear hAL hn h hnL
  go_enter Try.func33, Try.ntmps33
  go_wp2_with fail
  generalize w.alloc (SC k.1 k.2.1 k.2.2) = w1 at *
  go_loopw [5] (fun i wr => ∃ j : Nat, j ≤ n ∧ i = .int .i64 (j : Int) ∧ Hid (∀ x ∈ L.take j, isKey k x = false) ∧ Below w1.heap.size w1 wr) (fun i _ => n - (intOf i).toNat)
  case atStart => exact ⟨0, Nat.zero_le _, rfl, Lib.hid (fun x hx => by simp at hx), Below.refl _ _⟩
  case round =>
    obtain ⟨j, hj, rfl, HT, hb⟩ := hrel
    have h3 := h2.out.below hb
    have x0 : wr.cell? ⟨M, 0, none⟩ = some (.slice AL n capL) := by rw [h3.blk.cell, ← HNL.out]; rfl
    have bb := b0.trans (hb.mono b0.size)
    by_cases hlt : j < n
    · obtain ⟨g, rfl⟩ := HAL.out (by rw [HNL.out]; omega)
      obtain ⟨e, he⟩ : ∃ e, L[j]? = some e := ⟨_, List.getElem?_eq_getElem (by rw [HNL.out]; exact hlt)⟩
      have ky := kx.below hb kx.lt
      have e0 : wr.cell? ⟨g, j * 8, none⟩ = some (.int .i64 e.key.1) := h3.ent j e he 0 (by decide)
      have e1 : wr.cell? ⟨g, j * 8 + 1, none⟩ = some (.int .i64 e.key.2.1) := h3.ent j e he 1 (by decide)
      have e2 : wr.cell? ⟨g, j * 8 + 2, none⟩ = some (.string e.key.2.2) := h3.ent j e he 2 (by decide)
      have e7 : wr.cell? ⟨g, j * 8 + 7, none⟩ = some (.bool e.grave) := h3.ent j e he 7 (by decide)
      have y0 : wr.cell? ⟨w.heap.size, 0, none⟩ = some (.int .i64 k.1) := by rw [ky.cell]; rfl
      have y1 : wr.cell? ⟨w.heap.size, 1, none⟩ = some (.int .i64 k.2.1) := by rw [ky.cell]; rfl
      have y2 : wr.cell? ⟨w.heap.size, 2, none⟩ = some (.string k.2.2) := by rw [ky.cell]; rfl
      have t1 : decide ((j : Int) < (n : Int)) = true := by simp; omega
      have j0 : (0 : Int) ≤ (j : Int) := by omega
      have j1 : (j : Int) < (n : Int) := by omega
      have aw : IntKind.i64.wrap ((j : Int) + 1) = (j : Int) + 1 := IntWalk.i64_in _ (by omega)
      have hk := isKey_ref (k := k) (HN.out e (List.mem_of_getElem? he))
      obtain ⟨gr, hgr⟩ : ∃ b, e.grave = b := ⟨_, rfl⟩
      obtain ⟨g1, hg1⟩ : ∃ b, (e.key.1 == (norm k).1) = b := ⟨_, rfl⟩
      obtain ⟨g2, hg2⟩ : ∃ b, (e.key.2.1 == (norm k).2.1) = b := ⟨_, rfl⟩
      obtain ⟨g3, hg3⟩ : ∃ b, (e.key.2.2.toList == (norm k).2.2.toList) = b := ⟨_, rfl⟩
      rw [hgr, hg1, hg2, hg3] at hk
      have HK := Lib.hid hk
      have HE := Lib.hid he
      rw [hgr] at e7
      clear hk he hgr
      have Q0 := fun d os => cell_regrown e0 d os
      have Q1 := fun d os => cell_regrown e1 d os
      have Q2 := fun d os => cell_regrown e2 d os
      have Q7 := fun d os => cell_regrown e7 d os
      have R0 := fun d os => cell_regrown y0 d os
      have R1 := fun d os => cell_regrown y1 d os
      have R2 := fun d os => cell_regrown y2 d os
      have X0 := fun d os => cell_regrown x0 d os
      have D1 := fun d os => Calls.regrown_of (rkey_any k (grow (redrawn wr d) os))
      go_wp2_with fail
      clear e0 e1 e2 e7 y0 y1 y2
      go_cut [36] (fun s36 wx => s36 = .bool (!gr && (g1 && (g2 && g3))) ∧ Below wr.heap.size wr wx)
      case first =>
        cases gr <;> cases g1 <;> cases g2 <;> cases g3
        all_goals
          refine wp_region_quiet_below (by kernel_rfl) (by kernel_rfl) ?_
          repeat (first | go_big_quiet_step (with_reducible exact D1 _ _) | quiet_step (with_reducible exact D1 _ _))
          refine wpQuiet_nil ?_
          intro _ hw'
          obtain ⟨⟨dq, osq⟩, hw''⟩ := hw'
          subst hw''
          go_wp2_with fail
          go_meet
          exact ⟨by simp, below_regrown wr dq osq⟩
      case rest =>
        obtain ⟨rfl, bq⟩ := hcut
        clear D1 Q0 Q1 Q2 Q7 R0 R1 R2 X0 x0 hg1 hg2 hg3
        have hb4 := hb.trans (bq.mono hb.size)
        have bb4 := b0.trans (hb4.mono b0.size)
        cases hgq : (!gr && (g1 && (g2 && g3)))
        · go_wp2_with fail
          go_roundw
          case rel =>
            refine ⟨j + 1, by omega, by go_num, Lib.hid fun x hx => ?_, hb4⟩
            rw [List.take_add_one, HE.out] at hx
            rcases List.mem_append.1 hx with hx | hx
            · exact HT.out x hx
            · obtain rfl := List.mem_singleton.1 hx
              rw [HK.out, hgq]
          case measure => simp [intOf]; omega
        · go_wp2
          go_ret
          exact ⟨_, rfl, .inr ⟨j, e, rfl, HE.out, by rw [HK.out, hgq]⟩, bb4⟩
    · have hjn : n = j := by omega
      subst hjn
      have t1 : decide ((n : Int) < (n : Int)) = false := by simp
      go_wp2
      go_ret
      exact ⟨-1, rfl, .inl ⟨rfl, fun x hx => HT.out x (by rw [List.take_of_length_le (by rw [HNL.out]; exact Nat.le_refl _)]; exact hx)⟩, bb⟩

set_option maxHeartbeats 2000000 in
set_option maxRecDepth 100000 in
theorem rlen_any (M : Nat) (lv : Value) (L : List Ent) (cl : Int) (O : Nat → Prop) (w : World) (h : RTab w M lv L cl O) (hL : L.length ≤ 5000) :
    Calls Try.prog 41 #[.pointer (some ⟨M, 0, none⟩)] w fun e w' => e = .returned (.int .i64 ((cp L).length : Int)) ∧ w = w' := by
  obtain ⟨AL, capL, rfl, hAL⟩ := own_shape h.ents
  obtain ⟨n, hnL⟩ : ∃ n, L.length = n := ⟨_, rfl⟩
  rw [hnL] at hL
  have HNL := Lib.hid hnL
  have HAL := Lib.hid hAL
  have h2 := Lib.hid h
  have x0 : w.cell? ⟨M, 0, none⟩ = some (.slice AL n capL) := by rw [h.blk.cell, ← hnL]; rfl
  clear hAL h hnL
  go_enter Try.func41, Try.ntmps41
  go_wp2_with fail
  go_loopw [3, 4] (fun c i wr => ∃ j : Nat, j ≤ n ∧ i = .int .i64 (j : Int) ∧ c = .int .i64 (cnt L j : Int) ∧ w = wr) (fun _ i _ => n - (intOf i).toNat)
  case atStart => exact ⟨0, Nat.zero_le _, rfl, by simp [cnt, cp], rfl⟩
  case round =>
    obtain ⟨j, hj, rfl, rfl, rfl⟩ := hrel
    by_cases hlt : j < n
    · obtain ⟨g, rfl⟩ := HAL.out (by rw [HNL.out]; omega)
      obtain ⟨e, he⟩ : ∃ e, L[j]? = some e := ⟨_, List.getElem?_eq_getElem (by rw [HNL.out]; exact hlt)⟩
      have e7 : w.cell? ⟨g, j * 8 + 7, none⟩ = some (.bool e.grave) := h2.out.ent j e he 7 (by decide)
      have t1 : decide ((j : Int) < (n : Int)) = true := by simp; omega
      have j0 : (0 : Int) ≤ (j : Int) := by omega
      have j1 : (j : Int) < (n : Int) := by omega
      have aw : IntKind.i64.wrap ((j : Int) + 1) = (j : Int) + 1 := IntWalk.i64_in _ (by omega)
      have hc := cnt_le L j
      have hc2 : (cp L).length ≤ n := by rw [← HNL.out]; exact List.length_filter_le _ _
      have hs : cnt L (j + 1) = cnt L j + (if e.grave then 0 else 1) := by
        unfold cnt
        rw [List.take_add_one, he, cp_append, List.length_append]
        cases hg : e.grave <;> simp [cp, hg]
      have HS := Lib.hid hs
      obtain ⟨m, hm⟩ : ∃ m, cnt L j = m := ⟨_, rfl⟩
      have HM := Lib.hid hm
      rw [hm] at hc ⊢
      have cw : IntKind.i64.wrap ((m : Int) + 1) = (m : Int) + 1 := IntWalk.i64_in _ (by omega)
      have hg := he
      clear he hs hm
      rcases hgr : e.grave with _ | _
      all_goals
        rw [hgr] at e7
        go_wp2_with fail
        go_roundw
        case rel => exact ⟨j + 1, by omega, by go_num, by rw [HS.out, HM.out, hgr]; first | rfl | go_num, trivial⟩
        case measure => simp [intOf]; omega
    · have hjn : n = j := by omega
      subst hjn
      have t1 : decide ((n : Int) < (n : Int)) = false := by simp
      have hcn : cnt L n = (cp L).length := by unfold cnt; rw [List.take_of_length_le (by rw [HNL.out]; exact Nat.le_refl _)]
      rw [hcn]
      go_wp2
      go_ret
      exact ⟨rfl, rfl⟩
end Go.Proofs.Ytlgnjbdkkpjjaaa
