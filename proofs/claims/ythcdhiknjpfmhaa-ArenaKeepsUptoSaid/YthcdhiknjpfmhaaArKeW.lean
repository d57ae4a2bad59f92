/- ArenaKeeps: the walk. -/
import Derived.Test.YthcdhiknjpfmhaaArKeP
import Derived.Test.YthcdhiknjpfmhaaArKeU
import Derived.Test.YthcdhiknjpfmhaaArKeK
set_option linter.unusedVariables false
set_option linter.unusedSimpArgs false
namespace Go.Proofs.Ythcdhiknjpfmhaa
open Go.RowKit
theorem ArgR.below {w w' : World} {a : Option Addr} {n : Nat} {l : List Int} (h : ArgR w a n l) (b : Below w.heap.size w w') : ArgR w' a n l := ⟨h.1, h.2.1, fun hn => by
  obtain ⟨g, off, e, hg, hc⟩ := h.2.2 hn
  exact ⟨g, off, e, Nat.lt_of_lt_of_le hg b.size, fun i hi => (b.cell (p := ⟨g, off + i, none⟩) hg).trans (hc i hi)⟩⟩
theorem ArgP.below {w w' : World} {a : Option Addr} {n : Nat} {l : List Pr} (h : ArgP w a n l) (b : Below w.heap.size w w') : ArgP w' a n l := ⟨h.1, fun hn => by
  obtain ⟨g, off, e, hg, hc⟩ := h.2 hn
  exact ⟨g, off, e, Nat.lt_of_lt_of_le hg b.size, fun i hi => ⟨(b.cell (p := ⟨g, off + i * 2, none⟩) hg).trans (hc i hi).1, (b.cell (p := ⟨g, off + i * 2 + 1, none⟩) hg).trans (hc i hi).2⟩⟩⟩
theorem StepR.below {w w' : World} {s : StepV} (h : StepR w s) (b : Below w.heap.size w w') : StepR w' s := ⟨h.kd, h.to_.below b, h.tab.below b, h.fnt.below b, h.nl⟩
theorem StepsR.below {w w' : World} {a : Option Addr} {n : Nat} {l : List StepV} (h : StepsR w a n l) (b : Below w.heap.size w w') : StepsR w' a n l := ⟨h.1, fun hn => by
  obtain ⟨g, off, e, hg, hc⟩ := h.2.1 hn
  exact ⟨g, off, e, Nat.lt_of_lt_of_le hg b.size, fun i s hs j hj => (b.cell (p := ⟨g, off + i * 5 + j, none⟩) hg).trans (hc i s hs j hj)⟩, fun s hs => (h.2.2 s hs).below b⟩
theorem col_below {w W W' : World} {A : Nat} {cv fv rv : Value} {cs : List Cell} {fr ro : List Int} {live : Int} {nd : Nat → Nod} (h : ArN W A A cv fv rv cs fr ro live nd) (b : Below w.heap.size w W) (hA : w.heap.size ≤ A) (hN : ∀ N ∈ bodies cs, A ≤ N) (u : Upd W W' (colT W A cv fv cs nd)) : Below w.heap.size w W' :=
  b.trans (u.below b.size (fun k e => by
    rcases e with rfl | e | e | e | ⟨N, hN', e⟩ | e
    · exact hA
    · exact Nat.le_trans hA (h.ar.cells.lt k e).1
    · exact Nat.le_trans hA (h.ar.free.lt k e).1
    · exact Nat.le_trans hA (hN k e)
    · exact Nat.le_trans hA ((h.nodes N hN').faR.lt k e).1
    · exact Nat.le_trans b.size e))
theorem bo_new (w1 : World) : Bo (((w1.alloc (.cells #[nil0, nil0, nil0, .int .i64 0] 64)).alloc (.cells #[nil0, nil0, nil0] 49)).alloc (.cells #[.pointer (some ⟨w1.heap.size, 0, none⟩), .pointer (some ⟨w1.heap.size + 1, 0, none⟩), nil0] 52)) w1.heap.size (w1.heap.size + 2) (w1.heap.size + 1) nil0 nil0 nil0 [] (fun _ => ⟨nil0, nil0, nil0, [], [], [], 0⟩) := by
  have k1 := (Blk.new (w1.alloc (.cells #[nil0, nil0, nil0, .int .i64 0] 64)) 49 #[nil0, nil0, nil0]).alloc (.cells #[.pointer (some ⟨w1.heap.size, 0, none⟩), .pointer (some ⟨w1.heap.size + 1, 0, none⟩), nil0] 52)
  have k2 := Blk.new ((w1.alloc (.cells #[nil0, nil0, nil0, .int .i64 0] 64)).alloc (.cells #[nil0, nil0, nil0] 49)) 52 #[.pointer (some ⟨w1.heap.size, 0, none⟩), .pointer (some ⟨w1.heap.size + 1, 0, none⟩), nil0]
  rw [World.size_alloc] at k1
  rw [World.size_alloc, World.size_alloc] at k2
  refine ⟨k2, k1, World.ownsRow_nil _ _ _ _, .inl ⟨rfl, rfl⟩, ?_, fun p hp => absurd hp (List.not_mem_nil), fun p hp => absurd hp (List.not_mem_nil), by omega, by omega⟩
  have h := ArN.new (nd := fun _ => ⟨nil0, nil0, nil0, [], [], [], 0⟩) w1
  exact (h.below ((Below.refl _ _).alloc (Nat.le_refl _) _)).below ((Below.refl _ _).alloc (Nat.le_refl _) _)
set_option maxHeartbeats 4000000 in
set_option maxRecDepth 100000 in
theorem keeps_walk {w : World} {a xa : Option Addr} {n m cap c : Nat} {l : List StepV} {xs : List Int} (h : StepsR w a n l) (hx : ArgR w xa m xs) (hn : n ≤ 10000000) (hs : ∀ s ∈ l, s.tn ≤ 10000000 ∧ s.bn ≤ 10000000 ∧ s.fn ≤ 10000000) (hm : m ≤ 10000000) :
    Calls Try.prog 6 #[.slice a n cap, .slice xa m c] w fun e w' => e = .returned (.bool true) ∧ Below w.heap.size w w' := by
  have H := Lib.hid (And.intro h (And.intro hx hs))
  clear h hx hs
  go_enter Try.func6, Try.ntmps6
  go_wp2_with fail
  refine (fit_any _).mono ?_
  rintro e w1 ⟨rfl, b1⟩
  go_wp2_with fail
  refine (light_any (H.out.1.below b1) hn H.out.2.2).mono ?_
  rintro e w2 ⟨b, rfl, b2, hli⟩
  cases b with
  | false =>
    have HB := Lib.hid (b1.trans (b2.mono b1.size))
    clear b1 b2 hli
    go_wp2
    go_ret
    exact ⟨rfl, HB.out⟩
  | true =>
    obtain ⟨h200, htot⟩ := hli rfl
    have b12 := b1.trans (b2.mono b1.size)
    clear b1 b2 hli
    by_cases hm100 : m ≤ 100
    · have L0 : decide ((100 : Int) < (m : Int)) = false := by rw [decide_eq_false_iff_not]; omega
      go_wp2_with fail
      refine (new_any w2).mono ?_
      rintro e w3 ⟨rfl, rfl⟩
      have hbo := bo_new w2
      have hb3 : Below w.heap.size w (((w2.alloc (.cells #[nil0, nil0, nil0, .int .i64 0] 64)).alloc (.cells #[nil0, nil0, nil0] 49)).alloc (.cells #[.pointer (some ⟨w2.heap.size, 0, none⟩), .pointer (some ⟨w2.heap.size + 1, 0, none⟩), nil0] 52)) := ((b12.alloc b12.size _).alloc (by have := b12.size; rw [World.size_alloc]; omega) _).alloc (by have := b12.size; rw [World.size_alloc, World.size_alloc]; omega) _
      have hAw : w.heap.size ≤ w2.heap.size := b12.size
      obtain ⟨A, hA⟩ : ∃ A, w2.heap.size = A := ⟨_, rfl⟩
      go_wp2_with fail
      simp only [hA] at hbo hb3 hAw ⊢
      generalize ((w2.alloc (.cells #[nil0, nil0, nil0, .int .i64 0] 64)).alloc (.cells #[nil0, nil0, nil0] 49)).alloc (.cells #[.pointer (some ⟨A, 0, none⟩), .pointer (some ⟨A + 1, 0, none⟩), nil0] 52) = W3 at *
      have HB := Lib.hid (And.intro hbo hb3)
      clear hbo hb3 b12
      go_loopw [29] (fun v wr => ∃ i : Nat, i ≤ n ∧ v = .int .i64 i ∧ ∃ cv lv Lv ps nd, Bo wr A (A + 2) (A + 1) cv lv Lv ps nd ∧ Below w.heap.size w wr ∧ ps.length ≤ i ∧ (∀ p ∈ ps, p.to_.length ≤ 2000 ∧ p.tab.length ≤ 2000 ∧ p.fa.length ≤ 2000) ∧ (∀ p ∈ ps, A ≤ p.x)) (fun v _ => n - (intOf v).toNat)
      case atStart => exact ⟨0, by omega, rfl, _, _, _, _, _, HB.out.1, HB.out.2, Nat.le_refl _, fun p hp => absurd hp (List.not_mem_nil), fun p hp => absurd hp (List.not_mem_nil)⟩
      case round =>
        obtain ⟨i, hin, rfl, cv, lv, Lv, ps, nd, hB, bw, hpl, hps, hpA⟩ := hrel
        by_cases hlt : i < n
        · have L1 : decide ((i : Int) < (n : Int)) = true := by rw [decide_eq_true_eq]; omega
          obtain ⟨bb, off, rfl, hbl, hc⟩ := H.out.1.2.1 (by omega)
          have hil : i < l.length := by rw [H.out.1.1]; exact hlt
          have hcc := hc i _ (List.getElem?_eq_getElem hil)
          have hmem : l[i] ∈ l := List.getElem_mem _
          have hst := H.out.1.2.2 _ hmem
          have hsz := tot_mem hmem
          generalize l[i] = s at *
          have c0 := (bw.cell (p := ⟨bb, off + i * 5 + 0, none⟩) hbl).trans (hcc 0 (by decide))
          have c1 := (bw.cell (p := ⟨bb, off + i * 5 + 1, none⟩) hbl).trans (hcc 1 (by decide))
          have c2 := (bw.cell (p := ⟨bb, off + i * 5 + 2, none⟩) hbl).trans (hcc 2 (by decide))
          have c3 := (bw.cell (p := ⟨bb, off + i * 5 + 3, none⟩) hbl).trans (hcc 3 (by decide))
          have c4 := (bw.cell (p := ⟨bb, off + i * 5 + 4, none⟩) hbl).trans (hcc 4 (by decide))
          simp only [stepC, List.getElem?_cons_zero, List.getElem?_cons_succ, Nat.add_zero] at c0 c1 c2 c3 c4
          have z0 : (0 : Int) ≤ i := by omega
          have z1 : (i : Int) < n := by omega
          have z2 : (i : Int).toNat = i := by omega
          have a1 : IntKind.i64.wrap ((i : Int) + 1) = ((i + 1 : Nat) : Int) := by rw [IntWalk.i64_in _ (by omega)]; rfl
          have hz : s.tn ≤ 2000 ∧ s.bn ≤ 2000 ∧ s.fn ≤ 2000 := by
            have : szS s = s.tn + s.bn + s.fn := rfl
            omega
          have hB2 := hB.below ((Below.refl _ _).alloc (Nat.le_refl _) (.cells #[.int .i64 s.kind, .slice s.ta s.tn s.tcap, .slice s.ba s.bn s.bcap, .slice s.fa s.fn s.fcap, .int .i64 s.n] 54))
          have bw2 := bw.alloc bw.size (.cells #[.int .i64 s.kind, .slice s.ta s.tn s.tcap, .slice s.ba s.bn s.bcap, .slice s.fa s.fn s.fcap, .int .i64 s.n] 54)
          have HS := Lib.hid (And.intro hB2 (And.intro bw2 (And.intro hst (And.intro hz (And.intro hpl hps)))))
          clear hB hB2 bw2 hst hz hpl hps hc hcc hmem hsz
          by_cases hk : s.kind.tmod 5 = 0
          · go_wp2_with fail
            obtain ⟨hB2, bw2, hst, hz, hpl, hps⟩ := HS.out
            refine (play_make s hst bw2 hz hB2 (by omega) (by omega) hk hps).mono ?_
            rintro e w5 ⟨⟨v, rfl⟩, cv', lv', Lv', nd', p, e1, e2, e3, e4, hB5, hu5⟩
            have HF := Lib.hid (And.intro hB5 (And.intro (bw2.trans (hu5.below bw2.size (fun k hk => Nat.le_trans hAw hk))) (And.intro e1 (And.intro e2 (And.intro e3 (And.intro hst (And.intro hz (And.intro hpl hps))))))))
            clear hB2 bw2 hst hz hpl hps e1 e2 e3 hB5 hu5
            go_wp2_with fail
            go_roundw
            case rel =>
              obtain ⟨hB5, b5, e1, e2, e3, hst, hz, hpl, hps⟩ := HF.out
              refine ⟨i + 1, by omega, by first | rfl | rw [Int.natCast_add], _, _, _, _, _, hB5, b5, by rw [List.length_append]; simp; omega, fun q hq => ?_, fun q hq => ?_⟩
              rotate_left
              · rcases List.mem_append.1 hq with hq | hq
                · exact hpA q hq
                · rw [List.mem_singleton.1 hq]; exact e4
              rcases List.mem_append.1 hq with hq | hq
              · exact hps q hq
              · rw [List.mem_singleton.1 hq, e1, e2, e3, hst.to_.1, hst.tab.1, hst.fnt.1]
                exact hz
            case measure => simp only [intOf]; omega
          · have hk2 : (s.kind.tmod 5 == 0) = false := by simpa using hk
            go_wp2_with fail
            go_roundw
            case rel =>
              obtain ⟨hB2, bw2, hst, hz, hpl, hps⟩ := HS.out
              exact ⟨i + 1, by omega, by first | rfl | rw [Int.natCast_add], _, _, _, _, _, hB2, bw2, by omega, hps, hpA⟩
            case measure => simp only [intOf]; omega
        · obtain rfl : n = i := by omega
          have L1 : decide ((n : Int) < (n : Int)) = false := by simp
          have x0 : wr.cell? ⟨A + 2, 0, none⟩ = some (.pointer (some ⟨A, 0, none⟩)) := by rw [hB.kb.cell]; rfl
          have HL := Lib.hid (And.intro hB (And.intro bw (And.intro hpl hps)))
          clear hB bw hpl hps HB
          go_wp2_with fail
          obtain ⟨hB, bw, hpl, hps⟩ := HL.out
          have hAl := hB.ar.ar.blk.lt
          have hcl : (csOf ps).length = ps.length := List.length_map ..
          have hum : ∀ c ∈ csOf ps, c.2 = false := fun c hc => by
            obtain ⟨p, _, rfl⟩ := List.mem_map.1 hc; rfl
          refine (push_row xs c hB.ar.ar H.out.2.1 bw (by simp) (by omega) (Nat.le_of_lt hAl)).mono ?_
          rintro e w6 ⟨⟨v6, rfl⟩, rv6, har6, hu6, hr6⟩
          rw [List.nil_append] at har6
          have hA6 := hB.ar.turn har6 (hu6.mono fun k _ e => by
            rcases e with e | e
            · exact .inl e
            · exact .inr (.inr e)) (fun g hg => hg) hr6 rfl
          have hu6' : Below w.heap.size w w6 := bw.trans (hu6.below bw.size (fun k e => by
            rcases e with e | e
            · omega
            · simp [Value.ownBlock] at e))
          have k6 := Turn.blk (Turn.two (ts := [64, 3]) hu6 hB.ar.ar.blk hB.ar.ar.roots (by simp) (by simp)) hB.kb (by decide)
          have H6 := Lib.hid (And.intro hA6 (And.intro hu6' k6))
          clear hA6 hu6' har6 hu6 hr6 k6
          go_wp2_with fail
          have hA6 := H6.out.1
          refine (collect_any nd hA6 (by rw [hcl]; omega) (by simp) (by rw [H.out.2.1.1]; omega) hum (by omega) (Nat.le_of_lt hA6.ar.blk.lt) (fun N hN => ?_)).mono ?_
          · rw [bodies_csOf] at hN
            obtain ⟨p, hp, rfl⟩ := List.mem_map.1 hN
            obtain ⟨e1, e2, e3, _⟩ := hB.xs p hp
            rw [e1, e2, e3]
            have := hps p hp
            omega
          rintro e w7 ⟨vg, fv7, nd7, rfl, hvg7, hA7, hu7, hn7⟩
          have t7 : Turn [64, 66, 3, 30] w6 w7 := Turn.of hu7 (fun k hk e => by
            rcases e with rfl | e | e | e | ⟨N, hN, e⟩ | e
            · exact ⟨_, _, _, by simp, hA6.ar.blk⟩
            · obtain ⟨c, f, h⟩ := own_kind hA6.ar.cells k e
              exact ⟨_, c, f, by simp, h⟩
            · obtain ⟨c, f, h⟩ := own_kind hA6.ar.free k e
              exact ⟨_, c, f, by simp, h⟩
            · exact ⟨_, _, _, by simp, (hA6.nodes k e).blk⟩
            · obtain ⟨c, f, h⟩ := own_kind (hA6.nodes N hN).faR k e
              exact ⟨_, c, f, by simp, h⟩
            · omega)
          have k7 := t7.blk H6.out.2.2 (by decide)
          have b7 : Below w.heap.size w w7 := H6.out.2.1.trans (hu7.below H6.out.2.1.size (fun k e => by
            rcases e with rfl | e | e | e | ⟨N, hN, e⟩ | e
            · exact hAw
            · exact Nat.le_trans hAw (hA6.ar.cells.lt k e).1
            · exact Nat.le_trans hAw (hA6.ar.free.lt k e).1
            · rw [bodies_csOf] at e
              obtain ⟨p, hp, rfl⟩ := List.mem_map.1 e
              exact Nat.le_trans hAw (hpA p hp)
            · exact Nat.le_trans hAw ((hA6.nodes N hN).faR.lt k e).1
            · exact Nat.le_trans H6.out.2.1.size e))
          have hroot : ∀ i : Nat, i < ps.length → ((i : Int) + 1) ∈ xs → ∃ N, ((swL (markP (ndsOf nd).to_ (ndsOf nd).tab (csOf ps) xs)).getD i (none, false)).1 = some N := fun i hi hm => ⟨_, root_stays hum _ hm rfl (N := ps[i].x) (by rw [List.getD_eq_getElem?_getD, List.getElem?_map, List.getElem?_eq_getElem hi]; rfl)⟩
          have hkeep := fun (to' : Nat → List Int) (tab' : Nat → List Pr) => keeps_gone (to_ := (ndsOf nd).to_) (tab := (ndsOf nd).tab) (to' := to') (tab' := tab') (ro := xs) hum
          have hcount := count_sw (markP (ndsOf nd).to_ (ndsOf nd).tab (csOf ps) xs) 0
          have hse := markP_se (ndsOf nd).to_ (ndsOf nd).tab (csOf ps) xs
          rw [bodies_of hse.len hse.body, bodies_csOf, List.length_map] at hcount
          have hlen7 : (swL (markP (ndsOf nd).to_ (ndsOf nd).tab (csOf ps) xs)).length = ps.length := by
            rw [show (swL (markP (ndsOf nd).to_ (ndsOf nd).tab (csOf ps) xs)).length = (markP (ndsOf nd).to_ (ndsOf nd).tab (csOf ps) xs).length from List.length_map .., hse.len, hcl]
          have hsz7 : ∀ N ∈ bodies (swL (markP (ndsOf nd).to_ (ndsOf nd).tab (csOf ps) xs)), (nd7 N).to_.length ≤ 100000 ∧ (nd7 N).tab.length ≤ 100000 ∧ (nd7 N).fa.length ≤ 100000 := fun N hN => by
            obtain ⟨e1, e2, e3, _⟩ := hn7 N hN
            have hNb : N ∈ bodies (csOf ps) := by rw [← bodies_of hse.len hse.body]; exact swL_sub hN
            rw [bodies_csOf] at hNb
            obtain ⟨p, hp, rfl⟩ := List.mem_map.1 hNb
            obtain ⟨g1, g2, g3, _⟩ := hB.xs p hp
            have := hps p hp
            have hd : (dropped (markP (ndsOf nd).to_ (ndsOf nd).tab (csOf ps) xs) (nd p.x).tab).length ≤ (nd p.x).tab.length := List.length_filter_le _ _
            rw [g2] at hd
            rw [e1, e2, e3, g1, g3, g2]
            omega
          have hbd7 : ∀ N ∈ bodies (swL (markP (ndsOf nd).to_ (ndsOf nd).tab (csOf ps) xs)), (ndsOf nd7).to_ N = (ndsOf nd).to_ N ∧ (ndsOf nd7).tab N = dropped (markP (ndsOf nd).to_ (ndsOf nd).tab (csOf ps) xs) ((ndsOf nd).tab N) := fun N hN => ⟨(hn7 N hN).1, (hn7 N hN).2.1⟩
          have hbA7 : ∀ N ∈ bodies (swL (markP (ndsOf nd).to_ (ndsOf nd).tab (csOf ps) xs)), A ≤ N := fun N hN => by
            have hNb : N ∈ bodies (csOf ps) := by rw [← bodies_of hse.len hse.body]; exact swL_sub hN
            rw [bodies_csOf] at hNb
            obtain ⟨p, hp, rfl⟩ := List.mem_map.1 hNb
            exact hpA p hp
          have hk2 := hkeep (ndsOf nd7).to_ (ndsOf nd7).tab hbd7
          generalize markP (ndsOf nd).to_ (ndsOf nd).tab (csOf ps) xs = M1 at *
          have hum7 : ∀ c ∈ swL M1, c.2 = false := fun c hc => by
            obtain ⟨d, _, rfl⟩ := List.mem_map.1 hc
            exact swC_mark d
          obtain ⟨la, lc, rfl, -⟩ := own_shape hB.lr
          have y2 : w7.cell? ⟨A + 2, 2, none⟩ = some (.slice la ps.length lc) := by rw [k7.cell]; rfl
          have HbA := Lib.hid hbA7
          have H7 := Lib.hid (And.intro hA7 (And.intro hsz7 (And.intro hum7 (And.intro hk2 (And.intro hcount (And.intro hlen7 (And.intro hroot (And.intro b7 (And.intro k7 (And.intro hvg7 hpl))))))))))
          clear hbA7 hB bw hpl hps hpA hAl hcl hum hA6 H6 hvg7 hA7 hu7 hn7 t7 k7 b7 hroot hkeep hcount hse hlen7 hsz7 hbd7 hk2 hum7 HL
          go_wp2_with fail
          go_loopw [52] (fun v wr => ∃ i : Nat, i ≤ m ∧ v = .int .i64 i ∧ ∃ q, wr = w7.drewN q) (fun v _ => m - (intOf v).toNat)
          case atStart => exact ⟨0, by omega, rfl, 0, rfl⟩
          case round =>
            obtain ⟨i, him, rfl, q, rfl⟩ := hrel
            by_cases hlt : i < m
            · have L1 : decide ((i : Int) < (m : Int)) = true := by rw [decide_eq_true_eq]; omega
              obtain ⟨rb, roff, rfl, hrb, hrc⟩ := H.out.2.1.2.2 (by omega)
              have c0 := (H7.out.2.2.2.2.2.2.2.1.cell (p := ⟨rb, roff + i, none⟩) hrb).trans (hrc i hlt)
              have hmem : xs.getD i 0 ∈ xs := by
                have hl := H.out.2.1.1
                rw [List.getD_eq_getElem?_getD, List.getElem?_eq_getElem (by omega)]
                exact List.getElem_mem _
              generalize xs.getD i 0 = r at *
              have z0 : (0 : Int) ≤ i := by omega
              have z1 : (i : Int) < m := by omega
              have z2 : (i : Int).toNat = i := by omega
              have a1 : IntKind.i64.wrap ((i : Int) + 1) = ((i + 1 : Nat) : Int) := by rw [IntWalk.i64_in _ (by omega)]; rfl
              clear hrc
              by_cases h1 : 1 ≤ r
              · have L2 : decide ((1 : Int) ≤ r) = true := by simpa using h1
                by_cases h2 : r ≤ ps.length
                · have L3 : decide (r ≤ (ps.length : Int)) = true := by simpa using h2
                  have hgr : ∃ N, getV (swL M1) r = .iface 27 (.pointer (some ⟨N, 0, none⟩)) := by
                    obtain ⟨j, rfl⟩ : ∃ j : Nat, r = (j : Int) + 1 := ⟨(r - 1).toNat, by omega⟩
                    obtain ⟨N, hN⟩ := H7.out.2.2.2.2.2.2.1 j (by omega) hmem
                    unfold getV
                    rw [if_pos ⟨h1, by rw [H7.out.2.2.2.2.2.1]; exact h2⟩, show ((j : Int) + 1 - 1).toNat = j by omega, hN]
                    exact ⟨N, rfl⟩
                  obtain ⟨N, hgr⟩ := hgr
                  go_wp2_with fail
                  refine (get_any (w := w7.drewN q) r (H7.out.1.ar.below (below_drewN (Below.refl _ _) q)) (by rw [H7.out.2.2.2.2.2.1]; have := H7.out.2.2.2.2.2.2.2.2.2.2; omega)).mono ?_
                  rintro e w8 ⟨rfl, q8, rfl⟩
                  rw [hgr]
                  go_wp2_with fail
                  go_roundw
                  case rel => exact ⟨i + 1, by omega, by first | rfl | rw [Int.natCast_add], q + q8, by first | rfl | rw [World.drewN_drewN]⟩
                  case measure => simp only [intOf]; omega
                · have L3 : decide (r ≤ (ps.length : Int)) = false := by simpa using h2
                  go_wp2_with fail
                  go_roundw
                  case rel => exact ⟨i + 1, by omega, by first | rfl | rw [Int.natCast_add], _, rfl⟩
                  case measure => simp only [intOf]; omega
              · have L2 : decide ((1 : Int) ≤ r) = false := by simpa using h1
                go_wp2_with fail
                go_roundw
                case rel => exact ⟨i + 1, by omega, by first | rfl | rw [Int.natCast_add], _, rfl⟩
                case measure => simp only [intOf]; omega
            · obtain rfl : m = i := by omega
              have L1 : decide ((m : Int) < (m : Int)) = false := by simp
              have A8 := H7.out.1.below (below_drewN (Below.refl w7.heap.size w7) q)
              have b8 := H7.out.2.2.2.2.2.2.2.1.trans ((below_drewN (Below.refl w7.heap.size w7) q).mono H7.out.2.2.2.2.2.2.2.1.size)
              generalize w7.drewN q = w8 at *
              have H8 := Lib.hid (And.intro A8 b8)
              clear A8 b8
              go_wp2_with fail
              refine (count_any H8.out.1.ar).mono ?_
              rintro e w9 ⟨rfl, rfl⟩
              go_wp2_with fail
              have hg1 : (goneL 0 M1).length ≤ ps.length := by have := H7.out.2.2.2.2.1; omega
              have hp1 := H7.out.2.2.2.2.2.2.2.2.2.2
              refine (collect_any nd7 H8.out.1 (by rw [H7.out.2.2.2.2.2.1]; omega) (by simp; omega) (by rw [H.out.2.1.1]; omega) H7.out.2.2.1 (by omega) (Nat.le_of_lt H8.out.1.ar.blk.lt) H7.out.2.1).mono ?_
              rintro e w10 ⟨vg2, fv10, nd10, rfl, hvg2, hA10, hu10, hn10⟩
              rw [H7.out.2.2.2.1] at hvg2 hA10
              obtain ⟨ga2, gc2, rfl, -⟩ := own_shape hvg2
              rw [show (ps.length : Int) - ((goneL 0 M1).length : Int) - ((([] : List Int).length : Nat) : Int) = (ps.length : Int) - ((goneL 0 M1).length : Int) by simp] at hA10
              have eL : ((ps.length : Int) - ((goneL 0 M1).length : Int) != (ps.length : Int) - ((goneL 0 M1).length : Int)) = false := by simp
              have b10 := col_below H8.out.1 H8.out.2 hAw HbA.out hu10
              have H10 := Lib.hid (And.intro hA10 (And.intro b10 hn10))
              clear hA10 hu10 hn10 hvg2 b10
              go_wp2_with fail
              refine (count_any H10.out.1.ar).mono ?_
              rintro e w11 ⟨rfl, rfl⟩
              go_wp2_with fail
              refine (pop_any m H10.out.1.ar (by rw [H.out.2.1.1]; exact Nat.le_refl _) (by rw [H.out.2.1.1]; omega)).mono ?_
              rintro e w12 ⟨⟨v12, rfl⟩, rv12, har12, hu12, hr12⟩
              rw [H.out.2.1.1, Nat.sub_self, List.take_zero] at har12
              have hA12 := H10.out.1.turn har12 (hu12.mono fun k _ e => .inl e) (fun g hg => hg) (fun g hg => .inl (hr12 g hg)) rfl
              have hse2 := markP_se (ndsOf nd7).to_ (ndsOf nd7).tab (swL M1) xs
              have hc2 := count_sw (markP (ndsOf nd7).to_ (ndsOf nd7).tab (swL M1) xs) 0
              rw [H7.out.2.2.2.1, bodies_of hse2.len hse2.body] at hc2
              have hn10 := H10.out.2.2
              have hlen10 : (swL (markP (ndsOf nd7).to_ (ndsOf nd7).tab (swL M1) xs)).length = ps.length := by
                rw [show (swL (markP (ndsOf nd7).to_ (ndsOf nd7).tab (swL M1) xs)).length = (markP (ndsOf nd7).to_ (ndsOf nd7).tab (swL M1) xs).length from List.length_map .., hse2.len, H7.out.2.2.2.2.2.1]
              have hsz10 : ∀ N ∈ bodies (swL (markP (ndsOf nd7).to_ (ndsOf nd7).tab (swL M1) xs)), (nd10 N).to_.length ≤ 100000 ∧ (nd10 N).tab.length ≤ 100000 ∧ (nd10 N).fa.length ≤ 100000 := fun N hN => by
                obtain ⟨e1, e2, e3, _⟩ := hn10 N hN
                have hNb : N ∈ bodies (swL M1) := by rw [← bodies_of hse2.len hse2.body]; exact swL_sub hN
                have := H7.out.2.1 N hNb
                have hd : (dropped (markP (ndsOf nd7).to_ (ndsOf nd7).tab (swL M1) xs) (nd7 N).tab).length ≤ (nd7 N).tab.length := List.length_filter_le _ _
                rw [e1, e2, e3]
                omega
              have hbA10 : ∀ N ∈ bodies (swL (markP (ndsOf nd7).to_ (ndsOf nd7).tab (swL M1) xs)), A ≤ N := fun N hN => HbA.out N (by rw [← bodies_of hse2.len hse2.body]; exact swL_sub hN)
              have b12 : Below w.heap.size w w12 := H10.out.2.1.trans (hu12.below H10.out.2.1.size (fun k e => by rw [e]; exact hAw))
              generalize markP (ndsOf nd7).to_ (ndsOf nd7).tab (swL M1) xs = M2 at *
              have hum10 : ∀ c ∈ swL M2, c.2 = false := fun c hc => by
                obtain ⟨d, _, rfl⟩ := List.mem_map.1 hc
                exact swC_mark d
              have hg3 := gone_all _ (none_marked (to_ := (ndsOf nd10).to_) (tab := (ndsOf nd10).tab) hum10) 0
              have hse3 := markP_se (ndsOf nd10).to_ (ndsOf nd10).tab (swL M2) []
              rw [bodies_of hse3.len hse3.body] at hg3
              have hlv : (ps.length : Int) - ((goneL 0 M1).length : Int) - ((goneL 0 (markP (ndsOf nd10).to_ (ndsOf nd10).tab (swL M2) [])).length : Int) = 0 := by
                have := H7.out.2.2.2.2.1
                simp at hc2
                omega
              go_wp2_with fail
              refine (collect_any nd10 hA12 (by rw [hlen10]; omega) (by simp; omega) (by simp) hum10 (by omega) (Nat.le_of_lt hA12.ar.blk.lt) hsz10).mono ?_
              rintro e w13 ⟨vg3, fv13, nd13, rfl, hvg3, hA13, hu13, hn13⟩
              rw [hlv] at hA13
              have H13 := Lib.hid (And.intro hA13 (col_below hA12 b12 hAw hbA10 hu13))
              clear hA13 hu13 hn13 hvg3 hA12 har12 hu12 hr12 b12
              go_wp2_with fail
              refine (count_any H13.out.1.ar).mono ?_
              rintro e w14 ⟨rfl, rfl⟩
              go_wp2_with fail
              refine (depth_any H13.out.1.ar).mono ?_
              rintro e w15 ⟨rfl, rfl⟩
              go_wp2_with fail
              go_ret
              exact ⟨rfl, H13.out.2⟩
    · have L0 : decide ((100 : Int) < (m : Int)) = true := by rw [decide_eq_true_eq]; omega
      have HB := Lib.hid b12
      clear b12
      go_wp2
      go_ret
      exact ⟨rfl, HB.out⟩
end Go.Proofs.Ythcdhiknjpfmhaa
