/- The walk of the statement HeapChains. -/
import Derived.Test.YtmimnaaofpkndaaDoorHpO
set_option linter.unusedVariables false
set_option linter.unusedSimpArgs false
namespace Go.Proofs.YtmimnaaofpkndaaDoor.Hp
open Go.RowKit Go.Proofs.YtmimnaaofpkndaaDoor

theorem conv_at (W : World) (g : Nat) (c : Int) (h : W.cell? ⟨g, 0, none⟩ = some (.int .u8 c)) : (convert 36 9 (.slice (some ⟨g, 0, none⟩) 1 1)).run Tryd.prog W = .ok (.string ⟨#[UInt8.ofNat c.toNat]⟩) W := by
  have hc2 : ∀ i, i < 1 → W.cell? ⟨g, 0 + i, none⟩ = some (.int .u8 ([c].getD i 0)) := by
    intro i hi
    obtain rfl : i = 0 := by omega
    exact h
  rw [run_convert_bytes_arg _ 36 5 Tryd.underlying36 Tryd.underlying5 g 0 1 1 [c] rfl hc2 9 Tryd.underlying9]
  rfl
/-- What stands behind each call: the chain, the box of what is nearest. -/
structure CI (w0 : World) (H A P : Nat) (l : List ObS) (nr : Nat → Nat) (W : World) : Prop where
  ch : ∃ cv lab, Ch w0 H A cv lab l W ∧ lab P = 0
  bx : Blk W P 29 #[.int .i64 (nr 0 : Int), .int .i64 (nr 1 : Int), .int .i64 (nr 2 : Int), .int .i64 (nr 3 : Int)]
section
variable {w0 w w' : World} {H A P : Nat} {l : List ObS} {nr : Nat → Nat}
theorem CI.below (h : CI w0 H A P l nr w) (b : Below w.heap.size w w') : CI w0 H A P l nr w' := by
  obtain ⟨cv, lab, hc, hl⟩ := h.ch
  exact ⟨⟨cv, lab, hc.below b, hl⟩, h.bx.below b h.bx.lt⟩
theorem CI.bel (h : CI w0 H A P l nr w) : Below w0.heap.size w0 w := by
  obtain ⟨cv, lab, hc, hl⟩ := h.ch
  exact hc.bel
theorem CI.low (h : CI w0 H A P l nr w) : w0.heap.size ≤ w.heap.size := h.bel.size
theorem CI.obj (h : CI w0 H A P l nr w) (hl : l.length ≤ 1000) {i : Nat} {o : ObS} (ho : l[i]? = some o) : Calls Tryd.prog 11 #[.pointer (some ⟨H, 0, none⟩), .int .i64 ((i : Int) + 1)] w fun e w' => e = .returned (.pointer (some ⟨o.b, 0, none⟩)) ∧ ∃ q, w' = w.drewN q := by
  obtain ⟨cv, lab, hc, _⟩ := h.ch
  have := ch_obj hc hl ((i : Int) + 1)
  rw [objP_at ho] at this
  exact this
theorem CI.def_ (h : CI w0 H A P l nr w) {c i : Nat} {o : ObS} (hn : Near l nr c) (hc : c ≤ 3000) (ho : l[i]? = some o) (k : Nat) (hk : k < 4) : Calls Tryd.prog 12 #[.pointer (some ⟨o.b, 0, none⟩), VK (ky k), VS 3 ((i : Int) + 1) ⟨#[]⟩, .int .i64 7] w fun e w' =>
    e = .returned (.bool true) ∧ ∃ l', CI w0 H A P l' nr w' ∧ l'.length = l.length ∧ Near l' (stepN nr k (i + 1)) (c + 1) := by
  obtain ⟨cv, lab, hch, hP⟩ := h.ch
  refine (ch_def hch ho (ky k) (3, ((i : Int) + 1), ⟨#[]⟩) (ky_size k hk) (Nat.le_trans (hn.len i o ho) (by omega)) (fun x hx => ?_)).mono ?_
  · rcases put_mem hx with ⟨y, hy, rfl, _⟩ | ⟨_, hf, _⟩
    · exact (hn.vals i o ho _ hy).2
    · exact hf
  · rintro e w' ⟨rfl, lab', hc', hkeep⟩
    obtain ⟨b', hl'⟩ := hkeep P _ _ h.bx hP
    exact ⟨rfl, _, ⟨⟨cv, lab', hc', hl'⟩, b'⟩, List.length_set, hn.step hk ho⟩
theorem CI.set (h : CI w0 H A P l nr w) (hlow : w0.heap.size ≤ P) (k a : Nat) (hk : k < 4) : CI w0 H A P l (stepN nr k a) (w.setCell ⟨P, k, none⟩ (.int .i64 ((max (nr k) a : Nat) : Int))) := by
  obtain ⟨cv, lab, hc, hl⟩ := h.ch
  have u : Upd w (w.setCell ⟨P, k, none⟩ (.int .i64 ((max (nr k) a : Nat) : Int))) (fun x => x = P) := (Upd.refl w _).set P k _ rfl
  refine ⟨⟨cv, lab, ?_, hl⟩, ?_⟩
  · refine ⟨hc.hx.upd u (fun e => hc.hx.hb.ne_ h.bx (by decide) e) (fun e => hc.hx.ar.blk.ne_ h.bx (by decide) e) (fun g hg e => own_blk_ne hc.hx.ar.cells h.bx (by decide) (e ▸ hg)) (fun g hg => by simp [Value.ownBlock] at hg) (fun g hg => by simp [Value.ownBlock] at hg), hc.bel.trans (u.below hc.bel.size (fun x e => by omega)), fun i o ho => ?_, hc.lH, hc.lA, hc.lc, hc.low, hc.aw⟩
    obtain ⟨h1, h2, h3, h4⟩ := hc.ob i o ho
    exact ⟨u.blk h1 (fun e => h1.ne_ h.bx (by decide) e), (h2.upd u (fun x hx e => by rw [e] at hx; have := hx.1; omega)).widen (fun x hx => ⟨hx.1, Nat.lt_of_lt_of_le hx.2 u.size⟩) (fun x hx => hx.2), h3, h4⟩
  · have := h.bx.set_ k (.int .i64 ((max (nr k) a : Nat) : Int))
    unfold stepN
    match k, hk with
    | 0, _ => exact this
    | 1, _ => exact this
    | 2, _ => exact this
    | 3, _ => exact this
theorem CI.find (h : CI w0 H A P l nr w) {c : Nat} (hn : Near l nr c) (hl : l.length ≤ 1000) (k : Nat) (hk : k < 4) : Calls Tryd.prog 14 #[.pointer (some ⟨H, 0, none⟩), .int .i64 (l.length : Int), VK (ky k)] w fun e w' =>
    (∃ gv gf gb, e = .returned (.tuple #[VK gv, .int .i64 gf, .bool gb]) ∧ gb = decide (0 < nr k) ∧ (gb = true → gv = (3, (nr k : Int), ⟨#[]⟩))) ∧ Below w.heap.size w w' := by
  obtain ⟨cv, lab, hch, _⟩ := h.ch
  refine (ch_find hch hl l.length (Nat.le_refl _) (ky k) (ky_size k hk)).mono ?_
  rintro e w' ⟨⟨gv, gf, gb, rfl, hf⟩, b⟩
  obtain ⟨h1, h2⟩ := hn.found hk hf
  exact ⟨⟨gv, gf, gb, rfl, h1, h2⟩, b⟩
theorem CI.chain (h : CI w0 H A P l nr w) (hl : l.length ≤ 1000) (r : Int) (p : Nat) (hp : p ≤ l.length) : Calls Tryd.prog 15 #[.pointer (some ⟨H, 0, none⟩), .int .i64 r, .int .i64 (p : Int)] w fun e w' => e = .returned (.bool (chainP r p)) ∧ Below w.heap.size w w' := by
  obtain ⟨cv, lab, hch, _⟩ := h.ch
  exact ch_chain hch hl r p hp
theorem ky_any (k : Nat) (w : World) : Calls Tryd.prog 13 #[.string ⟨#[UInt8.ofNat (97 + k)]⟩] w fun e w' => e = .returned (VK (ky k)) ∧ Below w.heap.size w w' := keyL_any [UInt8.ofNat (97 + k)] (by simp) w
end
theorem ix4_0 (W : World) (a b c d : Value) : (Instr.index 29 (.agg #[a, b, c, d]) (.int .i64 0)).run Tryd.prog W = .ok a W := by kernel_rfl
theorem ix4_1 (W : World) (a b c d : Value) : (Instr.index 29 (.agg #[a, b, c, d]) (.int .i64 1)).run Tryd.prog W = .ok b W := by kernel_rfl
theorem ix4_2 (W : World) (a b c d : Value) : (Instr.index 29 (.agg #[a, b, c, d]) (.int .i64 2)).run Tryd.prog W = .ok c W := by kernel_rfl
theorem ix4_3 (W : World) (a b c d : Value) : (Instr.index 29 (.agg #[a, b, c, d]) (.int .i64 3)).run Tryd.prog W = .ok d W := by kernel_rfl
theorem chainP_low (q j : Nat) (h : q < j) : chainP ((q : Int) + 1) j = false := by
  unfold chainP
  simp only [Bool.not_eq_false', Bool.and_eq_true, decide_eq_true_eq]
  omega
theorem chainP_zero (j : Nat) : chainP (j : Int) 0 = true := by
  unfold chainP
  simp only [Bool.not_eq_true', Bool.and_eq_false_iff, decide_eq_false_iff_not]
  omega
theorem chainP_up (q j : Nat) (h : q < j) (hne : ¬ (q : Int) + 1 = (j : Int)) : chainP (j : Int) (q + 1) = true := by
  unfold chainP
  simp only [Bool.not_eq_true', Bool.and_eq_false_iff, decide_eq_false_iff_not]
  omega
set_option maxRecDepth 100000 in
set_option maxHeartbeats 16000000 in
theorem chains_walk (n : Int) (a : Option Addr) (m cap : Nat) (zs : List Int) (ask : Int) (w : World) (h : ArgR w a m zs) (hLg : Lg w) (hask : -9223372036854775808 ≤ ask ∧ ask ≤ 9223372036854775807) : Calls Tryd.prog 3 #[.int .i64 n, .slice a m cap, .int .i64 ask] w fun e w' => e = .returned (.bool true) ∧ Below w.heap.size w w' := by
  obtain ⟨N, hN, hN20⟩ := norm_mod n 20 (by omega) (by omega)
  have HN := Lib.hid hN
  have HR := Lib.hid h
  have hzl := h.1
  have HF := Lib.hid (fit_any w hLg)
  clear h hLg hN
  go_enter Tryd.func3, Tryd.ntmps3
  go_wp2_with fail
  refine HF.out.mono ?_
  rintro e w1 ⟨rfl, b1⟩
  go_upto_region 4 with fail
  rw [HN.out]
  obtain ⟨M, hM, hM1, hM20⟩ : ∃ M : Nat, wrap64 ((N : Int) + 1) = (M : Int) ∧ 1 ≤ M ∧ M ≤ 20 := ⟨N + 1, by rw [IntWalk.wrap64_in _ (by omega)]; rfl, by omega, by omega⟩
  rw [hM]
  clear hM hN20 HN
  by_cases hm : m ≤ 50
  · have t1 : decide ((50 : Int) < (m : Int)) = false := by simp; omega
    go_wp2_with fail
    refine (hnew_any w1).mono ?_
    rintro e w2 ⟨rfl, rfl⟩
    have hch0 := ch_new w1
    obtain ⟨A, hA⟩ : ∃ A, w1.heap.size = A := ⟨_, rfl⟩
    rw [hA] at hch0 ⊢
    obtain ⟨H, hH⟩ : ∃ H, A + 1 = H := ⟨_, rfl⟩
    rw [hH] at hch0 ⊢
    have HCH := Lib.hid hch0
    clear hch0
    generalize newW w1 = w2 at *
    go_wp2_with fail
    go_loopw [8, 32] (fun u v wr => ∃ (j : Nat) (cv : Value) (lab : Nat → Nat) (l : List ObS), j ≤ M ∧ u = .int .i64 (j : Int) ∧ v = .int .i64 (j : Int) ∧ l.length = j ∧ Hid (Ch w1 H A cv lab l wr ∧ ∀ (i : Nat) (o : ObS), l[i]? = some o → o.A = [])) (fun _ v _ => M - (intOf v).toNat)
    case atStart => exact ⟨0, _, _, [], Nat.zero_le _, rfl, rfl, rfl, Lib.hid ⟨HCH.out, fun i o h => by simp at h⟩⟩
    case round =>
      obtain ⟨j, cv, lab, l, hj, rfl, rfl, hlj, HC⟩ := hrel
      by_cases hlt : j < M
      · have t2 : decide ((j : Int) < (M : Int)) = true := by simp; omega
        have aj : IntKind.i64.wrap ((j : Int) + 1) = (j : Int) + 1 := IntWalk.i64_in _ (by omega)
        have hmk := ch_make HC.out.1 (by omega)
        rw [hlj] at hmk
        have HMK := Lib.hid hmk
        clear hmk
        go_wp2_with fail
        refine HMK.out.mono ?_
        rintro e w3 ⟨b, T, cv', lab', rfl, hc3⟩
        have HC3 := Lib.hid hc3
        clear hc3 HMK
        go_wp2_with fail
        go_roundw
        case rel =>
          refine ⟨j + 1, cv', lab', _, by omega, rfl, by go_num, by simp [hlj], Lib.hid ⟨HC3.out, fun i o h => ?_⟩⟩
          rcases Nat.lt_or_ge i l.length with hi | hi
          · rw [List.getElem?_append_left hi] at h; exact HC.out.2 i o h
          · rw [List.getElem?_append_right hi] at h
            cases hx : i - l.length with
            | zero => rw [hx] at h; simp at h; rw [← h]
            | succ q => rw [hx] at h; simp at h
        case measure => simp [intOf]; omega
      · have hjn : j = M := by omega
        subst hjn
        have t2 : decide ((j : Int) < (j : Int)) = false := by simp
        obtain ⟨wA, hwA⟩ : ∃ x, x = wr := ⟨_, rfl⟩
        subst hwA
        have hz := HC.out.1.zero
        have hzb := hz.below ((Below.refl wA.heap.size wA).alloc (Nat.le_refl _) (.cells #[.int .i64 0, .int .i64 0, .int .i64 0, .int .i64 0] 29))
        have hn0 := Near.new HC.out.2
        have hci : CI w1 H A wA.heap.size l (fun _ => 0) (wA.alloc (.cells #[.int .i64 0, .int .i64 0, .int .i64 0, .int .i64 0] 29)) := ⟨⟨_, _, hzb, if_neg (Nat.lt_irrefl _)⟩, Blk.new wA _ _⟩
        have hlow : w1.heap.size ≤ wA.heap.size := hz.bel.size
        have HCI := Lib.hid (And.intro hci hn0)
        have d0 : ((j : Int) == 0) = false := by rw [beq_eq_false_iff_ne]; omega
        have d1 : ¬ (j : Int) = 0 := by omega
        clear hz hzb hn0 hci HC HCH
        go_upto_region 13 with fail
        generalize (wA.alloc (.cells #[.int .i64 0, .int .i64 0, .int .i64 0, .int .i64 0] 29)) = w4 at *
        generalize wA.heap.size = P at *
        go_wp2_with fail
        go_loopw [44] (fun v wr => ∃ (i c : Nat) (l' : List ObS) (nr : Nat → Nat), i ≤ m ∧ v = .int .i64 (i : Int) ∧ c = i ∧ l'.length = j ∧ Hid (CI w1 H A P l' nr wr ∧ Near l' nr c)) (fun v _ => m - (intOf v).toNat)
        case atStart => exact ⟨0, 0, l, _, Nat.zero_le _, rfl, rfl, hlj, HCI⟩
        case round =>
          clear HCI hlj l cv lab
          obtain ⟨i, c, l, nr, hi, rfl, rfl, hlj, HC⟩ := hrel
          by_cases hlt2 : c < m
          · have hR2 := HR.out.below (b1.trans (HC.out.1.bel.mono b1.size))
            obtain ⟨b, off, rfl, hbl, hcell⟩ := hR2.2.2 (by omega)
            have e0 := hcell c hlt2
            generalize zs.getD c 0 = x at *
            have t3 : decide ((c : Int) < (m : Int)) = true := by simp; omega
            have z0 : (0 : Int) ≤ (c : Int) := by omega
            have z1 : (c : Int) < (m : Int) := by omega
            have ac : IntKind.i64.wrap ((c : Int) + 1) = (c : Int) + 1 := IntWalk.i64_in _ (by omega)
            clear hR2 hcell
            go_upto_region 16 with fail
            go_quiet (fail)
            go_upto_region 17 with fail
            obtain ⟨k, hk, hkx⟩ := and_to x 3 (by omega)
            obtain ⟨q, hq, hqx⟩ := and_to (x / 4) 255 (by omega)
            have hk1 : bits .and .i64 x 3 = (k : Int) := hkx
            have hq1 : bits .and .i64 (x / 4) 255 = (q : Int) := hqx
            obtain ⟨i, hi2, hie⟩ : ∃ i : Nat, i < j ∧ wrap64 ((bits .and .i64 (x / 4) 255).tmod (j : Int) + 1) = (i : Int) + 1 := by
              refine ⟨q % j, Nat.mod_lt _ (by omega), ?_⟩
              have hlt3 := Nat.mod_lt q (show 0 < j by omega)
              rw [hq1, Int.tmod_eq_emod_of_nonneg (by omega), IntWalk.wrap64_in _ (by omega)]
              omega
            rw [hk1, hie]
            clear hk1 hie hkx hqx hq1 e0
            obtain ⟨o, ho⟩ : ∃ o, l[i]? = some o := ⟨_, List.getElem?_eq_getElem (by omega)⟩
            obtain ⟨ch, hch⟩ : ∃ ch, UInt8.ofNat (97 + k) = ch := ⟨_, rfl⟩
            obtain ⟨kk, hkk⟩ : ∃ kk, ky k = kk := ⟨_, rfl⟩
            have HKY : Hid (∀ W, Calls Tryd.prog 13 #[.string ⟨#[ch]⟩] W fun e w' => e = .returned (VK kk) ∧ Below W.heap.size W w') := Lib.hid (by rw [← hch, ← hkk]; exact ky_any k)
            have HCV : Hid (∀ W g, World.cell? W ⟨g, 0, none⟩ = some (.int .u8 (97 + (k : Int))) → (convert 36 9 (.slice (some ⟨g, 0, none⟩) 1 1)).run Tryd.prog W = .ok (.string ⟨#[ch]⟩) W) := Lib.hid (fun W g h => by
              have := conv_at W g (97 + (k : Int)) h
              rwa [show (97 + (k : Int)).toNat = 97 + k by omega, hch] at this)
            have hk4 : k < 4 := by omega
            have a97 : IntKind.i64.wrap (97 + (k : Int)) = 97 + (k : Int) := IntWalk.i64_in _ (by omega)
            have a98 : IntKind.u8.wrap (97 + (k : Int)) = 97 + (k : Int) := IntWalk.u8_in _ (by omega)
            have HKK := Lib.hid hkk
            have HO := Lib.hid ho
            have HC0 := Lib.hid (HC.out.1.below (below_drw (Below.refl _ _) nq))
            have HN0 := Lib.hid HC.out.2
            clear hch hkk HC ho hk
            generalize wr.drewN nq = W0 at *
            refine wp_var0 (fun KV HKV => ?_)
            refine wp_region_till (m := 11) (S := (fun _ => True)) (by kernel_rfl) ?_
            have HC1 := Lib.hid (HC0.out.below (below_drw (Below.refl _ _) 1))
            have e4 : W0.drew = W0.drewN 1 := rfl
            rw [e4]
            clear e4 HC0
            generalize W0.drewN 1 = V0 at *
            change tillH _ _ _ _ _ _ 12 #[false, false, false, false, false, false, false, false, false, false, false, false] _ _
            refine tillH_takeAny (i := 0) (oi := ?oo1) (v := ?vv1) ?hi1 (by kernel_rfl) (by kernel_rfl) (by kernel_rfl) ?hq1 (by kernel_rfl) ?hy1 (fun _ => trivial) ?hh1
            case hi1 => (simp only [List.getElem?_toArray, List.getElem?_cons_succ, List.getElem?_cons_zero]; rfl)
            case hq1 => exact fun _ _ _ h => h
            case hy1 => exact Or.inl ⟨by rfl, by (intro W; go_simp; (try with_reducible rfl))⟩
            (try simp only [Act.put, List.setIfInBounds_toArray, List.set_cons_zero, List.set_cons_succ])
            refine tillH_takeAny (i := 1) (oi := ?oo2) (v := ?vv2) ?hi2 (by kernel_rfl) (by kernel_rfl) (by kernel_rfl) ?hq2 (by kernel_rfl) ?hy2 (fun _ => trivial) ?hh2
            case hi2 => (simp only [List.getElem?_toArray, List.getElem?_cons_succ, List.getElem?_cons_zero]; rfl)
            case hq2 => exact fun _ _ _ h => h
            case hy2 => exact Or.inl ⟨by rfl, by (intro W; go_simp; (try with_reducible rfl))⟩
            (try simp only [Act.put, List.setIfInBounds_toArray, List.set_cons_zero, List.set_cons_succ])
            refine tillH_takeAny (i := 3) (oi := ?oo3) (v := ?vv3) ?hi3 (by kernel_rfl) (by kernel_rfl) (by kernel_rfl) ?hq3 (by kernel_rfl) ?hy3 (fun _ => trivial) ?hh3
            case hi3 => (simp only [List.getElem?_toArray, List.getElem?_cons_succ, List.getElem?_cons_zero]; rfl)
            case hq3 => exact fun _ _ _ h => h
            case hy3 => exact Or.inl ⟨by rfl, by (intro W; go_simp; (try with_reducible rfl))⟩
            (try simp only [Act.put, List.setIfInBounds_toArray, List.set_cons_zero, List.set_cons_succ])
            refine tillH_takeAny (i := 4) (oi := ?oo4) (v := ?vv4) ?hi4 (by kernel_rfl) (by kernel_rfl) (by kernel_rfl) ?hq4 (by kernel_rfl) ?hy4 (fun _ => trivial) ?hh4
            case hi4 => (simp only [List.getElem?_toArray, List.getElem?_cons_succ, List.getElem?_cons_zero]; rfl)
            case hq4 => exact fun _ _ _ h => h
            case hy4 => exact Or.inl ⟨by rfl, by (intro W; go_simp; (try with_reducible rfl))⟩
            (try simp only [Act.put, List.setIfInBounds_toArray, List.set_cons_zero, List.set_cons_succ])
            refine tillH_takeAny (i := 5) (oi := ?oo5) (v := ?vv5) ?hi5 (by kernel_rfl) (by kernel_rfl) (by kernel_rfl) ?hq5 (by kernel_rfl) ?hy5 (fun _ => trivial) ?hh5
            case hi5 => (simp only [List.getElem?_toArray, List.getElem?_cons_succ, List.getElem?_cons_zero]; rfl)
            case hq5 => exact fun _ _ _ h => h
            case hy5 => exact Or.inl ⟨by rfl, by (intro W; go_simp; (try with_reducible rfl))⟩
            (try simp only [Act.put, List.setIfInBounds_toArray, List.set_cons_zero, List.set_cons_succ])
            refine tillH_takeAny (i := 9) (oi := ?oo6) (v := ?vv6) ?hi6 (by kernel_rfl) (by kernel_rfl) (by kernel_rfl) ?hq6 (by kernel_rfl) ?hy6 (fun _ => trivial) ?hh6
            case hi6 => (simp only [List.getElem?_toArray, List.getElem?_cons_succ, List.getElem?_cons_zero]; rfl)
            case hq6 => exact fun _ _ _ h => h
            case hy6 => exact Or.inl ⟨by rfl, by (intro W; go_simp; (try with_reducible rfl))⟩
            (try simp only [Act.put, List.setIfInBounds_toArray, List.set_cons_zero, List.set_cons_succ])
            refine tillH_takeAny (i := 10) (oi := ?oo7) (v := ?vv7) ?hi7 (by kernel_rfl) (by kernel_rfl) (by kernel_rfl) ?hq7 (by kernel_rfl) ?hy7 (fun _ => trivial) ?hh7
            case hi7 => (simp only [List.getElem?_toArray, List.getElem?_cons_succ, List.getElem?_cons_zero]; rfl)
            case hq7 => exact fun _ _ _ h => h
            case hy7 => exact Or.inl ⟨by rfl, by (intro W; go_simp; (try with_reducible rfl))⟩
            (try simp only [Act.put, List.setIfInBounds_toArray, List.set_cons_zero, List.set_cons_succ])
            refine tillH_next (rs := [2, 6]) (by kernel_rfl) (by simp) ?_
            refine NextH.cons rfl (fun K hK => ?_) (NextH.cons rfl (fun K hK => ?_) NextH.nil)
            · go_simp
              refine (HC1.out.obj (by omega) HO.out).mono ?_
              rintro e w' ⟨rfl, q', rfl⟩
              have HC_1 := Lib.hid (HC1.out.below (below_drw (Below.refl _ _) q'))
              refine hK.out _ _ (fun _ => trivial) ?_
              clear hK K
              (try simp only [Act.put, List.setIfInBounds_toArray, List.set_cons_zero, List.set_cons_succ])
              generalize V0.drewN q' = V1 at *
              refine tillH_next (rs := [6]) (by kernel_rfl) (by simp) ?_
              refine NextH.cons rfl (fun K hK => ?_) NextH.nil
              go_simp
              have ba := (Below.refl V1.heap.size V1).alloc (Nat.le_refl _) (.cells #[.int .u8 (97 + (k : Int))] 5)
              have HC_2 := Lib.hid (HC_1.out.below ba)
              have gc : (V1.alloc (.cells #[.int .u8 (97 + (k : Int))] 5)).cell? ⟨V1.heap.size, 0, none⟩ = some (.int .u8 (97 + (k : Int))) := by rw [(Blk.new V1 _ _).cell]; rfl
              refine hK.out _ _ (fun _ => trivial) ?_
              clear hK K
              (try simp only [Act.put, List.setIfInBounds_toArray, List.set_cons_zero, List.set_cons_succ])
              clear ba
              generalize V1.alloc (.cells #[.int .u8 (97 + (k : Int))] 5) = V2 at *
              generalize V1.heap.size = g at *
              refine tillH_next (rs := [7]) (by kernel_rfl) (by simp) ?_
              refine NextH.cons rfl (fun K hK => ?_) NextH.nil
              have hcv := HCV.out V2 g gc
              go_simp
              refine hK.out _ _ (fun _ => trivial) ?_
              clear hK K
              (try simp only [Act.put, List.setIfInBounds_toArray, List.set_cons_zero, List.set_cons_succ])
              clear hcv
              refine tillH_next (rs := [8]) (by kernel_rfl) (by simp) ?_
              refine NextH.cons rfl (fun K hK => ?_) NextH.nil
              go_simp
              refine (HKY.out V2).mono ?_
              rintro e V4 ⟨rfl, b8⟩
              have HC_4 := Lib.hid (HC_2.out.below b8)
              refine hK.out _ _ (fun _ => trivial) ?_
              clear hK K
              (try simp only [Act.put, List.setIfInBounds_toArray, List.set_cons_zero, List.set_cons_succ])
              refine tillH_next (rs := [11]) (by kernel_rfl) (by simp) ?_
              refine NextH.cons rfl (fun K hK => ?_) NextH.nil
              go_simp
              have hdef := HC_4.out.def_ HN0.out (by omega) HO.out k hk4
              rw [HKK.out] at hdef
              refine hdef.mono ?_
              rintro e V5 ⟨rfl, l2, hci2, hl2, hn2⟩
              have HD := Lib.hid (And.intro hci2 hn2)
              refine hK.out _ _ (fun _ => trivial) ?_
              clear hK K
              (try simp only [Act.put, List.setIfInBounds_toArray, List.set_cons_zero, List.set_cons_succ])
              clear hdef hci2 hn2
              refine tillH_done (by kernel_rfl) ?_ _
              refine HKV.out _ _ ?_
              have xk : V5.cell? ⟨P, k, none⟩ = some (.int .i64 (nr k : Int)) := by
                rw [HD.out.1.bx.cell]
                match k, hk4 with
                | 0, _ => rfl
                | 1, _ => rfl
                | 2, _ => rfl
                | 3, _ => rfl
              have fk := HD.out.1.bx.frozen k
              have lk := HD.out.1.bx.lt
              have k0 : (0 : Int) ≤ (k : Int) := by omega
              have k1 : (k : Int) < 4 := by omega
              have k2 : ¬ 4 ≤ k := by omega
              go_wp2_with fail
              have hmx : max ((nr k : Nat) : Int) ((i : Int) + 1) = ((max (nr k) (i + 1) : Nat) : Int) := by omega
              have hset := HD.out.1.set hlow k (i + 1) hk4
              rw [← hmx] at hset
              have HSET := Lib.hid (And.intro hset HD.out.2)
              clear hset
              go_roundw
              case rel => exact ⟨c + 1, c + 1, l2, _, by omega, rfl, rfl, by omega, HSET⟩
              case measure => simp [intOf]; omega
            · go_simp
              have ba := (Below.refl V0.heap.size V0).alloc (Nat.le_refl _) (.cells #[.int .u8 (97 + (k : Int))] 5)
              have HC_6 := Lib.hid (HC1.out.below ba)
              have gc : (V0.alloc (.cells #[.int .u8 (97 + (k : Int))] 5)).cell? ⟨V0.heap.size, 0, none⟩ = some (.int .u8 (97 + (k : Int))) := by rw [(Blk.new V0 _ _).cell]; rfl
              refine hK.out _ _ (fun _ => trivial) ?_
              clear hK K
              (try simp only [Act.put, List.setIfInBounds_toArray, List.set_cons_zero, List.set_cons_succ])
              clear ba
              generalize V0.alloc (.cells #[.int .u8 (97 + (k : Int))] 5) = V6 at *
              generalize V0.heap.size = g at *
              refine tillH_next (rs := [2, 7]) (by kernel_rfl) (by simp) ?_
              refine NextH.cons rfl (fun K hK => ?_) (NextH.cons rfl (fun K hK => ?_) NextH.nil)
              · go_simp
                refine (HC_6.out.obj (by omega) HO.out).mono ?_
                rintro e w' ⟨rfl, q', rfl⟩
                have HC_7 := Lib.hid (HC_6.out.below (below_drw (Below.refl _ _) q'))
                have gc2 : (V6.drewN q').cell? ⟨g, 0, none⟩ = some (.int .u8 (97 + (k : Int))) := gc
                refine hK.out _ _ (fun _ => trivial) ?_
                clear hK K
                (try simp only [Act.put, List.setIfInBounds_toArray, List.set_cons_zero, List.set_cons_succ])
                generalize V6.drewN q' = V7 at *
                have gc := gc2
                refine tillH_next (rs := [7]) (by kernel_rfl) (by simp) ?_
                refine NextH.cons rfl (fun K hK => ?_) NextH.nil
                have hcv := HCV.out V7 g gc
                go_simp
                refine hK.out _ _ (fun _ => trivial) ?_
                clear hK K
                (try simp only [Act.put, List.setIfInBounds_toArray, List.set_cons_zero, List.set_cons_succ])
                clear hcv
                refine tillH_next (rs := [8]) (by kernel_rfl) (by simp) ?_
                refine NextH.cons rfl (fun K hK => ?_) NextH.nil
                go_simp
                refine (HKY.out V7).mono ?_
                rintro e V9 ⟨rfl, b8⟩
                have HC_9 := Lib.hid (HC_7.out.below b8)
                refine hK.out _ _ (fun _ => trivial) ?_
                clear hK K
                (try simp only [Act.put, List.setIfInBounds_toArray, List.set_cons_zero, List.set_cons_succ])
                refine tillH_next (rs := [11]) (by kernel_rfl) (by simp) ?_
                refine NextH.cons rfl (fun K hK => ?_) NextH.nil
                go_simp
                have hdef := HC_9.out.def_ HN0.out (by omega) HO.out k hk4
                rw [HKK.out] at hdef
                refine hdef.mono ?_
                rintro e V10 ⟨rfl, l2, hci2, hl2, hn2⟩
                have HD := Lib.hid (And.intro hci2 hn2)
                refine hK.out _ _ (fun _ => trivial) ?_
                clear hK K
                (try simp only [Act.put, List.setIfInBounds_toArray, List.set_cons_zero, List.set_cons_succ])
                clear hdef hci2 hn2
                refine tillH_done (by kernel_rfl) ?_ _
                refine HKV.out _ _ ?_
                have xk : V10.cell? ⟨P, k, none⟩ = some (.int .i64 (nr k : Int)) := by
                  rw [HD.out.1.bx.cell]
                  match k, hk4 with
                  | 0, _ => rfl
                  | 1, _ => rfl
                  | 2, _ => rfl
                  | 3, _ => rfl
                have fk := HD.out.1.bx.frozen k
                have lk := HD.out.1.bx.lt
                have k0 : (0 : Int) ≤ (k : Int) := by omega
                have k1 : (k : Int) < 4 := by omega
                have k2 : ¬ 4 ≤ k := by omega
                go_wp2_with fail
                have hmx : max ((nr k : Nat) : Int) ((i : Int) + 1) = ((max (nr k) (i + 1) : Nat) : Int) := by omega
                have hset := HD.out.1.set hlow k (i + 1) hk4
                rw [← hmx] at hset
                have HSET := Lib.hid (And.intro hset HD.out.2)
                clear hset
                go_roundw
                case rel => exact ⟨c + 1, c + 1, l2, _, by omega, rfl, rfl, by omega, HSET⟩
                case measure => simp [intOf]; omega
              · have hcv := HCV.out V6 g gc
                go_simp
                refine hK.out _ _ (fun _ => trivial) ?_
                clear hK K
                (try simp only [Act.put, List.setIfInBounds_toArray, List.set_cons_zero, List.set_cons_succ])
                clear hcv
                refine tillH_next (rs := [2]) (by kernel_rfl) (by simp) ?_
                refine NextH.cons rfl (fun K hK => ?_) NextH.nil
                go_simp
                refine (HC_6.out.obj (by omega) HO.out).mono ?_
                rintro e w' ⟨rfl, q', rfl⟩
                have HC_12 := Lib.hid (HC_6.out.below (below_drw (Below.refl _ _) q'))
                refine hK.out _ _ (fun _ => trivial) ?_
                clear hK K
                (try simp only [Act.put, List.setIfInBounds_toArray, List.set_cons_zero, List.set_cons_succ])
                generalize V6.drewN q' = V12 at *
                refine tillH_next (rs := [8]) (by kernel_rfl) (by simp) ?_
                refine NextH.cons rfl (fun K hK => ?_) NextH.nil
                go_simp
                refine (HKY.out V12).mono ?_
                rintro e V13 ⟨rfl, b8⟩
                have HC_13 := Lib.hid (HC_12.out.below b8)
                refine hK.out _ _ (fun _ => trivial) ?_
                clear hK K
                (try simp only [Act.put, List.setIfInBounds_toArray, List.set_cons_zero, List.set_cons_succ])
                refine tillH_next (rs := [11]) (by kernel_rfl) (by simp) ?_
                refine NextH.cons rfl (fun K hK => ?_) NextH.nil
                go_simp
                have hdef := HC_13.out.def_ HN0.out (by omega) HO.out k hk4
                rw [HKK.out] at hdef
                refine hdef.mono ?_
                rintro e V14 ⟨rfl, l2, hci2, hl2, hn2⟩
                have HD := Lib.hid (And.intro hci2 hn2)
                refine hK.out _ _ (fun _ => trivial) ?_
                clear hK K
                (try simp only [Act.put, List.setIfInBounds_toArray, List.set_cons_zero, List.set_cons_succ])
                clear hdef hci2 hn2
                refine tillH_done (by kernel_rfl) ?_ _
                refine HKV.out _ _ ?_
                have xk : V14.cell? ⟨P, k, none⟩ = some (.int .i64 (nr k : Int)) := by
                  rw [HD.out.1.bx.cell]
                  match k, hk4 with
                  | 0, _ => rfl
                  | 1, _ => rfl
                  | 2, _ => rfl
                  | 3, _ => rfl
                have fk := HD.out.1.bx.frozen k
                have lk := HD.out.1.bx.lt
                have k0 : (0 : Int) ≤ (k : Int) := by omega
                have k1 : (k : Int) < 4 := by omega
                have k2 : ¬ 4 ≤ k := by omega
                go_wp2_with fail
                have hmx : max ((nr k : Nat) : Int) ((i : Int) + 1) = ((max (nr k) (i + 1) : Nat) : Int) := by omega
                have hset := HD.out.1.set hlow k (i + 1) hk4
                rw [← hmx] at hset
                have HSET := Lib.hid (And.intro hset HD.out.2)
                clear hset
                go_roundw
                case rel => exact ⟨c + 1, c + 1, l2, _, by omega, rfl, rfl, by omega, HSET⟩
                case measure => simp [intOf]; omega
          · have hcm : c = m := by omega
            subst hcm
            have t3 : decide ((c : Int) < (c : Int)) = false := by simp
            obtain ⟨wB, hwB⟩ : ∃ x, x = wr := ⟨_, rfl⟩
            subst hwB
            have HNR := Lib.hid HC.out.2
            have xP0 : wB.cell? ⟨P, 0, none⟩ = some (.int .i64 (nr 0 : Int)) := by rw [HC.out.1.bx.cell]; rfl
            have xP1 : wB.cell? ⟨P, 1, none⟩ = some (.int .i64 (nr 1 : Int)) := by rw [HC.out.1.bx.cell]; rfl
            have xP2 : wB.cell? ⟨P, 2, none⟩ = some (.int .i64 (nr 2 : Int)) := by rw [HC.out.1.bx.cell]; rfl
            have xP3 : wB.cell? ⟨P, 3, none⟩ = some (.int .i64 (nr 3 : Int)) := by rw [HC.out.1.bx.cell]; rfl
            have HCB := Lib.hid HC.out.1
            clear HC
            go_wp2_with fail
            clear xP0 xP1 xP2 xP3
            go_loopw [77] (fun v wr => ∃ i : Nat, i ≤ 4 ∧ v = .int .i64 (i : Int) ∧ Hid (CI w1 H A P l nr wr)) (fun v _ => 4 - (intOf v).toNat)
            case atStart => exact ⟨0, Nat.zero_le _, rfl, HCB⟩
            case round =>
              clear HCB
              obtain ⟨i, hi4, rfl, HCB⟩ := hrel
              have hcs : i = 0 ∨ i = 1 ∨ i = 2 ∨ i = 3 ∨ i = 4 := by omega
              rcases hcs with rfl | rfl | rfl | rfl | rfl
              · rw [show ((0 : Nat) : Int) = 0 from rfl]
                have hcv := conv_one wr 97
                have hix := ix4_0 wr (.int .i64 (nr 0 : Int)) (.int .i64 (nr 1 : Int)) (.int .i64 (nr 2 : Int)) (.int .i64 (nr 3 : Int))
                have HKY : Hid (∀ W, Calls Tryd.prog 13 #[.string ⟨#[(97 : UInt8)]⟩] W fun e w' => e = .returned (VK (ky 0)) ∧ Below W.heap.size W w') := Lib.hid (ky_any 0)
                obtain ⟨kk, hkk⟩ : ∃ kk, ky 0 = kk := ⟨_, rfl⟩
                have ba := (Below.refl wr.heap.size wr).alloc (Nat.le_refl _) (.cells #[.int .u8 97] 5)
                have HCA := Lib.hid (HCB.out.below ba)
                have HFI : Hid (∀ W, CI w1 H A P l nr W → Calls Tryd.prog 14 #[.pointer (some ⟨H, 0, none⟩), .int .i64 (j : Int), VK kk] W fun e w' => (∃ gv gf gb, e = .returned (.tuple #[VK gv, .int .i64 gf, .bool gb]) ∧ gb = decide (0 < nr 0) ∧ (gb = true → gv = (3, (nr 0 : Int), ⟨#[]⟩))) ∧ Below W.heap.size W w') := Lib.hid (fun W h => by
                  have := h.find HNR.out (by omega) 0 (by decide)
                  rwa [hlj, hkk] at this)
                rw [hkk] at HKY
                clear hkk ba
                go_wp2_with fail
                refine (HKY.out _).mono ?_
                rintro e w5 ⟨rfl, b5⟩
                have HC5 := Lib.hid (HCA.out.below b5)
                clear b5 HCA
                go_wp2_with fail
                refine (HFI.out w5 HC5.out).mono ?_
                rintro e w6 ⟨⟨⟨v1, v2, v3⟩, gf, gb, rfl, hgb, hgv⟩, b6⟩
                have HC6 := Lib.hid (HC5.out.below b6)
                have HC7 := Lib.hid (HC6.out.below ((Below.refl w6.heap.size w6).alloc (Nat.le_refl _) (.cells #[.int .i64 v1, .int .i64 v2, .string v3] 34)))
                clear b6 HC5 HFI HKY hcv hix
                by_cases h0 : 0 < nr 0
                · have hgt : gb = true := by rw [hgb]; simpa using h0
                  have hv2 := hgv hgt
                  obtain ⟨rfl, rfl, rfl⟩ : v1 = 3 ∧ v2 = (nr 0 : Int) ∧ v3 = ⟨#[]⟩ := by simpa using hv2
                  subst hgt
                  have t9 : decide ((0 : Int) < (nr 0 : Int)) = true := by simp; omega
                  clear hgb hgv hv2
                  go_wp2_with fail
                  go_roundw
                  case rel => exact ⟨1, by omega, rfl, HC7⟩
                  case measure => simp [intOf]
                · have hgt : gb = false := by rw [hgb]; simpa using h0
                  subst hgt
                  have t9 : decide ((0 : Int) < (nr 0 : Int)) = false := by simp; omega
                  clear hgb hgv
                  go_wp2_with fail
                  go_roundw
                  case rel => exact ⟨1, by omega, rfl, HC7⟩
                  case measure => simp [intOf]
              · rw [show ((1 : Nat) : Int) = 1 from rfl]
                have hcv := conv_one wr 98
                have hix := ix4_1 wr (.int .i64 (nr 0 : Int)) (.int .i64 (nr 1 : Int)) (.int .i64 (nr 2 : Int)) (.int .i64 (nr 3 : Int))
                have HKY : Hid (∀ W, Calls Tryd.prog 13 #[.string ⟨#[(98 : UInt8)]⟩] W fun e w' => e = .returned (VK (ky 1)) ∧ Below W.heap.size W w') := Lib.hid (ky_any 1)
                obtain ⟨kk, hkk⟩ : ∃ kk, ky 1 = kk := ⟨_, rfl⟩
                have ba := (Below.refl wr.heap.size wr).alloc (Nat.le_refl _) (.cells #[.int .u8 98] 5)
                have HCA := Lib.hid (HCB.out.below ba)
                have HFI : Hid (∀ W, CI w1 H A P l nr W → Calls Tryd.prog 14 #[.pointer (some ⟨H, 0, none⟩), .int .i64 (j : Int), VK kk] W fun e w' => (∃ gv gf gb, e = .returned (.tuple #[VK gv, .int .i64 gf, .bool gb]) ∧ gb = decide (0 < nr 1) ∧ (gb = true → gv = (3, (nr 1 : Int), ⟨#[]⟩))) ∧ Below W.heap.size W w') := Lib.hid (fun W h => by
                  have := h.find HNR.out (by omega) 1 (by decide)
                  rwa [hlj, hkk] at this)
                rw [hkk] at HKY
                clear hkk ba
                go_wp2_with fail
                refine (HKY.out _).mono ?_
                rintro e w5 ⟨rfl, b5⟩
                have HC5 := Lib.hid (HCA.out.below b5)
                clear b5 HCA
                go_wp2_with fail
                refine (HFI.out w5 HC5.out).mono ?_
                rintro e w6 ⟨⟨⟨v1, v2, v3⟩, gf, gb, rfl, hgb, hgv⟩, b6⟩
                have HC6 := Lib.hid (HC5.out.below b6)
                have HC7 := Lib.hid (HC6.out.below ((Below.refl w6.heap.size w6).alloc (Nat.le_refl _) (.cells #[.int .i64 v1, .int .i64 v2, .string v3] 34)))
                clear b6 HC5 HFI HKY hcv hix
                by_cases h0 : 0 < nr 1
                · have hgt : gb = true := by rw [hgb]; simpa using h0
                  have hv2 := hgv hgt
                  obtain ⟨rfl, rfl, rfl⟩ : v1 = 3 ∧ v2 = (nr 1 : Int) ∧ v3 = ⟨#[]⟩ := by simpa using hv2
                  subst hgt
                  have t9 : decide ((0 : Int) < (nr 1 : Int)) = true := by simp; omega
                  clear hgb hgv hv2
                  go_wp2_with fail
                  go_roundw
                  case rel => exact ⟨2, by omega, rfl, HC7⟩
                  case measure => simp [intOf]
                · have hgt : gb = false := by rw [hgb]; simpa using h0
                  subst hgt
                  have t9 : decide ((0 : Int) < (nr 1 : Int)) = false := by simp; omega
                  clear hgb hgv
                  go_wp2_with fail
                  go_roundw
                  case rel => exact ⟨2, by omega, rfl, HC7⟩
                  case measure => simp [intOf]
              · rw [show ((2 : Nat) : Int) = 2 from rfl]
                have hcv := conv_one wr 99
                have hix := ix4_2 wr (.int .i64 (nr 0 : Int)) (.int .i64 (nr 1 : Int)) (.int .i64 (nr 2 : Int)) (.int .i64 (nr 3 : Int))
                have HKY : Hid (∀ W, Calls Tryd.prog 13 #[.string ⟨#[(99 : UInt8)]⟩] W fun e w' => e = .returned (VK (ky 2)) ∧ Below W.heap.size W w') := Lib.hid (ky_any 2)
                obtain ⟨kk, hkk⟩ : ∃ kk, ky 2 = kk := ⟨_, rfl⟩
                have ba := (Below.refl wr.heap.size wr).alloc (Nat.le_refl _) (.cells #[.int .u8 99] 5)
                have HCA := Lib.hid (HCB.out.below ba)
                have HFI : Hid (∀ W, CI w1 H A P l nr W → Calls Tryd.prog 14 #[.pointer (some ⟨H, 0, none⟩), .int .i64 (j : Int), VK kk] W fun e w' => (∃ gv gf gb, e = .returned (.tuple #[VK gv, .int .i64 gf, .bool gb]) ∧ gb = decide (0 < nr 2) ∧ (gb = true → gv = (3, (nr 2 : Int), ⟨#[]⟩))) ∧ Below W.heap.size W w') := Lib.hid (fun W h => by
                  have := h.find HNR.out (by omega) 2 (by decide)
                  rwa [hlj, hkk] at this)
                rw [hkk] at HKY
                clear hkk ba
                go_wp2_with fail
                refine (HKY.out _).mono ?_
                rintro e w5 ⟨rfl, b5⟩
                have HC5 := Lib.hid (HCA.out.below b5)
                clear b5 HCA
                go_wp2_with fail
                refine (HFI.out w5 HC5.out).mono ?_
                rintro e w6 ⟨⟨⟨v1, v2, v3⟩, gf, gb, rfl, hgb, hgv⟩, b6⟩
                have HC6 := Lib.hid (HC5.out.below b6)
                have HC7 := Lib.hid (HC6.out.below ((Below.refl w6.heap.size w6).alloc (Nat.le_refl _) (.cells #[.int .i64 v1, .int .i64 v2, .string v3] 34)))
                clear b6 HC5 HFI HKY hcv hix
                by_cases h0 : 0 < nr 2
                · have hgt : gb = true := by rw [hgb]; simpa using h0
                  have hv2 := hgv hgt
                  obtain ⟨rfl, rfl, rfl⟩ : v1 = 3 ∧ v2 = (nr 2 : Int) ∧ v3 = ⟨#[]⟩ := by simpa using hv2
                  subst hgt
                  have t9 : decide ((0 : Int) < (nr 2 : Int)) = true := by simp; omega
                  clear hgb hgv hv2
                  go_wp2_with fail
                  go_roundw
                  case rel => exact ⟨3, by omega, rfl, HC7⟩
                  case measure => simp [intOf]
                · have hgt : gb = false := by rw [hgb]; simpa using h0
                  subst hgt
                  have t9 : decide ((0 : Int) < (nr 2 : Int)) = false := by simp; omega
                  clear hgb hgv
                  go_wp2_with fail
                  go_roundw
                  case rel => exact ⟨3, by omega, rfl, HC7⟩
                  case measure => simp [intOf]
              · rw [show ((3 : Nat) : Int) = 3 from rfl]
                have hcv := conv_one wr 100
                have hix := ix4_3 wr (.int .i64 (nr 0 : Int)) (.int .i64 (nr 1 : Int)) (.int .i64 (nr 2 : Int)) (.int .i64 (nr 3 : Int))
                have HKY : Hid (∀ W, Calls Tryd.prog 13 #[.string ⟨#[(100 : UInt8)]⟩] W fun e w' => e = .returned (VK (ky 3)) ∧ Below W.heap.size W w') := Lib.hid (ky_any 3)
                obtain ⟨kk, hkk⟩ : ∃ kk, ky 3 = kk := ⟨_, rfl⟩
                have ba := (Below.refl wr.heap.size wr).alloc (Nat.le_refl _) (.cells #[.int .u8 100] 5)
                have HCA := Lib.hid (HCB.out.below ba)
                have HFI : Hid (∀ W, CI w1 H A P l nr W → Calls Tryd.prog 14 #[.pointer (some ⟨H, 0, none⟩), .int .i64 (j : Int), VK kk] W fun e w' => (∃ gv gf gb, e = .returned (.tuple #[VK gv, .int .i64 gf, .bool gb]) ∧ gb = decide (0 < nr 3) ∧ (gb = true → gv = (3, (nr 3 : Int), ⟨#[]⟩))) ∧ Below W.heap.size W w') := Lib.hid (fun W h => by
                  have := h.find HNR.out (by omega) 3 (by decide)
                  rwa [hlj, hkk] at this)
                rw [hkk] at HKY
                clear hkk ba
                go_wp2_with fail
                refine (HKY.out _).mono ?_
                rintro e w5 ⟨rfl, b5⟩
                have HC5 := Lib.hid (HCA.out.below b5)
                clear b5 HCA
                go_wp2_with fail
                refine (HFI.out w5 HC5.out).mono ?_
                rintro e w6 ⟨⟨⟨v1, v2, v3⟩, gf, gb, rfl, hgb, hgv⟩, b6⟩
                have HC6 := Lib.hid (HC5.out.below b6)
                have HC7 := Lib.hid (HC6.out.below ((Below.refl w6.heap.size w6).alloc (Nat.le_refl _) (.cells #[.int .i64 v1, .int .i64 v2, .string v3] 34)))
                clear b6 HC5 HFI HKY hcv hix
                by_cases h0 : 0 < nr 3
                · have hgt : gb = true := by rw [hgb]; simpa using h0
                  have hv2 := hgv hgt
                  obtain ⟨rfl, rfl, rfl⟩ : v1 = 3 ∧ v2 = (nr 3 : Int) ∧ v3 = ⟨#[]⟩ := by simpa using hv2
                  subst hgt
                  have t9 : decide ((0 : Int) < (nr 3 : Int)) = true := by simp; omega
                  clear hgb hgv hv2
                  go_wp2_with fail
                  go_roundw
                  case rel => exact ⟨4, by omega, rfl, HC7⟩
                  case measure => simp [intOf]
                · have hgt : gb = false := by rw [hgb]; simpa using h0
                  subst hgt
                  have t9 : decide ((0 : Int) < (nr 3 : Int)) = false := by simp; omega
                  clear hgb hgv
                  go_wp2_with fail
                  go_roundw
                  case rel => exact ⟨4, by omega, rfl, HC7⟩
                  case measure => simp [intOf]
              · obtain ⟨q, hq, hqj⟩ := norm_mod ask (j : Int) (by omega) (by omega)
                have hw1 : wrap64 ((q : Int) + 1) = (q : Int) + 1 := IntWalk.wrap64_in _ (by omega)
                have hlq : q < j := Int.ofNat_lt.mp hqj
                have hc1 : chainP ((q : Int) + 1) j = false := chainP_low q j hlq
                have hc2 : chainP (j : Int) 0 = true := chainP_zero j
                go_upto_region 28 with fail
                try rw [hq, hw1]
                have hC1 := HCB.out.chain (by omega) ((q : Int) + 1) j (by omega)
                rw [hc1] at hC1
                go_wp2_with fail
                refine hC1.mono ?_
                rintro e w5 ⟨rfl, b5⟩
                have HC5 := Lib.hid (HCB.out.below b5)
                have hC2 := HC5.out.chain (by omega) (j : Int) 0 (by omega)
                rw [hc2] at hC2
                clear hC1 b5
                go_wp2_with fail
                refine hC2.mono ?_
                rintro e w6 ⟨rfl, b6⟩
                have HC6 := Lib.hid (HC5.out.below b6)
                clear hC2 b6
                have fin : ∀ W, CI w1 H A P l nr W → Below w.heap.size w W := fun W h => b1.trans (h.bel.mono b1.size)
                by_cases hqe : (q : Int) + 1 = (j : Int)
                · have t8 : ((q : Int) + 1 == (j : Int)) = true := by simpa using hqe
                  have hf := fin w6 HC6.out
                  clear fin
                  go_wp2
                  go_ret
                  exact ⟨by simp, hf⟩
                · have t8 : ((q : Int) + 1 == (j : Int)) = false := by simpa using hqe
                  have hc3 : chainP (j : Int) (q + 1) = true := chainP_up q j hlq hqe
                  have hC3 := HC6.out.chain (by omega) (j : Int) (q + 1) (by rw [hlj]; exact hlq)
                  rw [hc3, show ((q + 1 : Nat) : Int) = (q : Int) + 1 by omega] at hC3
                  go_wp2_with fail
                  refine hC3.mono ?_
                  rintro e w7 ⟨rfl, b7⟩
                  have hf := fin w7 (HC6.out.below b7)
                  clear fin b7 hC3
                  go_wp2
                  go_ret
                  exact ⟨by simp, hf⟩
  · have t1 : decide ((50 : Int) < (m : Int)) = true := by simp; omega
    go_wp2
    go_ret
    exact ⟨rfl, b1⟩
end Go.Proofs.YtmimnaaofpkndaaDoor.Hp
