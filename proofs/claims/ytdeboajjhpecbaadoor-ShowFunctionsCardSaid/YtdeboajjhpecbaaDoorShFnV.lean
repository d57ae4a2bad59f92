/- ShFnV: several texts in one. -/
import Derived.Test.YtdeboajjhpecbaaDoorShR
import Derived.Test.YtdeboajjhpecbaaDoorShJ
import Derived.Test.YtdeboajjhpecbaaDoorShV
/- Show: the walk of ShowFunctions. -/
set_option linter.unusedVariables false
set_option linter.unusedSimpArgs false
namespace Go.Proofs.YtdeboajjhpecbaaDoor.Hp
open Go.RowKit Go.Proofs.YtdeboajjhpecbaaDoor Go.Shelf
theorem unitsOf_length (b : ByteArray) : (Tx.unitsOf b).length ≤ 2 * b.size := Tx.decUnits_length b _ _
theorem keyS_eq (b : ByteArray) : keyS b = (7, 0, Tx.uS (Tx.unitsOf b)) := rfl
/-- A name as it is printed. -/
def goN (name : ByteArray) : List UInt8 := Tx.goB (Tx.signs (Tx.unitsOf name))
theorem goN_len (name : ByteArray) : (goN name).length ≤ 12 * name.size := by
  have h1 := Tx.goB_length (Tx.signs (Tx.unitsOf name))
  have h2 := Tx.signs_len (Tx.unitsOf name)
  have h3 := unitsOf_length name
  unfold goN
  omega
abbrev fnB : List UInt8 := [102, 117, 110, 99, 116, 105, 111, 110, 32]
theorem Shs.two {m : Nat} {w : World} {cs : List Cell} {r r' : Int} {b T g : Nat} {pr : Int} {x : List UInt8} (hp : objP cs r' = .pointer (some ⟨b, 0, none⟩)) (hB : Blk w b 36 (objA 1 pr false T (.slice (some ⟨g, 0, none⟩) 2 2) nilP nilP nilS 0))
    (hV : Blk w g 26 #[.int .i64 9, .int .i64 r, .string ⟨#[]⟩, .int .i64 9, .int .i64 r, .string ⟨#[]⟩]) (hx : x.length ≤ 1000) (hS : Shs True (fun _ => False) m w cs 1 (9, r, ⟨#[]⟩) x) : Shs True (fun _ => False) m w cs 0 (9, r', ⟨#[]⟩) (91 :: (jn [x, x] ++ [93])) := by
  refine .array 0 r' ⟨#[]⟩ b T g 2 pr 0 false nilP nilP nilS [(9, r, ⟨#[]⟩), (9, r, ⟨#[]⟩)] [x, x] (by decide) (by decide) hp hB _ hV (fun i hi => ?_) rfl (by simp) ?_ id id (fun i k hk => ?_)
  · match i, hi with | 0, _ => rfl | 1, _ => rfl | 2, _ => rfl | 3, _ => rfl | 4, _ => rfl | 5, _ => rfl
  · show (x ++ [44, 32] ++ x).length ≤ 16000
    simp; omega
  · match i, hk with
    | 0, hk =>
      simp at hk; subst hk
      exact hS
    | 1, hk =>
      simp at hk; subst hk
      exact hS
set_option maxRecDepth 100000 in
set_option maxHeartbeats 16000000 in
theorem fn_walk (name : ByteArray) (mk : Bool) (w : World) (hT : Vx.Tb w) : Calls Tryd.prog 5 #[.string name, .bool mk] w (Ret (.bool true) w) := by
  have HT := Lib.hid hT
  clear hT
  by_cases hn : name.size ≤ 100
  · have t1 : decide ((name.size : Int) > 100) = false := by simp; omega
    have HN := Lib.hid hn
    clear hn
    go_enter Tryd.func5, Tryd.ntmps5
    go_wp2_with (fail)
    refine (fit_any _ HT.out).mono ?_
    rintro e w0 ⟨rfl, b0⟩
    go_wp2_with (fail)
    refine (machine_any _).mono ?_
    rintro e w1 ⟨m, H, A, B, cv, cs, ps, rfl, hM, hc, b1⟩
    have HM := Lib.hid (And.intro hM (And.intro hc (And.intro (b0.trans (b1.mono b0.size)) (And.intro b1.size b0.size))))
    clear hM hc b1 b0
    go_wp2_with (fail)
    refine (native_any HM.out.1 9 name mk (by have := HM.out.2.1; omega) HM.out.2.2.2.1 (by have := HN.out; omega)).mono ?_
    rintro e w2 ⟨b, T, cv2, O2, rfl, hM2, hB, hTab, hO, hK, hbl, b6⟩
    have hob := objP_last cs b
    obtain ⟨r, hr⟩ : ∃ r : Int, ((cs.length + 1 : Nat) : Int) = r := ⟨_, rfl⟩
    rw [hr] at hob ⊢
    obtain ⟨cs2, hcs2⟩ : ∃ c, c = cs ++ [(some (tObj, b), false)] := ⟨_, rfl⟩
    rw [← hcs2] at hob hM2
    have hl2 : cs2.length ≤ 50 := by have := HM.out.2.1; rw [hcs2]; simp; omega
    have ba := (Below.refl w2.heap.size w2).alloc (Nat.le_refl _) (.cells #[.int .i64 9, .int .i64 r, .string ⟨#[]⟩] 26)
    have hl := And.intro HM.out.1.mb.lt (And.intro HM.out.1.hx.hb.lt HM.out.1.hx.ar.blk.lt)
    have hN2 : w.heap.size ≤ w0.heap.size := HM.out.2.2.2.2
    have hb26 := HM.out.2.2.1.trans (b6.mono hN2)
    have HF : Hid (∃ O, FnS w w0.heap.size m H A B cv2 cs2 ps r b T w2.heap.size (ps.getD 1 0) 9 (atB mk) (ents2 0 name) O (w2.alloc (.cells #[.int .i64 9, .int .i64 r, .string ⟨#[]⟩] 26))) :=
      Lib.hid ⟨O2, hM2.below ba, by omega, hob, hB.below ba hB.lt, hTab.below ba, Blk.new _ _ _, fun x hx => by
        have h1 := hO x hx
        have h2 := hTab.lt x hx
        have h3 := HM.out.2.2.1.size
        exact ⟨by omega, by omega, by omega, h1.2.1, h1.2.2, by omega, by omega⟩, hN2, hb26.trans (ba.mono (by have := hb26.size; omega))⟩
    have HL2 : Hid (cs2.length ≤ 99) := Lib.hid (by omega)
    clear HM hM2 hB hTab hO hK hbl b6 hob hr hcs2 hl2 ba hl hN2 hb26
    go_wp2_with (fail)
    generalize w2.alloc (.cells #[.int .i64 9, .int .i64 r, .string ⟨#[]⟩] 26) = w3 at *
    generalize w2.heap.size = X at *
    refine (Tx.of_any name w3 (by have := HN.out; omega)).mono ?_
    rintro e w4 ⟨rfl, b4⟩
    have HF : Hid (∃ O, FnS w w0.heap.size m H A B cv2 cs2 ps r b T X (ps.getD 1 0) 9 (atB mk) (ents2 0 name) O w4) := Lib.hid (by obtain ⟨O, h⟩ := HF.out; exact ⟨O, h.below b4⟩)
    clear b4
    go_wp2_with (fail)
    refine (Tx.go_uS (Tx.unitsOf name) (unitsOf_fits name) w4 (by have := unitsOf_length name; have := HN.out; omega)).mono ?_
    rintro e w5 ⟨rfl, b5⟩
    have HF : Hid (∃ O, FnS w w0.heap.size m H A B cv2 cs2 ps r b T X (ps.getD 1 0) 9 (atB mk) (ents2 0 name) O w5) := Lib.hid (by obtain ⟨O, h⟩ := HF.out; exact ⟨O, h.below b5⟩)
    clear b5
    change Hid _ at HF
    obtain ⟨gn, hgn⟩ : ∃ g, Tx.goB (Tx.signs (Tx.unitsOf name)) = g := ⟨_, rfl⟩
    rw [hgn]
    have hgl : gn.length ≤ 1200 := by have := goN_len name; unfold goN at this; rw [hgn] at this; have := HN.out; omega
    have HGN := Lib.hid (And.intro hgn hgl)
    have t9 : ¬ 9223372036854775807 < 9 + gn.length := by omega
    clear hgn hgl
    obtain ⟨O, h⟩ := HF.out
    have x0 : w5.cell? ⟨X, 0, none⟩ = some (.int .i64 9) := by rw [h.box.cell]; rfl
    have x1 : w5.cell? ⟨X, 1, none⟩ = some (.int .i64 r) := by rw [h.box.cell]; rfl
    have x2 : w5.cell? ⟨X, 2, none⟩ = some (.string ⟨#[]⟩) := by rw [h.box.cell]; rfl
    have HF := Lib.hid h
    clear h
    go_wp2_with (fail)
    have hTT : ∀ W, Below w5.heap.size w5 W → Vx.Tb W := fun W hW => HT.out.below (HF.out.bel.trans (hW.mono HF.out.bel.size))
    have hs1 : Shs True (fun _ => False) m w5 cs2 0 (9, r, ⟨#[]⟩) (fnB ++ gn) := HF.out.shs hTT (keyS name) 4 true gn (by have := HGN.out.2; omega) (fun W e W' => get_ents2) (by rw [keyS_eq, ← HGN.out.1]; exact Shs.str 9 _ (unitsOf_fits name) (by have := unitsOf_length name; have := HN.out; omega)) 0 (by decide)
    refine (Show_any m 9 r ⟨#[]⟩ ⟨(fnB ++ gn).toArray⟩ (by have := HGN.out.2; show (fnB ++ gn).toArray.size ≤ _; rw [List.size_toArray]; simp; omega) _ (fun W hW => shs_show HF.out.ms (by have := HF.out.len; omega) hTT hs1 W hW)).mono ?_
    rintro e w6 ⟨rfl, b6⟩
    have HF := Lib.hid (HF.out.below b6)
    clear b6 hTT hs1 x0 x1 x2
    have eq1 : (⟨#[102, 117, 110, 99, 116, 105, 111, 110, 32]⟩ ++ ⟨gn.toArray⟩ : ByteArray) = ⟨(fnB ++ gn).toArray⟩ := ByteArray.ext (by first | rfl | (apply Array.ext'; simp [ByteArray.data_append]))
    try rw [eq1]
    go_upto_region 10 with fail
    clear t9 eq1
    refine wp_var0 (fun KV HKV => ?_)
    refine wp_region_till (m := 7) (S := (fun W => W.cell? ⟨m, 0, none⟩ = some (.pointer (some ⟨H, 0, none⟩)) ∧ W.cell? ⟨X, 0, none⟩ = some (.int .i64 9) ∧ W.cell? ⟨X, 1, none⟩ = some (.int .i64 r) ∧ W.cell? ⟨X, 2, none⟩ = some (.string ⟨#[]⟩))) (by kernel_rfl) ?_
    have e4 : w6.drew = w6.drewN 1 := rfl
    rw [e4]
    have HF := Lib.hid (HF.out.below (below_drw (Below.refl _ _) 1))
    have S0 : (w6.drewN 1).cell? ⟨m, 0, none⟩ = some (.pointer (some ⟨H, 0, none⟩)) ∧ (w6.drewN 1).cell? ⟨X, 0, none⟩ = some (.int .i64 9) ∧ (w6.drewN 1).cell? ⟨X, 1, none⟩ = some (.int .i64 r) ∧ (w6.drewN 1).cell? ⟨X, 2, none⟩ = some (.string ⟨#[]⟩) := ⟨by rw [HF.out.ms.mb.cell]; rfl, by rw [HF.out.box.cell]; rfl, by rw [HF.out.box.cell]; rfl, by rw [HF.out.box.cell]; rfl⟩
    clear e4
    generalize w6.drewN 1 = E1 at *
    change tillH _ _ _ _ _ _ 8 #[false, false, false, false, false, false, false, false] _ _
    refine tillH_takeAny (i := 0) (oi := ?oo1) (v := ?vv1) ?hi1 (by kernel_rfl) (by kernel_rfl) (by kernel_rfl) ?hq1 (by kernel_rfl) ?hy1 (fun _ => S0) ?hh1
    case hi1 => (simp only [List.getElem?_toArray, List.getElem?_cons_succ, List.getElem?_cons_zero]; rfl)
    case hq1 => exact fun _ _ _ h => h
    case hy1 => exact Or.inl ⟨by rfl, by (intro W; go_simp; (try with_reducible rfl))⟩
    (try simp only [Act.put, List.setIfInBounds_toArray, List.set_cons_zero, List.set_cons_succ])
    refine tillH_takeAny (i := 1) (oi := ?oo2) (v := ?vv2) ?hi2 (by kernel_rfl) (by kernel_rfl) (by kernel_rfl) ?hq2 (by kernel_rfl) ?hy2 (fun _ => S0) ?hh2
    case hi2 => (simp only [List.getElem?_toArray, List.getElem?_cons_succ, List.getElem?_cons_zero]; rfl)
    case hq2 => exact fun _ _ _ h => h
    case hy2 => exact Or.inl ⟨by rfl, by (intro W; go_simp; (try with_reducible rfl))⟩
    (try simp only [Act.put, List.setIfInBounds_toArray, List.set_cons_zero, List.set_cons_succ])
    refine tillH_takeAny (i := 2) (oi := ?oo3) (v := ?vv3) ?hi3 (by kernel_rfl) (by kernel_rfl) (by kernel_rfl) ?hq3 (by kernel_rfl) ?hy3 (fun _ => S0) ?hh3
    case hi3 => (simp only [List.getElem?_toArray, List.getElem?_cons_succ, List.getElem?_cons_zero]; rfl)
    case hq3 => exact fun _ _ _ h => h
    case hy3 => exact Or.inl ⟨by rfl, by (intro W; go_simp; (try with_reducible rfl))⟩
    (try simp only [Act.put, List.setIfInBounds_toArray, List.set_cons_zero, List.set_cons_succ])
    refine tillH_takeC [5] (i := 3) (oi := ?oo4) (v := ?vv4) ?hi4 (by kernel_rfl) (by kernel_rfl) (by kernel_rfl) ?hq4 (by kernel_rfl) (by kernel_rfl) (by kernel_rfl) ?hy4 S0 ?hh4
    case hi4 => (simp only [List.getElem?_toArray, List.getElem?_cons_succ, List.getElem?_cons_zero]; rfl)
    case hq4 => exact fun _ _ _ h => h
    case hy4 => exact Or.inl ⟨by rfl, by (intro W hSw; (try obtain ⟨s0, s1, s2, s3⟩ := hSw); go_simp; (try with_reducible rfl))⟩
    (try simp only [Act.put, List.setIfInBounds_toArray, List.set_cons_zero, List.set_cons_succ])
    refine tillH_takeC [5] (i := 4) (oi := ?oo5) (v := ?vv5) ?hi5 (by kernel_rfl) (by kernel_rfl) (by kernel_rfl) ?hq5 (by kernel_rfl) (by kernel_rfl) (by kernel_rfl) ?hy5 S0 ?hh5
    case hi5 => (simp only [List.getElem?_toArray, List.getElem?_cons_succ, List.getElem?_cons_zero]; rfl)
    case hq5 => exact fun _ _ _ h => h
    case hy5 => exact Or.inl ⟨by rfl, by (intro W hSw; (try obtain ⟨s0, s1, s2, s3⟩ := hSw); go_simp; (try with_reducible rfl))⟩
    (try simp only [Act.put, List.setIfInBounds_toArray, List.set_cons_zero, List.set_cons_succ])
    refine tillH_next (rs := [5]) (by kernel_rfl) (by simp) ?_
    refine NextH.cons rfl (fun K hK => ?_) NextH.nil
    go_simp
    refine HF.out.of.mono ?_
    rintro e E2 ⟨rfl, b6⟩
    have S1 : E2.cell? ⟨m, 0, none⟩ = some (.pointer (some ⟨H, 0, none⟩)) ∧ E2.cell? ⟨X, 0, none⟩ = some (.int .i64 9) ∧ E2.cell? ⟨X, 1, none⟩ = some (.int .i64 r) ∧ E2.cell? ⟨X, 2, none⟩ = some (.string ⟨#[]⟩) := ⟨(b6.cell (World.block_lt_of_cell? _ _ S0.1)).trans S0.1, (b6.cell (World.block_lt_of_cell? _ _ S0.2.1)).trans S0.2.1, (b6.cell (World.block_lt_of_cell? _ _ S0.2.2.1)).trans S0.2.2.1, (b6.cell (World.block_lt_of_cell? _ _ S0.2.2.2)).trans S0.2.2.2⟩
    have HF := Lib.hid (HF.out.below b6)
    clear b6
    refine hK.out _ _ (fun _ => S1) ?_
    clear hK K
    (try simp only [Act.put, List.setIfInBounds_toArray, List.set_cons_zero, List.set_cons_succ])
    refine tillH_next (rs := [6]) (by kernel_rfl) (by simp) ?_
    refine NextH.cons rfl (fun K hK => ?_) NextH.nil
    go_simp
    refine (val_name E2).mono ?_
    rintro e E3 ⟨rfl, b6⟩
    have S2 : E3.cell? ⟨m, 0, none⟩ = some (.pointer (some ⟨H, 0, none⟩)) ∧ E3.cell? ⟨X, 0, none⟩ = some (.int .i64 9) ∧ E3.cell? ⟨X, 1, none⟩ = some (.int .i64 r) ∧ E3.cell? ⟨X, 2, none⟩ = some (.string ⟨#[]⟩) := ⟨(b6.cell (World.block_lt_of_cell? _ _ S1.1)).trans S1.1, (b6.cell (World.block_lt_of_cell? _ _ S1.2.1)).trans S1.2.1, (b6.cell (World.block_lt_of_cell? _ _ S1.2.2.1)).trans S1.2.2.1, (b6.cell (World.block_lt_of_cell? _ _ S1.2.2.2)).trans S1.2.2.2⟩
    have HF := Lib.hid (HF.out.below b6)
    clear b6
    refine hK.out _ _ (fun _ => S2) ?_
    clear hK K
    (try simp only [Act.put, List.setIfInBounds_toArray, List.set_cons_zero, List.set_cons_succ])
    refine tillH_next (rs := [7]) (by kernel_rfl) (by simp) ?_
    refine NextH.cons rfl (fun K hK => ?_) NextH.nil
    go_simp
    refine (objdel_any b T 2 (ps.getD 1 0) false nilS nilP nilP nilS 9 (atB mk) (ents2 0 name) O nameK3 (keyS name) E3 HF.out.ob HF.out.tab (by decide) (by decide) (by simp [ents2]) ⟨⟨nameK3, keyS name, 4, false⟩, by simp [ents2], is_name (keyS name) 4⟩ (fun W hW => ((HF.out.below hW).own).mono (fun e W' hh => get_ents2 hh))).mono ?_
    rintro e E4 ⟨rfl, ⟨O', hp1, hp3⟩, hp2⟩
    rw [del_ents2] at hp1
    have HF := Lib.hid (HF.out.turn hp1 hp3 hp2)
    clear hp1 hp2 hp3 S0 S1 S2
    refine hK.out _ _ (fun h => absurd h (by simp)) ?_
    clear hK K
    (try simp only [Act.put, List.setIfInBounds_toArray, List.set_cons_zero, List.set_cons_succ])
    refine tillH_done (by kernel_rfl) ?_ _
    refine HKV.out _ _ ?_
    have x0 : E4.cell? ⟨X, 0, none⟩ = some (.int .i64 9) := by rw [HF.out.box.cell]; rfl
    have x1 : E4.cell? ⟨X, 1, none⟩ = some (.int .i64 r) := by rw [HF.out.box.cell]; rfl
    have x2 : E4.cell? ⟨X, 2, none⟩ = some (.string ⟨#[]⟩) := by rw [HF.out.box.cell]; rfl
    go_wp2_with (fail)
    have hTT : ∀ W, Below E4.heap.size E4 W → Vx.Tb W := fun W hW => HT.out.below (HF.out.bel.trans (hW.mono HF.out.bel.size))
    have hs1 : Shs True (fun _ => False) m E4 cs2 0 (9, r, ⟨#[]⟩) (fnB ++ [117, 110, 100, 101, 102, 105, 110, 101, 100]) := HF.out.shs hTT (0, 0, ⟨#[]⟩) 0 false _ (by decide) (fun W e W' => get_ents1) (Shs.undef 9) 0 (by decide)
    refine (Show_any m 9 r ⟨#[]⟩ ⟨(fnB ++ [117, 110, 100, 101, 102, 105, 110, 101, 100]).toArray⟩ (by decide) _ (fun W hW => shs_show HF.out.ms (by have := HF.out.len; omega) hTT hs1 W hW)).mono ?_
    rintro e w7 ⟨rfl, b6⟩
    have HF := Lib.hid (HF.out.below b6)
    clear b6 hTT hs1 x0 x1 x2
    go_upto_region 13 with fail
    refine wp_var0 (fun KV HKV => ?_)
    refine wp_region_till (m := 8) (S := (fun W => W.cell? ⟨m, 0, none⟩ = some (.pointer (some ⟨H, 0, none⟩)) ∧ W.cell? ⟨X, 0, none⟩ = some (.int .i64 9) ∧ W.cell? ⟨X, 1, none⟩ = some (.int .i64 r) ∧ W.cell? ⟨X, 2, none⟩ = some (.string ⟨#[]⟩))) (by kernel_rfl) ?_
    have e4 : w7.drew = w7.drewN 1 := rfl
    rw [e4]
    have HF := Lib.hid (HF.out.below (below_drw (Below.refl _ _) 1))
    have S0 : (w7.drewN 1).cell? ⟨m, 0, none⟩ = some (.pointer (some ⟨H, 0, none⟩)) ∧ (w7.drewN 1).cell? ⟨X, 0, none⟩ = some (.int .i64 9) ∧ (w7.drewN 1).cell? ⟨X, 1, none⟩ = some (.int .i64 r) ∧ (w7.drewN 1).cell? ⟨X, 2, none⟩ = some (.string ⟨#[]⟩) := ⟨by rw [HF.out.ms.mb.cell]; rfl, by rw [HF.out.box.cell]; rfl, by rw [HF.out.box.cell]; rfl, by rw [HF.out.box.cell]; rfl⟩
    clear e4
    generalize w7.drewN 1 = E5 at *
    change tillH _ _ _ _ _ _ 9 #[false, false, false, false, false, false, false, false, false] _ _
    refine tillH_takeAny (i := 0) (oi := ?oo6) (v := ?vv6) ?hi6 (by kernel_rfl) (by kernel_rfl) (by kernel_rfl) ?hq6 (by kernel_rfl) ?hy6 (fun _ => S0) ?hh6
    case hi6 => (simp only [List.getElem?_toArray, List.getElem?_cons_succ, List.getElem?_cons_zero]; rfl)
    case hq6 => exact fun _ _ _ h => h
    case hy6 => exact Or.inl ⟨by rfl, by (intro W; go_simp; (try with_reducible rfl))⟩
    (try simp only [Act.put, List.setIfInBounds_toArray, List.set_cons_zero, List.set_cons_succ])
    refine tillH_takeAny (i := 1) (oi := ?oo7) (v := ?vv7) ?hi7 (by kernel_rfl) (by kernel_rfl) (by kernel_rfl) ?hq7 (by kernel_rfl) ?hy7 (fun _ => S0) ?hh7
    case hi7 => (simp only [List.getElem?_toArray, List.getElem?_cons_succ, List.getElem?_cons_zero]; rfl)
    case hq7 => exact fun _ _ _ h => h
    case hy7 => exact Or.inl ⟨by rfl, by (intro W; go_simp; (try with_reducible rfl))⟩
    (try simp only [Act.put, List.setIfInBounds_toArray, List.set_cons_zero, List.set_cons_succ])
    refine tillH_takeAny (i := 2) (oi := ?oo8) (v := ?vv8) ?hi8 (by kernel_rfl) (by kernel_rfl) (by kernel_rfl) ?hq8 (by kernel_rfl) ?hy8 (fun _ => S0) ?hh8
    case hi8 => (simp only [List.getElem?_toArray, List.getElem?_cons_succ, List.getElem?_cons_zero]; rfl)
    case hq8 => exact fun _ _ _ h => h
    case hy8 => exact Or.inl ⟨by rfl, by (intro W; go_simp; (try with_reducible rfl))⟩
    (try simp only [Act.put, List.setIfInBounds_toArray, List.set_cons_zero, List.set_cons_succ])
    refine tillH_takeAny (i := 3) (oi := ?oo9) (v := ?vv9) ?hi9 (by kernel_rfl) (by kernel_rfl) (by kernel_rfl) ?hq9 (by kernel_rfl) ?hy9 (fun _ => S0) ?hh9
    case hi9 => (simp only [List.getElem?_toArray, List.getElem?_cons_succ, List.getElem?_cons_zero]; rfl)
    case hq9 => exact fun _ _ _ h => h
    case hy9 => exact Or.inl ⟨by rfl, by (intro W; go_simp; (try with_reducible rfl))⟩
    (try simp only [Act.put, List.setIfInBounds_toArray, List.set_cons_zero, List.set_cons_succ])
    refine tillH_takeC [6] (i := 4) (oi := ?oo10) (v := ?vv10) ?hi10 (by kernel_rfl) (by kernel_rfl) (by kernel_rfl) ?hq10 (by kernel_rfl) (by kernel_rfl) (by kernel_rfl) ?hy10 S0 ?hh10
    case hi10 => (simp only [List.getElem?_toArray, List.getElem?_cons_succ, List.getElem?_cons_zero]; rfl)
    case hq10 => exact fun _ _ _ h => h
    case hy10 => exact Or.inl ⟨by rfl, by (intro W hSw; (try obtain ⟨s0, s1, s2, s3⟩ := hSw); go_simp; (try with_reducible rfl))⟩
    (try simp only [Act.put, List.setIfInBounds_toArray, List.set_cons_zero, List.set_cons_succ])
    refine tillH_takeC [6] (i := 5) (oi := ?oo11) (v := ?vv11) ?hi11 (by kernel_rfl) (by kernel_rfl) (by kernel_rfl) ?hq11 (by kernel_rfl) (by kernel_rfl) (by kernel_rfl) ?hy11 S0 ?hh11
    case hi11 => (simp only [List.getElem?_toArray, List.getElem?_cons_succ, List.getElem?_cons_zero]; rfl)
    case hq11 => exact fun _ _ _ h => h
    case hy11 => exact Or.inl ⟨by rfl, by (intro W hSw; (try obtain ⟨s0, s1, s2, s3⟩ := hSw); go_simp; (try with_reducible rfl))⟩
    (try simp only [Act.put, List.setIfInBounds_toArray, List.set_cons_zero, List.set_cons_succ])
    refine tillH_takeAny (i := 7) (oi := ?oo12) (v := ?vv12) ?hi12 (by kernel_rfl) (by kernel_rfl) (by kernel_rfl) ?hq12 (by kernel_rfl) ?hy12 (fun _ => S0) ?hh12
    case hi12 => (simp only [List.getElem?_toArray, List.getElem?_cons_succ, List.getElem?_cons_zero]; rfl)
    case hq12 => exact fun _ _ _ h => h
    case hy12 => exact Or.inl ⟨by rfl, by (intro W; go_simp; (try with_reducible rfl))⟩
    (try simp only [Act.put, List.setIfInBounds_toArray, List.set_cons_zero, List.set_cons_succ])
    refine tillH_next (rs := [6]) (by kernel_rfl) (by simp) ?_
    refine NextH.cons rfl (fun K hK => ?_) NextH.nil
    go_simp
    refine HF.out.of.mono ?_
    rintro e E6 ⟨rfl, b6⟩
    have S1 : E6.cell? ⟨m, 0, none⟩ = some (.pointer (some ⟨H, 0, none⟩)) ∧ E6.cell? ⟨X, 0, none⟩ = some (.int .i64 9) ∧ E6.cell? ⟨X, 1, none⟩ = some (.int .i64 r) ∧ E6.cell? ⟨X, 2, none⟩ = some (.string ⟨#[]⟩) := ⟨(b6.cell (World.block_lt_of_cell? _ _ S0.1)).trans S0.1, (b6.cell (World.block_lt_of_cell? _ _ S0.2.1)).trans S0.2.1, (b6.cell (World.block_lt_of_cell? _ _ S0.2.2.1)).trans S0.2.2.1, (b6.cell (World.block_lt_of_cell? _ _ S0.2.2.2)).trans S0.2.2.2⟩
    have HF := Lib.hid (HF.out.below b6)
    clear b6
    refine hK.out _ _ (fun _ => S1) ?_
    clear hK K
    (try simp only [Act.put, List.setIfInBounds_toArray, List.set_cons_zero, List.set_cons_succ])
    refine tillH_next (rs := [8]) (by kernel_rfl) (by simp) ?_
    refine NextH.cons rfl (fun K hK => ?_) NextH.nil
    go_simp
    refine (vmown_any _ b T ⟨#[110, 97, 109, 101]⟩ (3, 7, ⟨#[]⟩) 7 ents1 [] O' E6 (by rw [HF.out.ob.cell]; rfl) HF.out.tab (by decide) nameK_size (by decide) (by simp)).mono ?_
    rintro e E7 ⟨rfl, ⟨O3, hp1, hp3⟩, hp2⟩
    rw [put_ents1] at hp1
    have HF := Lib.hid (HF.out.turn hp1 hp3 hp2)
    clear hp1 hp2 hp3 S0 S1
    refine hK.out _ _ (fun h => absurd h (by simp)) ?_
    clear hK K
    (try simp only [Act.put, List.setIfInBounds_toArray, List.set_cons_zero, List.set_cons_succ])
    refine tillH_done (by kernel_rfl) ?_ _
    refine HKV.out _ _ ?_
    have x0 : E7.cell? ⟨X, 0, none⟩ = some (.int .i64 9) := by rw [HF.out.box.cell]; rfl
    have x1 : E7.cell? ⟨X, 1, none⟩ = some (.int .i64 r) := by rw [HF.out.box.cell]; rfl
    have x2 : E7.cell? ⟨X, 2, none⟩ = some (.string ⟨#[]⟩) := by rw [HF.out.box.cell]; rfl
    go_wp2_with (fail)
    have hTT : ∀ W, Below E7.heap.size E7 W → Vx.Tb W := fun W hW => HT.out.below (HF.out.bel.trans (hW.mono HF.out.bel.size))
    have hs1 : Shs True (fun _ => False) m E7 cs2 0 (9, r, ⟨#[]⟩) (fnB ++ [55]) := HF.out.shs hTT (3, 7, ⟨#[]⟩) 7 true _ (by decide) (fun W e W' => get_ents7) (Shs.digit 9 7 (by decide)) 0 (by decide)
    refine (Show_any m 9 r ⟨#[]⟩ ⟨(fnB ++ [55]).toArray⟩ (by decide) _ (fun W hW => shs_show HF.out.ms (by have := HF.out.len; omega) hTT hs1 W hW)).mono ?_
    rintro e w8 ⟨rfl, b6⟩
    have HF := Lib.hid (HF.out.below b6)
    clear b6 hTT hs1 x0 x1 x2
    have x0 : w8.cell? ⟨X, 0, none⟩ = some (.int .i64 9) := by rw [HF.out.box.cell]; rfl
    have x1 : w8.cell? ⟨X, 1, none⟩ = some (.int .i64 r) := by rw [HF.out.box.cell]; rfl
    have x2 : w8.cell? ⟨X, 2, none⟩ = some (.string ⟨#[]⟩) := by rw [HF.out.box.cell]; rfl
    go_wp2_with (fail)
    have ba := (Below.refl w8.heap.size w8).alloc (Nat.le_refl _) (.cells #[.int .i64 9, .int .i64 r, .string ⟨#[]⟩, .int .i64 9, .int .i64 r, .string ⟨#[]⟩] 26)
    have hV := Blk.new w8 26 #[.int .i64 9, .int .i64 r, .string ⟨#[]⟩, .int .i64 9, .int .i64 r, .string ⟨#[]⟩]
    have HF := Lib.hid (HF.out.below ba)
    clear x0 x1 x2
    generalize w8.alloc (.cells #[.int .i64 9, .int .i64 r, .string ⟨#[]⟩, .int .i64 9, .int .i64 r, .string ⟨#[]⟩] 26) = w9 at *
    generalize w8.heap.size = g at *
    refine (HF.out.ms.array2 _ 2 2 (by have := HF.out.len; omega) (Nat.le_trans HF.out.ms.low.2.2.1 HF.out.ms.low.2.2.2)).mono ?_
    rintro e w10 ⟨b', T', cv3, rfl, hM3, hB3, hTb3, h3, hK3, b6, hU3, hO3⟩
    have HF2 := Lib.hid (HF.out.arr hM3 HL2.out hK3 b6 hU3 hO3)
    have hob := objP_last cs2 b'
    have hV3 := hK3 _ _ _ hV (by simp)
    obtain ⟨r', hr'⟩ : ∃ r : Int, ((cs2.length + 1 : Nat) : Int) = r := ⟨_, rfl⟩
    rw [hr'] at hob ⊢
    have HA := Lib.hid (And.intro hob (And.intro hB3 hV3))
    clear hM3 hB3 hTb3 h3 hK3 b6 hU3 hO3 hob hV3 hr' ba hV HF
    generalize cs2 ++ [(some (tObj, b'), false)] = cs3 at *
    go_wp2_with (fail)
    have hTT : ∀ W, Below w10.heap.size w10 W → Vx.Tb W := fun W hW => HT.out.below (HF2.out.bel.trans (hW.mono HF2.out.bel.size))
    have hs1 : Shs True (fun _ => False) m w10 cs3 1 (9, r, ⟨#[]⟩) (fnB ++ [55]) := HF2.out.shs hTT (3, 7, ⟨#[]⟩) 7 true _ (by decide) (fun W e W' => get_ents7) (Shs.digit 9 7 (by decide)) 1 (by decide)
    have hs2 := Shs.two HA.out.1 HA.out.2.1 HA.out.2.2 (by decide) hs1
    refine (Show_any m 9 r' ⟨#[]⟩ ⟨(91 :: (jn [fnB ++ [55], fnB ++ [55]] ++ [93])).toArray⟩ (by decide) _ (fun W hW => shs_show HF2.out.ms (by have := HF2.out.len; omega) hTT hs2 W hW)).mono ?_
    rintro e w11 ⟨rfl, b7⟩
    have HB := Lib.hid (HF2.out.bel.trans (b7.mono HF2.out.bel.size))
    clear hs1 hs2 hTT b7 HF2 HA
    go_wp2
    go_ret
    exact ⟨rfl, HB.out⟩
  · have t1 : decide ((name.size : Int) > 100) = true := by simp; omega
    clear hn
    go_enter Tryd.func5, Tryd.ntmps5
    go_wp2_with (fail)
    refine (fit_any _ HT.out).mono ?_
    rintro e w0 ⟨rfl, b0⟩
    go_wp2
    go_ret
    exact ⟨rfl, b0⟩
end Go.Proofs.YtdeboajjhpecbaaDoor.Hp

/- The statement ShowFunctions, from its walk. -/
set_option linter.unusedVariables false
set_option linter.unusedSimpArgs false
namespace Go.Proofs.YtdeboajjhpecbaaDoor
open Go.RowKit
theorem fn_said (name : ByteArray) (mk : Bool) (w : World) (wn : name.size ≤ maxLen) (hL : laidMetH Tryd.prog Rows.showFunctionsRow.laid w) :
    Calls Tryd.prog 5 #[.string name, .bool mk] w fun e w' => e = .returned (.bool true) ∧ Below w.heap.size w w' := by
  rw [Go.MakeChecks.laidMetH_plain _ _ _ (by kernel_rfl)] at hL
  exact Hp.fn_walk name mk w (tb_of w (Lib.laidMet.reads hL (.tail _ (.tail _ (.head _)))))
end Go.Proofs.YtdeboajjhpecbaaDoor
