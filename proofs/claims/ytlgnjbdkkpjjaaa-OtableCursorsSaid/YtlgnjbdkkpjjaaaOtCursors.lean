/- The walk of the statement OtableCursors. -/
import Derived.Test.YtlgnjbdkkpjjaaaOtR
set_option linter.unusedVariables false
set_option linter.unusedSimpArgs false
namespace Go.Proofs.Ytlgnjbdkkpjjaaa
open Go.RowKit Go.Sort Go.Maps

theorem key_cur (n : Int) (w : World) : Calls Try.prog 11 #[.int .i64 n] w (Ret (VS 3 n ⟨#[]⟩) w) := by
  go_enter Try.func11, Try.ntmps11
  go_wp2
  refine bodyPost_ret (v := VS 3 n ⟨#[]⟩) (by simp [results, Try.results11, go_sem]) rfl ⟨rfl, (Below.refl _ _).alloc (Nat.le_refl _) _⟩
/-- Go's (s % n + n) % n. -/
def md (N : Nat) (s : Int) : Nat := ((s.tmod N + N).tmod N).toNat
theorem md_lt (N : Nat) (s : Int) (h : 1 ≤ N) : md N s < N := by
  have h3 := Int.lt_tmod_of_pos s (show (0 : Int) < N by omega)
  unfold md
  rw [Int.tmod_eq_emod_of_nonneg (by omega)]
  have := Int.emod_lt_of_pos (s.tmod N + N) (show (0 : Int) < N by omega)
  have := Int.emod_nonneg (s.tmod N + N) (show (N : Int) ≠ 0 by omega)
  omega
theorem md_eq (N : Nat) (s : Int) (h : 1 ≤ N ∧ N ≤ 60) : (wrap64 (s.tmod N + N)).tmod N = (md N s : Int) := by
  have h2 := Int.tmod_lt_of_pos s (show (0 : Int) < N by omega)
  have h3 := Int.lt_tmod_of_pos s (show (0 : Int) < N by omega)
  unfold md
  rw [Int.tmod_eq_emod_of_nonneg (show 0 ≤ s.tmod N + N by omega)]
  have e : wrap64 (s.tmod N + N) = s.tmod N + N := by unfold wrap64; omega
  rw [e, Int.tmod_eq_emod_of_nonneg (show 0 ≤ s.tmod N + N by omega)]
  have := Int.emod_nonneg (s.tmod N + N) (show (N : Int) ≠ 0 by omega)
  omega

def ptrC (c : Nat) : Value := .pointer (some ⟨c, 0, none⟩)
theorem new_cell (w : World) (x : Value) (t : TypeId) : ∀ j u, [x][j]? = some u → (w.alloc (.cells #[x] t)).cell? ((⟨w.heap.size, 0, none⟩ : Addr).add j) = some u :=
  World.news_of_block (cs := #[x]) (t := t) (fr := (0, 0)) (heap_alloc_new w _)
/-- The first loop over the steps. -/
structure L2 (w wr : World) (T N j : Nat) (cs ks : List Nat) (cv av : Value) (O : Nat → Prop) : Prop where
  st : St w wr T (cA N) (cs.zip ks) O
  lc : cs.length = j
  lk : ks.length = j
  rc : Rx wr O w.heap.size 31 cv j (cs.map ptrC)
  ra : Rx wr O w.heap.size 3 av j (ks.map natC)
  kl : ∀ k ∈ ks, k < N
/-- The loop over what is dropped. -/
structure L4 (w wr : World) (T N n1 b m : Nat) (cs ks G : List Nat) (cv av : Value) (O : Nat → Prop) : Prop where
  st : St w wr T (fG G (cA N)) (curD G cs ks) O
  lc : cs.length = n1
  lk : ks.length = n1
  rc : Rx wr O w.heap.size 31 cv n1 (cs.map ptrC)
  ra : Rx wr O w.heap.size 3 av n1 (ks.map natC)
  kl : ∀ k ∈ ks, k < N
  mp : Mx wr O b m G
  gl : ∀ g ∈ G, g < N
  hb : w.heap.size ≤ b
/-- The loops over the cursors: those from place i on are where they were; the one ahead of them (if pc tells so) has passed what is left of the first kk numbers. -/
structure L5 (w wr : World) (T N n1 b m : Nat) (cs ks G : List Nat) (cv av : Value) (i : Nat) (cur : Option (Nat × Nat)) (O : Nat → Prop) (D : List (Nat × Nat)) : Prop where
  st : St w wr T (fG G (cA N)) D O
  rc : Rx wr O w.heap.size 31 cv n1 (cs.map ptrC)
  ra : Rx wr O w.heap.size 3 av n1 (ks.map natC)
  mp : Mx wr O b m G
  rest : ∀ j c k, i ≤ j → cs[j]? = some c → ks[j]? = some k → (c, fp G k) ∈ D
  cur : ∀ x, cur = some x → (x.1, fp G x.2) ∈ D
  dl : D.length ≤ n1
theorem L5.stp {w wr w' : World} {T N n1 b m : Nat} {cs ks G : List Nat} {cv av : Value} {i : Nat} {cur cur' : Option (Nat × Nat)} {O O' : Nat → Prop} {D D' : List (Nat × Nat)} {i' : Nat} (h : L5 w wr T N n1 b m cs ks G cv av i cur O D) (s : Stp wr O w' O') (t : St w w' T (fG G (cA N)) D' O')
    (h1 : ∀ j c k, i' ≤ j → cs[j]? = some c → ks[j]? = some k → (c, fp G k) ∈ D') (h2 : ∀ x, cur' = some x → (x.1, fp G x.2) ∈ D') (h3 : D'.length ≤ n1) : L5 w w' T N n1 b m cs ks G cv av i' cur' O' D' :=
  ⟨t, h.rc.stp s, h.ra.stp s, h.mp.stp s, h1, h2, h3⟩
theorem L5.below {w wr w' : World} {T N n1 b m : Nat} {cs ks G : List Nat} {cv av : Value} {i : Nat} {cur : Option (Nat × Nat)} {O : Nat → Prop} {D : List (Nat × Nat)} (h : L5 w wr T N n1 b m cs ks G cv av i cur O D) (bl : Below wr.heap.size wr w') : L5 w w' T N n1 b m cs ks G cv av i cur O D :=
  ⟨h.st.below bl, h.rc.below bl, h.ra.below bl, h.mp.below bl, h.rest, h.cur, h.dl⟩
theorem row_at {w : World} {O : Nat → Prop} {B : Nat} {e : TypeId} {g n cap i : Nat} {xs : List Value} {x : Value} (h : Rx w O B e (.slice (some ⟨g, 0, none⟩) n cap) n xs) (hi : i < n) (hx : xs[i]? = some x) : w.cell? ⟨g, i, none⟩ = some x := by
  rw [h.own.cellAt i (by omega)]; exact hx
theorem zip_snoc (cs ks : List Nat) (c k : Nat) (h : cs.length = ks.length) : (cs ++ [c]).zip (ks ++ [k]) = cs.zip ks ++ [(c, k)] := by
  rw [List.zip_append h]; rfl
theorem bump_last (c n : Nat) (D : List (Nat × Nat)) (p : Nat) (h : ((D ++ [(c, p)]).map Prod.fst).Nodup) : bump c n (D ++ [(c, p)]) = D ++ [(c, n)] := by
  unfold bump
  rw [List.map_append, List.map_singleton, if_pos rfl]
  congr 1
  conv => rhs; rw [← List.map_id D]
  refine List.map_congr_left fun x hx => ?_
  rw [if_neg]
  · rfl
  · intro e
    rw [List.map_append, List.nodup_append] at h
    exact h.2.2 x.1 (List.mem_map_of_mem hx) c (by simp) e

set_option maxHeartbeats 16000000 in
set_option maxRecDepth 100000 in
theorem cursors_core (n : Int) (a1 : Option Addr) (n1 c1 : Nat) (l1 : List Int) (a2 : Option Addr) (n2 c2 : Nat) (l2 : List Int) (N : Nat) (w : World) (hN : 1 ≤ N ∧ N ≤ 60)
    (hn : wrap64 ((wrap64 (n.tmod 60 + 60)).tmod 60 + 1) = (N : Int)) (h1 : Tx.SliceR .i64 w a1 n1 c1 l1) (h2 : Tx.SliceR .i64 w a2 n2 c2 l2) (hn1 : n1 ≤ 20) (hn2 : n2 ≤ 200) :
    Calls Try.prog 3 #[.int .i64 n, .slice a1 n1 c1, .slice a2 n2 c2] w (Ret (.bool true) w) := by
  have hmm := @run_makeMap Try.prog
  obtain ⟨iP, pi, pz0, pz1, pz2⟩ := info_parts infoPC
  obtain ⟨iI, ii, iz0, iz1, iz2⟩ := info_parts Tx.infoInt
  have H1 := Lib.hid h1
  have H2 := Lib.hid h2
  clear h1 h2
  have hb1 : ¬ ((n1 : Int) > 20) := by omega
  have hb2 : ¬ ((n2 : Int) > 200) := by omega
  go_enter Try.func3, Try.ntmps3
  go_wp2_with fail
  refine (fit_any w).mono ?_
  rintro e w1 ⟨rfl, b⟩
  go_wp2_with fail
  refine (new_st w w1 b).mono ?_
  rintro e w2 ⟨rfl, O2, S2, -, -⟩
  generalize w1.heap.size = T at *
  clear b
  have HS := Lib.hid S2
  clear S2 hn hb1 hb2
  go_wp2_with fail
  go_loopw [47] (fun i wr => ∃ j : Nat, j ≤ N ∧ i = .int .i64 (j : Int) ∧ ∃ O, Hid (St w wr T (cA j) [] O)) (fun i _ => N - (intOf i).toNat)
  case atStart => exact ⟨0, Nat.zero_le _, rfl, _, HS⟩
  case round =>
    clear HS
    obtain ⟨j, hj, rfl, O, HR⟩ := hrel
    by_cases hlt : j < N
    · have t1 : decide ((j : Int) < (N : Int)) = true := by simp; omega
      have aw : IntKind.i64.wrap ((j : Int) + 1) = (j : Int) + 1 := IntWalk.i64_in _ (by omega)
      have nw : IntKind.i64.wrap (-(j : Int)) = -(j : Int) := IntWalk.i64_in _ (by omega)
      go_wp2_with fail
      refine (key_cur (j : Int) _).mono ?_
      rintro e w3 ⟨rfl, b3⟩
      have HR := Lib.hid (HR.out.below b3)
      clear b3
      go_wp2_with fail
      refine (key_cur (-(j : Int)) _).mono ?_
      rintro e w4 ⟨rfl, b4⟩
      have HR := Lib.hid (HR.out.below b4)
      clear b4
      go_wp2_with fail
      refine (put_st T _ _ O (kI j) (kI (-(j : Int))) 0 w w4 HR.out (Nat.zero_le _) (by rw [cA_len]; omega) (by simp)).mono ?_
      rintro e w5 ⟨rfl, O5, S5, -⟩
      rw [cA_put] at S5
      have HR := Lib.hid S5
      clear S5
      go_wp2_with fail
      go_roundw
      case rel => exact ⟨j + 1, by omega, by go_num, _, HR⟩
      case measure => simp [intOf]; omega
    · have hjN : N = j := by omega
      subst hjN
      have t1 : decide ((N : Int) < (N : Int)) = false := by simp
      have hN0 : ((N : Int) == 0) = false := by simp; omega
      go_wp2_with fail
      have hL : L2 w wr T N 0 [] [] (.slice none 0 0) (.slice none 0 0) O := ⟨HR.out, rfl, rfl, ⟨World.ownsRow_nil _ _ _ _, fun g hg => by simp [Value.ownBlock] at hg⟩, ⟨World.ownsRow_nil _ _ _ _, fun g hg => by simp [Value.ownBlock] at hg⟩, fun k hk => by cases hk⟩
      have HL := Lib.hid hL
      clear HR hL t1 hlt hj
      go_loopw [10, 11, 62] (fun s10 s11 i wr => ∃ (j : Nat) (cs ks : List Nat) (O : Nat → Prop) (cv av : Value), j ≤ n1 ∧ i = .int .i64 (j : Int) ∧ cv = s10 ∧ av = s11 ∧ Hid (L2 w wr T N j cs ks cv av O)) (fun _ _ i _ => n1 - (intOf i).toNat)
      case atStart => exact ⟨0, [], [], _, _, _, Nat.zero_le _, rfl, rfl, rfl, HL⟩
      case round =>
        clear HL
        obtain ⟨j, cs, ks, O, cv, av, hj, rfl, rfl, rfl, HL⟩ := hrel
        by_cases hlt : j < n1
        · obtain ⟨b, off, rfl, hbl, hcell⟩ := H1.out.2.2.2.2 (by omega)
          have hck := (HL.out.st.bel.cell (p := ⟨b, off + j, none⟩) hbl).trans (hcell j hlt)
          generalize l1.getD j 0 = s at hck
          clear hcell
          have t1 : decide ((j : Int) < (n1 : Int)) = true := by simp; omega
          have j0 : (0 : Int) ≤ (j : Int) := by omega
          have j1 : (j : Int) < (n1 : Int) := by omega
          have aw : IntKind.i64.wrap ((j : Int) + 1) = (j : Int) + 1 := IntWalk.i64_in _ (by omega)
          have mw := md_eq N s hN
          have ml := md_lt N s hN.1
          generalize md N s = k at mw ml
          go_wp2_with fail
          refine (cursor_st T (cA N) (cs.zip ks) O w _ HL.out.st (by have := HL.out.lc; have := HL.out.lk; simp; omega)).mono ?_
          rintro e w3 ⟨rfl, O3, S3, P3⟩
          have HC := Lib.hid (show Rx w3 O3 _ _ _ _ _ from HL.out.rc.stp P3)
          have HA := Lib.hid (show Rx w3 O3 _ _ _ _ _ from HL.out.ra.stp P3)
          have HS := Lib.hid S3
          have hlc := HL.out.lc
          have hlk := HL.out.lk
          have HKL := Lib.hid HL.out.kl
          clear HL P3 S3
          generalize wr.heap.size = c at *
          go_wp2_with fail
          go_loopw [76] (fun i wr => ∃ (p : Nat) (O : Nat → Prop), p ≤ k ∧ i = .int .i64 (p : Int) ∧ Hid (St w wr T (cA N) (cs.zip ks ++ [(c, p)]) O) ∧ Hid (Rx wr O w.heap.size 31 cv j (cs.map ptrC)) ∧ Hid (Rx wr O w.heap.size 3 av j (ks.map natC))) (fun i _ => k - (intOf i).toNat)
          case atStart => exact ⟨0, _, Nat.zero_le _, rfl, HS, HC, HA⟩
          case round =>
            clear HS HC HA hck
            obtain ⟨p, O, hp, rfl, HS, HC, HA⟩ := hrel
            by_cases hpk : p < k
            · have t2 : decide ((p : Int) < (k : Int)) = true := by simp; omega
              have bw : IntKind.i64.wrap ((p : Int) + 1) = (p : Int) + 1 := IntWalk.i64_in _ (by omega)
              have hget : (cA N)[p]? = some (eC p) := by unfold cA; rw [List.getElem?_map, List.getElem?_range (by omega)]; rfl
              have hN := next_st c T p (cA N) (cs.zip ks ++ [(c, p)]) O w wr HS.out (by simp) (by rw [cA_len]; omega) (by simp; omega) (eC p) hget
              rw [bump_last _ _ _ _ HS.out.tab.nodup] at hN
              go_wp2_with fail
              refine hN.mono ?_
              rintro e w4 ⟨rfl, O4, S4, P4⟩
              have HC := Lib.hid (show Rx w4 O4 _ _ _ _ _ from HC.out.stp P4)
              have HA := Lib.hid (show Rx w4 O4 _ _ _ _ _ from HA.out.stp P4)
              have HS := Lib.hid S4
              clear S4 P4 hget hN
              go_wp2_with fail
              go_roundw
              case rel => exact ⟨p + 1, _, by omega, by go_num, HS, HC, HA⟩
              case measure => simp [intOf]; omega
            · have hpe : p = k := by omega
              subst hpe
              have t2 : decide ((p : Int) < (p : Int)) = false := by simp
              have hrc := HC.out.own
              have hra := HA.out.own
              go_wp2_with (at_builtin; refine wpList_append_lies _ rfl _ _ 30 rfl w.heap.size 31 iP _ 1 8 Try.underlying30 pi pz0 pz1 pz2 rfl (by decide) _ _ _ rfl (hrc.alloc _) ⟨wr.heap.size, 0, none⟩ 1 1 [.pointer (some ⟨c, 0, none⟩)] rfl rfl (new_cell wr _ _) (by simp [Value.oneCell']) (by decide) (by unfold maxLen; omega) (by omega) (by have := HS.out.bel.size; simp; omega) _ rfl ?_)
              intro g cap w5 hown hgrow hat hgl
              obtain ⟨S5, C5, F5⟩ := push_all HS.out HC.out (.cells #[.pointer (some ⟨c, 0, none⟩)] 31) hgrow hown hat
              have A5 := F5 _ _ _ _ (by decide) HA.out
              have hra := A5.own
              have HS := Lib.hid S5
              have HC := Lib.hid C5
              have HA := Lib.hid A5
              clear hown hgrow hat hgl F5 S5 C5 A5 hrc
              go_wp2_with (at_builtin; refine wpList_append_lies _ rfl _ _ 22 rfl w.heap.size 3 iI _ 1 8 Try.underlying22 ii iz0 iz1 iz2 rfl (by decide) _ _ _ rfl (hra.alloc _) ⟨w5.heap.size, 0, none⟩ 1 1 [.int .i64 (p : Int)] rfl rfl (new_cell w5 _ _) (by simp [Value.oneCell']) (by decide) (by unfold maxLen; omega) (by omega) (by have := HS.out.bel.size; simp; omega) _ rfl ?_)
              intro g2 cap2 w6 hown hgrow hat hgl
              obtain ⟨S6, A6, F6⟩ := push_all HS.out HA.out (.cells #[.int .i64 (p : Int)] 3) hgrow hown hat
              have C6 := F6 _ _ _ _ (by decide) HC.out
              have hD : (cs ++ [c]).zip (ks ++ [p]) = cs.zip ks ++ [(c, p)] := zip_snoc _ _ _ _ (by omega)
              have HL := Lib.hid (show L2 w w6 T N (j + 1) (cs ++ [c]) (ks ++ [p]) (.slice (some ⟨g, 0, none⟩) (j + 1) cap) (.slice (some ⟨g2, 0, none⟩) (j + 1) cap2) O from
                ⟨by rw [hD]; exact S6, by simp [hlc], by simp [hlk], by rw [List.map_append]; exact C6, by rw [List.map_append]; exact A6, fun k hk => by
                  rcases List.mem_append.1 hk with hk | hk
                  · exact HKL.out k hk
                  · obtain rfl := List.mem_singleton.1 hk; exact ml⟩)
              clear hown hgrow hat hgl F6 S6 C6 A6 HS HC HA hD hra
              go_wp2_with fail
              go_roundw
              case rel => exact ⟨j + 1, _, _, _, _, _, by omega, by go_num, rfl, rfl, HL⟩
              case measure => simp [intOf]; omega
        · have hjn : n1 = j := by omega
          subst hjn
          have t1 : decide ((n1 : Int) < (n1 : Int)) = false := by simp
          clear hlt hj H1
          go_upto_region 27 with fail
          have hL4 : L4 w (wr.alloc (.map #[] 0)) T N n1 wr.heap.size 0 cs ks [] cv av O := by
            have bl : Below wr.heap.size wr (wr.alloc (.map #[] 0)) := (Below.refl _ _).alloc (Nat.le_refl _) _
            refine ⟨by rw [curD_nil, fG_nil]; exact HL.out.st.below bl, HL.out.lc, HL.out.lk, HL.out.rc.below bl, HL.out.ra.below bl, HL.out.kl, ⟨World.ownsMap_made wr _ _ _, fun hk => Nat.lt_irrefl _ (HL.out.st.tab.lt _ hk)⟩, fun g hg => (by cases hg), HL.out.st.bel.size⟩
          generalize wr.heap.size = b at *
          generalize wr.alloc (.map #[] 0) = w3 at *
          have HL4 := Lib.hid hL4
          clear hL4 HL
          go_wp2_with fail
          go_loopw [93] (fun i wr => ∃ (j : Nat) (G : List Nat) (O : Nat → Prop), j ≤ n2 ∧ i = .int .i64 (j : Int) ∧ Hid (L4 w wr T N n1 b j cs ks G cv av O)) (fun i _ => n2 - (intOf i).toNat)
          case atStart => exact ⟨0, [], _, Nat.zero_le _, rfl, HL4⟩
          case round =>
            clear HL4
            obtain ⟨j, G, O, hj, rfl, HL⟩ := hrel
            by_cases hlt : j < n2
            · obtain ⟨bd, off, rfl, hbl, hcell⟩ := H2.out.2.2.2.2 (by omega)
              have hck := (HL.out.st.bel.cell (p := ⟨bd, off + j, none⟩) hbl).trans (hcell j hlt)
              generalize l2.getD j 0 = s at hck
              clear hcell
              have t1 : decide ((j : Int) < (n2 : Int)) = true := by simp; omega
              have j0 : (0 : Int) ≤ (j : Int) := by omega
              have j1 : (j : Int) < (n2 : Int) := by omega
              have aw : IntKind.i64.wrap ((j : Int) + 1) = (j : Int) + 1 := IntWalk.i64_in _ (by omega)
              have mw := md_eq N s hN
              have ml := md_lt N s hN.1
              generalize md N s = k at mw ml
              have hkey := key_set (show k < 1000 by omega)
              have hown := HL.out.mp.own
              go_wp2_with (first | (at_mapUpdate; refine wpList_mapUpdate_own _ rfl _ _ _ 35 rfl 3 4 law3 Try.underlying35 (plainElem (H := Unit) Try.prog 4) b j _ rfl hown (by unfold maxLen; omega) _ _ _ rfl rfl hkey _ [] (plainElem_bool Try.underlying4 true) ?_; intro w4 hown1 hgrow1))
              obtain ⟨S4, M4, F4⟩ := set_put HL.out.st HL.out.mp HL.out.hb hown1 hgrow1
              have C4 := F4 _ _ _ _ _ HL.out.rc
              have A4 := F4 _ _ _ _ _ HL.out.ra
              have hlc := HL.out.lc
              have hlk := HL.out.lk
              have HF := Lib.hid (And.intro HL.out.kl (And.intro HL.out.gl HL.out.hb))
              have HS := Lib.hid S4
              have HM := Lib.hid M4
              have HC := Lib.hid C4
              have HA := Lib.hid A4
              clear hown1 hgrow1 S4 M4 F4 C4 A4 HL hown hkey hck
              refine (key_cur (k : Int) _).mono ?_
              rintro e w5 ⟨rfl, b5⟩
              have HM := Lib.hid (HM.out.below b5)
              have HC := Lib.hid (HC.out.below b5)
              have HA := Lib.hid (HA.out.below b5)
              have HS := Lib.hid (HS.out.below b5)
              clear b5
              go_wp2_with fail
              refine (delete_st T (fG G (cA N)) (curD G cs ks) O (kI k) w w5 HS.out (Nat.zero_le _) (by have := fG_len G N; omega) (by unfold curD; simp; omega) (curD_le G N cs ks HF.out.1)).mono ?_
              rintro e w6 ⟨rfl, O6, S6, P6⟩
              rw [fG_del, curD_del G k N cs ks HF.out.1] at S6
              have HL := Lib.hid (show L4 w w6 T N n1 b (j + 1) cs ks (G ++ [k]) cv av O6 from ⟨S6, hlc, hlk, HC.out.stp P6, HA.out.stp P6, HF.out.1, HM.out.stp P6, fun g hg => by
                rcases List.mem_append.1 hg with hg | hg
                · exact HF.out.2.1 g hg
                · obtain rfl := List.mem_singleton.1 hg; exact ml, HF.out.2.2⟩)
              clear S6 P6 HS HC HA HM HF
              go_wp2_with fail
              go_roundw
              case rel => exact ⟨j + 1, _, _, by omega, by go_num, HL⟩
              case measure => simp [intOf]; omega
            · have hjn : n2 = j := by omega
              subst hjn
              have t1 : decide ((n2 : Int) < (n2 : Int)) = false := by simp
              clear hlt hj H2
              obtain ⟨AC, capC, hcv, hAC⟩ := own_shape HL.out.rc.own
              obtain ⟨AA, capA, hav, hAA⟩ := own_shape HL.out.ra.own
              subst hcv hav
              have hlc := HL.out.lc
              have hlk := HL.out.lk
              have HK := Lib.hid HL.out.kl
              have HG := Lib.hid HL.out.gl
              have HN := Lib.hid (show cs.Nodup from by have := HL.out.st.tab.nodup; rwa [curD_fst G cs ks (by omega)] at this)
              have hL5 : L5 w wr T N n1 b n2 cs ks G (.slice AC n1 capC) (.slice AA n1 capA) 0 none O (curD G cs ks) := ⟨HL.out.st, HL.out.rc, HL.out.ra, HL.out.mp, fun j c k _ hc hk => curD_mem hc hk, fun x hx => (by cases hx), by unfold curD; simp; omega⟩
              have HL5 := Lib.hid hL5
              clear hL5 HL
              have HAC := Lib.hid hAC
              have HAA := Lib.hid hAA
              clear hAC hAA
              go_wp2_with fail
              go_loopw [114] (fun i wr => ∃ (j : Nat) (O : Nat → Prop) (D : List (Nat × Nat)), j ≤ n1 ∧ i = .int .i64 (j : Int) ∧ Hid (L5 w wr T N n1 b n2 cs ks G (.slice AC n1 capC) (.slice AA n1 capA) j none O D)) (fun i _ => n1 - (intOf i).toNat)
              case atStart => exact ⟨0, _, _, Nat.zero_le _, rfl, HL5⟩
              case round =>
                clear HL5
                obtain ⟨i, O, D, hj, rfl, HL⟩ := hrel
                by_cases hlt : i < n1
                · obtain ⟨gC, rfl⟩ := HAC.out (by omega)
                  obtain ⟨gA, rfl⟩ := HAA.out (by omega)
                  obtain ⟨c, hc⟩ : ∃ c, cs[i]? = some c := ⟨_, List.getElem?_eq_getElem (by omega)⟩
                  obtain ⟨k0, hk0⟩ : ∃ k, ks[i]? = some k := ⟨_, List.getElem?_eq_getElem (by omega)⟩
                  have xA : wr.cell? ⟨gA, i, none⟩ = some (.int .i64 (k0 : Int)) := row_at HL.out.ra hlt (by rw [List.getElem?_map, hk0]; rfl)
                  have hkN : k0 < N := HK.out k0 (List.mem_of_getElem? hk0)
                  have HCI := Lib.hid hc
                  have t1 : decide ((i : Int) < (n1 : Int)) = true := by simp; omega
                  have i0 : (0 : Int) ≤ (i : Int) := by omega
                  have i1 : (i : Int) < (n1 : Int) := by omega
                  have aw : IntKind.i64.wrap ((i : Int) + 1) = (i : Int) + 1 := IntWalk.i64_in _ (by omega)
                  have HL5 := Lib.hid (show L5 w wr T N n1 b n2 cs ks G (.slice (some ⟨gC, 0, none⟩) n1 capC) (.slice (some ⟨gA, 0, none⟩) n1 capA) (i + 1) (some (c, k0)) O D from ⟨HL.out.st, HL.out.rc, HL.out.ra, HL.out.mp, fun j c k h => HL.out.rest j c k (by omega), fun x hx => by cases hx; exact HL.out.rest i c k0 (Nat.le_refl _) hc hk0, HL.out.dl⟩)
                  clear hc hk0 HL
                  go_wp2_with fail
                  go_loopw [21] (fun v wr => ∃ (kk : Nat) (O : Nat → Prop) (D : List (Nat × Nat)), kk ≤ N ∧ v = .int .i64 (kk : Int) ∧ Hid (L5 w wr T N n1 b n2 cs ks G (.slice (some ⟨gC, 0, none⟩) n1 capC) (.slice (some ⟨gA, 0, none⟩) n1 capA) (i + 1) (some (c, kk)) O D)) (fun v _ => N - (intOf v).toNat)
                  case atStart => exact ⟨k0, _, _, by omega, rfl, HL5⟩
                  case round =>
                    clear HL5 xA
                    obtain ⟨kk, O, D, hkk, rfl, HL⟩ := hrel
                    have xC : wr.cell? ⟨gC, i, none⟩ = some (.pointer (some ⟨c, 0, none⟩)) := row_at HL.out.rc hlt (by rw [List.getElem?_map, HCI.out]; rfl)
                    by_cases hklt : kk < N
                    · have t2 : decide ((kk : Int) < (N : Int)) = true := by simp; omega
                      have kw : IntKind.i64.wrap ((kk : Int) + 1) = (kk : Int) + 1 := IntWalk.i64_in _ (by omega)
                      have nw : IntKind.i64.wrap (-(kk : Int)) = -(kk : Int) := IntWalk.i64_in _ (by omega)
                      have hlook := look_set (k := kk) HL.out.mp (by omega)
                      rcases hgk : G.contains kk with _ | _
                      · rw [hgk] at hlook
                        have hN := next_st c T (fp G kk) _ D O w wr HL.out.st (HL.out.cur _ rfl) (by have := fG_len G N; omega) (by have := HL.out.dl; omega) (eC kk) (fG_get G kk N hklt hgk)
                        go_wp2_with fail
                        refine hN.mono ?_
                        rintro e w4 ⟨rfl, O4, S4, P4⟩
                        obtain ⟨S5, P5, fB, sB⟩ := two_boxes S4 27 27 #[.int .i64 3, .int .i64 (kk : Int), .string ⟨#[]⟩] #[.int .i64 3, .int .i64 (-(kk : Int)), .string ⟨#[]⟩]
                        have HL6 := Lib.hid (show L5 w _ T N n1 b n2 cs ks G (.slice (some ⟨gC, 0, none⟩) n1 capC) (.slice (some ⟨gA, 0, none⟩) n1 capA) (i + 1) (some (c, kk + 1)) O4 (bump c (fp G kk + 1) D) from HL.out.stp (P4.trans P5) S5 (fun j c' k' h1 h2 h3 => bump_other (HL.out.rest j c' k' h1 h2 h3) (fun e => by
                            have e' : c' = c := e
                            subst e'
                            have := cs_inj HN.out h2 HCI.out
                            omega)) (fun x hx => by cases hx; rw [fp_succ, hgk]; exact bump_mem (HL.out.cur _ rfl)) (by rw [bump_len]; exact HL.out.dl))
                        clear S4 S5 P4 P5 hN hlook xC HL
                        go_upto_region 42 with fail
                        generalize w4.heap.size = kb at *
                        generalize ((w4.alloc (SC 3 (kk : Int) ⟨#[]⟩)).alloc (SC 3 (-(kk : Int)) ⟨#[]⟩)) = w5 at *
                        have f0 : w5.cell? ⟨kb, 0, none⟩ = some (.int .i64 3) := by rw [fB.cell]; rfl
                        have Qf0 := fun d os => cell_regrown f0 d os
                        clear f0
                        have f1 : w5.cell? ⟨kb, 1, none⟩ = some (.int .i64 (kk : Int)) := by rw [fB.cell]; rfl
                        have Qf1 := fun d os => cell_regrown f1 d os
                        clear f1
                        have f2 : w5.cell? ⟨kb, 2, none⟩ = some (.string ⟨#[]⟩) := by rw [fB.cell]; rfl
                        have Qf2 := fun d os => cell_regrown f2 d os
                        clear f2
                        have s0 : w5.cell? ⟨kb + 1, 0, none⟩ = some (.int .i64 3) := by rw [sB.cell]; rfl
                        have Qs0 := fun d os => cell_regrown s0 d os
                        clear s0
                        have s1 : w5.cell? ⟨kb + 1, 1, none⟩ = some (.int .i64 (-(kk : Int))) := by rw [sB.cell]; rfl
                        have Qs1 := fun d os => cell_regrown s1 d os
                        clear s1
                        have s2 : w5.cell? ⟨kb + 1, 2, none⟩ = some (.string ⟨#[]⟩) := by rw [sB.cell]; rfl
                        have Qs2 := fun d os => cell_regrown s2 d os
                        clear s2
                        have up := fun d os => HL6.out.below (below_regrown w5 d os)
                        have D1 := fun d os => Calls.regrown_of (key_cur (kk : Int) (grow (redrawn w5 d) os))
                        have D2 := fun d os => Calls.regrown_of (key_cur (-(kk : Int)) (grow (redrawn w5 d) os))
                        clear fB sB HL6
                        refine wp_region_quiet_below (by kernel_rfl) (by kernel_rfl) ?_
                        repeat (first | go_big_quiet_step (first | with_reducible exact D1 _ _ | with_reducible exact D2 _ _) | quiet_step (first | with_reducible exact D1 _ _ | with_reducible exact D2 _ _))
                        refine wpQuiet_nil ?_
                        intro _ hw'
                        obtain ⟨⟨dq, osq⟩, hw''⟩ := hw'
                        subst hw''
                        have HL := Lib.hid (up dq osq)
                        clear D1 D2 up Qf0 Qf1 Qf2 Qs0 Qs1 Qs2
                        generalize grow (redrawn w5 dq) osq = w6 at *
                        go_wp2_with fail
                        go_roundw
                        case rel => exact ⟨kk + 1, _, _, by omega, by go_num, HL⟩
                        case measure => simp [intOf]; omega
                      · rw [hgk] at hlook
                        have HL := Lib.hid (show L5 w wr T N n1 b n2 cs ks G (.slice (some ⟨gC, 0, none⟩) n1 capC) (.slice (some ⟨gA, 0, none⟩) n1 capA) (i + 1) (some (c, kk + 1)) O D from ⟨HL.out.st, HL.out.rc, HL.out.ra, HL.out.mp, HL.out.rest, fun x hx => by cases hx; rw [fp_succ, hgk]; exact HL.out.cur _ rfl, HL.out.dl⟩)
                        go_wp2_with fail
                        go_roundw
                        case rel => exact ⟨kk + 1, _, _, by omega, by go_num, HL⟩
                        case measure => simp [intOf]; omega
                    · have hkn : N = kk := by omega
                      subst hkn
                      have t2 : decide ((N : Int) < (N : Int)) = false := by simp
                      have hE := next_end c T (fp G N) (fG G (cA N)) D O w wr HL.out.st (HL.out.cur _ rfl) (by have := fG_len G N; omega) (by have := HL.out.dl; omega) (fG_end G N)
                      go_wp2_with fail
                      refine hE.mono ?_
                      rintro e w4 ⟨rfl, O4, D4, S4, hD4, hl4, ⟨aa, BC⟩, P4⟩
                      obtain ⟨S5, P5, -, -⟩ := two_boxes S4 27 27 #[.int .i64 0, .int .i64 0, .string ⟨#[]⟩] #[.int .i64 0, .int .i64 0, .string ⟨#[]⟩]
                      have BC := BC.stp P5
                      have HL6 := Lib.hid (show L5 w _ T N n1 b n2 cs ks G (.slice (some ⟨gC, 0, none⟩) n1 capC) (.slice (some ⟨gA, 0, none⟩) n1 capA) (i + 1) none O4 D4 from HL.out.stp (P4.trans P5) S5 (fun j c' k' h1 h2 h3 => (hD4 _).2 ⟨HL.out.rest j c' k' h1 h2 h3, fun e => by
                          have e' : c' = c := e
                          subst e'
                          have := cs_inj HN.out h2 HCI.out
                          omega⟩) (fun x hx => by cases hx) (by have := HL.out.dl; omega))
                      clear S4 S5 P4 P5 hE xC HL hD4 hl4
                      go_upto_region 45 with fail
                      generalize w4.heap.size = kb at *
                      generalize ((w4.alloc (SC 0 0 ⟨#[]⟩)).alloc (SC 0 0 ⟨#[]⟩)) = w5 at *
                      have xC : w5.cell? ⟨gC, i, none⟩ = some (.pointer (some ⟨c, 0, none⟩)) := row_at HL6.out.rc hlt (by rw [List.getElem?_map, HCI.out]; rfl)
                      go_wp2_with fail
                      refine (open_no c aa w5 BC.blk).mono ?_
                      rintro e w6 ⟨rfl, rfl⟩
                      go_wp2_with fail
                      go_roundw
                      case rel => exact ⟨i + 1, _, _, by omega, by go_num, HL6⟩
                      case measure => simp [intOf]; omega
                · have hin : n1 = i := by omega
                  subst hin
                  have t1 : decide ((n1 : Int) < (n1 : Int)) = false := by simp
                  have HT := tlen_any T _ _ O wr HL.out.st.tab
                  have hsz : (fG G (cA N)).length + Maps.size (SetD G) = N := SetD_size G N HG.out
                  have hmp := HL.out.mp.own
                  have be := HL.out.st.bel
                  obtain ⟨ln, hln⟩ : ∃ ln, (fG G (cA N)).length = ln := ⟨_, rfl⟩
                  obtain ⟨sz, hszz⟩ : ∃ sz, Maps.size (SetD G) = sz := ⟨_, rfl⟩
                  rw [hln] at HT hsz
                  rw [hszz] at hsz
                  have sw : IntKind.i64.wrap ((N : Int) - (sz : Int)) = (ln : Int) := by rw [IntWalk.i64_in _ (by omega)]; omega
                  clear HL hln
                  go_wp2_with fail
                  refine HT.mono ?_
                  rintro e w4 ⟨rfl, rfl⟩
                  go_wp2_with (at_len; refine wpList_len_own _ rfl _ 35 rfl 3 4 Try.underlying35 _ b n2 (SetD G) rfl hmp ?_; rw [hszz])
                  go_ret
                  exact ⟨by simp, be⟩
set_option maxHeartbeats 1000000 in
set_option maxRecDepth 100000 in
theorem cursors_big (n : Int) (a1 : Option Addr) (n1 c1 : Nat) (a2 : Option Addr) (n2 c2 : Nat) (w : World) (h : 20 < n1 ∨ (n1 ≤ 20 ∧ 200 < n2)) :
    Calls Try.prog 3 #[.int .i64 n, .slice a1 n1 c1, .slice a2 n2 c2] w (Ret (.bool true) w) := by
  go_enter Try.func3, Try.ntmps3
  go_wp2_with fail
  refine (fit_any w).mono ?_
  rintro e w1 ⟨rfl, b⟩
  rcases h with h | ⟨h1, h2⟩
  · have t1 : (n1 : Int) > 20 := by omega
    go_wp2
    go_ret
    exact ⟨by simp, b⟩
  · have t1 : ¬ ((n1 : Int) > 20) := by omega
    have t2 : (n2 : Int) > 200 := by omega
    go_wp2
    go_ret
    exact ⟨by simp, b⟩
theorem cursors_said (n : Int) (a1 : Option Addr) (n1 c1 : Nat) (z1 : List Int) (a2 : Option Addr) (n2 c2 : Nat) (z2 : List Int) (w : World) (wn : (Lit.int .i64 n).wf = true) (h1 : Tx.IsRow .i64 w a1 n1 c1 z1) (h2 : Tx.IsRow .i64 w a2 n2 c2 z2) :
    Calls Try.prog 3 #[.int .i64 n, .slice a1 n1 c1, .slice a2 n2 c2] w fun e w' => e = .returned (.bool true) ∧ Below w.heap.size w w' := by
  by_cases g1 : 20 < n1
  · exact cursors_big n a1 n1 c1 a2 n2 c2 w (.inl g1)
  by_cases g2 : 200 < n2
  · exact cursors_big n a1 n1 c1 a2 n2 c2 w (.inr ⟨by omega, g2⟩)
  obtain ⟨q, hq, hn⟩ : ∃ q : Nat, (1 ≤ q ∧ q ≤ 60) ∧ wrap64 ((wrap64 (n.tmod 60 + 60)).tmod 60 + 1) = (q : Int) := by
    have h2 := Int.tmod_lt_of_pos n (show (0 : Int) < 60 by decide)
    have h3 := Int.lt_tmod_of_pos n (show (0 : Int) < 60 by decide)
    generalize n.tmod 60 = r at *
    have e : wrap64 (r + 60) = r + 60 := by unfold wrap64; omega
    rw [e, Int.tmod_eq_emod_of_nonneg (by omega)]
    have e2 : wrap64 ((r + 60) % 60 + 1) = (r + 60) % 60 + 1 := by unfold wrap64; omega
    rw [e2]
    exact ⟨((r + 60) % 60 + 1).toNat, by omega, by omega⟩
  exact cursors_core n a1 n1 c1 _ a2 n2 c2 _ q w hq hn (Tx.sliceR_in h1).1 (Tx.sliceR_in h2).1 (by omega) (by omega)
end Go.Proofs.Ytlgnjbdkkpjjaaa
