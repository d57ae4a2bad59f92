/- The walk of the statement OtableRuns. -/
import Derived.Test.YtlgnjbdkkpjjaaaOtPlayA
import Derived.Test.YtlgnjbdkkpjjaaaOtPlayB
import Derived.Test.YtlgnjbdkkpjjaaaOtPlayC
import Derived.Test.YtlgnjbdkkpjjaaaOtPlayD
set_option linter.unusedVariables false
set_option linter.unusedSimpArgs false
namespace Go.Proofs.Ytlgnjbdkkpjjaaa
open Go.RowKit Go.Sort

theorem kind7 (K : Int) : ∃ kd : Nat, kd < 7 ∧ (wrap64 (K.tmod 7 + 7)).tmod 7 = (kd : Int) := by
  have h2 := Int.tmod_lt_of_pos K (show (0 : Int) < 7 by decide)
  have h3 := Int.lt_tmod_of_pos K (show (0 : Int) < 7 by decide)
  generalize K.tmod 7 = r at *
  have e : wrap64 (r + 7) = r + 7 := by unfold wrap64; omega
  rw [e, Int.tmod_eq_emod_of_nonneg (by omega)]
  exact ⟨((r + 7) % 7).toNat, by omega, by omega⟩
theorem seed_size (kk : Nat) (u : List Nat) (h : u.length ≤ 2000) : (Tx.uS (seedU kk u)).size ≤ 4000 := by
  have h1 : (seedU kk u).length ≤ 2000 := by unfold seedU; split <;> simp [h]
  have h2 := Tx.uS_size (seedU kk u)
  omega
/-- Both, as they stand behind so many calls. -/
def Stand (w0 w : World) (B T M j : Nat) : Prop := ∃ (A : List Ent) (D : List (Nat × Nat)) (O : Nat → Prop) (L : List Ent) (cl : Nat) (R : Nat → Prop) (lv cv dv : Value) (X : List Cu), Mem w0 w B T M A D O L cl R lv cv dv X ∧ Rel A D L cl X ∧ L.length ≤ j ∧ cl ≤ j ∧ X.length ≤ 40
theorem play_stand {w0 w : World} {B T M j : Nat} (h : Stand w0 w B T M j) (hj : j ≤ 400) (c : CallV) (hS : Tx.SliceR .u16 w c.a c.n c.cap (Tx.ints c.l)) (hf : Tx.Fits c.l) (hn : c.n ≤ 100) :
    Calls Try.prog 22 #[.pointer (some ⟨B, 0, none⟩), CallA c] w fun e w' => e = .returned (.bool true) ∧ Stand w0 w' B T M (j + 1) := by
  obtain ⟨A, D, O, L, cl, R, lv, cv, dv, X, hm, hr, hL, hcl, hX⟩ := h
  obtain ⟨kd, h7, hkd⟩ := kind7 c.kind
  obtain ⟨kk, hk, hK⟩ := seed_kk c.K
  have hlen : c.l.length = c.n := by have := hS.1; rwa [Tx.ints_length] at this
  have CA : ∀ W, Below w.heap.size w W → Calls Try.prog 19 #[SeedV c.K c.N c.a c.n c.cap] W (Ret (VK (kk, seedN kk c.N, Tx.uS (seedU kk c.l))) W) :=
    fun W hW => seed_any c.K c.N c.a c.n c.cap c.l kk W (Lib.hid hK) hk (hS.below hW) hf (by omega)
  have hks : (Tx.uS (seedU kk c.l)).size ≤ 4000 := seed_size kk c.l (by omega)
  have hcs : (kd = 0 ∨ kd = 1 ∨ kd = 3) ∨ kd = 2 ∨ kd = 4 ∨ (kd = 5 ∨ kd = 6) := by omega
  rcases hcs with h | h | h | h
  · exact play_013 w c _ j kd hm hr hL hcl hj hX hkd h hks CA
  · exact play_2 w c _ j kd hm hr hL hcl hj hX hkd h hks CA
  · exact play_4 w c _ j kd hm hr hL hcl hj hX hkd h hks CA
  · exact play_56 w c _ j kd hm hr hL hcl hj hX hkd h hks CA
theorem Stand.below {w0 w w' : World} {B T M j : Nat} (h : Stand w0 w B T M j) (b : Below w.heap.size w w') : Stand w0 w' B T M j := by
  obtain ⟨A, D, O, L, cl, R, lv, cv, dv, X, hm, r⟩ := h
  exact ⟨A, D, O, L, cl, R, lv, cv, dv, X, hm.below b, r⟩
theorem Stand.bel {w0 w : World} {B T M j : Nat} (h : Stand w0 w B T M j) : Below w0.heap.size w0 w := by
  obtain ⟨A, D, O, L, cl, R, lv, cv, dv, X, hm, r⟩ := h
  exact hm.st.bel
/-- The beginning. -/
theorem stand_new {w0 w : World} {T : Nat} {O : Nat → Prop} (h : St w0 w T [] [] O) : Stand w0 ((w.alloc (.cells #[.slice none 0 0, .int .i64 0] 54)).alloc (.cells #[.pointer (some ⟨T, 0, none⟩), .pointer (some ⟨w.heap.size, 0, none⟩), .slice none 0 0, .slice none 0 0] 57)) (w.heap.size + 1) T w.heap.size 0 := by
  have b1 : Below w.heap.size w (w.alloc (.cells #[.slice none 0 0, .int .i64 0] 54)) := (Below.refl _ _).alloc (Nat.le_refl _) _
  have b2 : Below w.heap.size w ((w.alloc (.cells #[.slice none 0 0, .int .i64 0] 54)).alloc (.cells #[.pointer (some ⟨T, 0, none⟩), .pointer (some ⟨w.heap.size, 0, none⟩), .slice none 0 0, .slice none 0 0] 57)) := b1.alloc (by simp) _
  have hB := Blk.new (w.alloc (.cells #[.slice none 0 0, .int .i64 0] 54)) 57 #[.pointer (some ⟨T, 0, none⟩), .pointer (some ⟨w.heap.size, 0, none⟩), .slice none 0 0, .slice none 0 0]
  rw [World.size_alloc] at hB
  have hM := (Blk.new w 54 #[.slice none 0 0, .int .i64 0]).alloc (.cells #[.pointer (some ⟨T, 0, none⟩), .pointer (some ⟨w.heap.size, 0, none⟩), .slice none 0 0, .slice none 0 0] 57)
  refine ⟨[], [], O, [], 0, (fun k => k = w.heap.size), .slice none 0 0, .slice none 0 0, .slice none 0 0, [], ⟨h.below b2, ⟨hM, World.ownsRow_nil _ _ _ _, rfl, fun g hg => (by simp [Value.ownBlock] at hg), fun k hk => by rw [hk]; exact hM.lt⟩, fun k hk hO => ?_, fun k hk => by rw [hk]; exact h.bel.size, ⟨hB, fun hk => ?_⟩, by have := h.bel.size; omega, ⟨World.ownsRow_nil _ _ _ _, fun g hg => (by simp [Value.ownBlock] at hg)⟩, ⟨World.ownsRow_nil _ _ _ _, fun g hg => (by simp [Value.ownBlock] at hg)⟩, fun x hx => (by cases hx), fun x hx => (by cases hx)⟩,
    ⟨rfl, fun e he => (by cases he), fun i j e f hi => (by simp at hi), fun x hx => (by cases hx), fun x hx => (by cases hx), fun x hx => (by cases hx), List.nodup_nil, List.nodup_nil, rfl⟩, Nat.le_refl _, Nat.le_refl _, Nat.zero_le _⟩
  · have := h.tab.lt k hO
    omega
  · rcases hk with hk | hk
    · have := h.tab.lt _ hk; omega
    · have hk' : w.heap.size + 1 = w.heap.size := hk
      omega
set_option maxHeartbeats 8000000 in
set_option maxRecDepth 100000 in
theorem runs_any (a : Option Addr) (n cap : Nat) (cs : List CallV) (w : World) (h : CallsR w a n cs) : Calls Try.prog 6 #[.slice a n cap] w (Ret (.bool true) w) := by
  have HC := Lib.hid h
  have hlen := h.len
  clear h
  go_enter Try.func6, Try.ntmps6
  go_wp2_with fail
  refine (fit_any w).mono ?_
  rintro e w1 ⟨rfl, b1⟩
  go_wp2_with fail
  refine (light_any a n cap cs w1 (HC.out.below b1)).mono ?_
  rintro e w2 ⟨lt, rfl, hl, b2⟩
  have bb := b1.trans (b2.mono b1.size)
  cases lt
  · go_wp2
    go_ret
    exact ⟨by simp, bb⟩
  · obtain ⟨hn4, hn1⟩ := hl rfl
    have HN := Lib.hid hn1
    clear hl hn1
    go_wp2_with fail
    refine (new_st w w2 bb).mono ?_
    rintro e w3 ⟨rfl, O3, S3, -, -⟩
    generalize w2.heap.size = T at *
    have HS := Lib.hid (stand_new S3)
    clear S3 b1 b2 bb
    go_upto_region 6 with fail
    generalize hM : w3.heap.size = M at *
    generalize ((w3.alloc (.cells #[.slice none 0 0, .int .i64 0] 54)).alloc (.cells #[.pointer (some ⟨T, 0, none⟩), .pointer (some ⟨M, 0, none⟩), .slice none 0 0, .slice none 0 0] 57)) = w4 at *
    generalize M + 1 = B at *
    clear hM
    go_wp2_with fail
    go_loopw [18] (fun i wr => ∃ j : Nat, j ≤ n ∧ i = .int .i64 (j : Int) ∧ Hid (Stand w wr B T M j)) (fun i _ => n - (intOf i).toNat)
    case atStart => exact ⟨0, Nat.zero_le _, rfl, HS⟩
    case round =>
      clear HS
      obtain ⟨j, hj, rfl, HS⟩ := hrel
      by_cases hlt : j < n
      · obtain ⟨c, hc⟩ : ∃ c, cs[j]? = some c := ⟨_, List.getElem?_eq_getElem (by omega)⟩
        have hcr := HC.out.below HS.out.bel
        obtain ⟨b, off, rfl, hbl, hcell⟩ := hcr.cells (by omega)
        have hcc := hcell j c hc
        have e0 : wr.cell? ⟨b, off + j * 6, none⟩ = some (.int .i64 c.kind) := hcc 0 (by decide)
        have e1 : wr.cell? ⟨b, off + j * 6 + 1, none⟩ = some (.int .i64 c.K) := hcc 1 (by decide)
        have e2 : wr.cell? ⟨b, off + j * 6 + 2, none⟩ = some (.int .i64 c.N) := hcc 2 (by decide)
        have e3 : wr.cell? ⟨b, off + j * 6 + 3, none⟩ = some (.slice c.a c.n c.cap) := hcc 3 (by decide)
        have e4 : wr.cell? ⟨b, off + j * 6 + 4, none⟩ = some (.int .i64 c.val) := hcc 4 (by decide)
        have e5 : wr.cell? ⟨b, off + j * 6 + 5, none⟩ = some (.int .i64 c.m) := hcc 5 (by decide)
        have t2 : decide ((j : Int) < (n : Int)) = true := by simp; omega
        have j0 : (0 : Int) ≤ (j : Int) := by omega
        have j1 : (j : Int) < (n : Int) := by omega
        have aw : IntKind.i64.wrap ((j : Int) + 1) = (j : Int) + 1 := IntWalk.i64_in _ (by omega)
        have ba : Below wr.heap.size wr (wr.alloc (.cells (CallC c) 59)) := (Below.refl _ _).alloc (Nat.le_refl _) _
        have hbx := Blk.new wr 59 (CallC c)
        have hrow := hcr.rows c (List.mem_of_getElem? hc)
        have hplay := play_stand (HS.out.below ba) (by omega) c (hrow.1.below ba) hrow.2 (HN.out c (List.mem_of_getElem? hc))
        have HP := Lib.hid hplay
        clear hcc hcell hc hcr hrow hplay ba HS
        go_upto_region 9 with fail
        generalize wr.alloc (.cells (CallC c) 59) = w5 at *
        generalize wr.heap.size = q at *
        have x0 : w5.cell? ⟨q, 0, none⟩ = some (.int .i64 c.kind) := by rw [hbx.cell]; rfl
        have x1 : w5.cell? ⟨q, 1, none⟩ = some (.int .i64 c.K) := by rw [hbx.cell]; rfl
        have x2 : w5.cell? ⟨q, 2, none⟩ = some (.int .i64 c.N) := by rw [hbx.cell]; rfl
        have x3 : w5.cell? ⟨q, 3, none⟩ = some (.slice c.a c.n c.cap) := by rw [hbx.cell]; rfl
        have x4 : w5.cell? ⟨q, 4, none⟩ = some (.int .i64 c.val) := by rw [hbx.cell]; rfl
        have x5 : w5.cell? ⟨q, 5, none⟩ = some (.int .i64 c.m) := by rw [hbx.cell]; rfl
        clear hbx
        go_wp2_with fail
        refine HP.out.mono ?_
        rintro e w6 ⟨rfl, hS6⟩
        have HS := Lib.hid hS6
        clear hS6 HP x0 x1 x2 x3 x4 x5
        go_wp2_with fail
        go_roundw
        case rel => exact ⟨j + 1, by omega, by go_num, HS⟩
        case measure => simp [intOf]; omega
      · have hjn : n = j := by omega
        subst hjn
        have t2 : decide ((n : Int) < (n : Int)) = false := by simp
        have be := HS.out.bel
        clear HS
        go_wp2
        go_ret
        exact ⟨rfl, be⟩
theorem runs_said (a : Option Addr) (n cap : Nat) (cs : List CallV) (w : World) (h : CallsR w a n cs) : Calls Try.prog 6 #[.slice a n cap] w fun e w' => e = .returned (.bool true) ∧ Below w.heap.size w w' :=
  runs_any a n cap cs w h
end Go.Proofs.Ytlgnjbdkkpjjaaa
