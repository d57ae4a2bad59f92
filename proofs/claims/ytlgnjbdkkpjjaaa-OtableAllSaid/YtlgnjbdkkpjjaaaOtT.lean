/- Contracts of the law's light and same. -/
import Derived.Test.YtlgnjbdkkpjjaaaOtS
set_option linter.unusedVariables false
set_option linter.unusedSimpArgs false
namespace Go.Proofs.Ytlgnjbdkkpjjaaa
open Go.RowKit Go.Sort

/-- A call as it came in. -/
structure CallV where
  kind : Int
  K : Int
  N : Int
  a : Option Addr
  n : Nat
  cap : Nat
  l : List Nat
  val : Int
  m : Int
abbrev CallA (c : CallV) : Value := .agg #[.int .i64 c.kind, .int .i64 c.K, .int .i64 c.N, .slice c.a c.n c.cap, .int .i64 c.val, .int .i64 c.m]
abbrev CallC (c : CallV) : Array Value := #[.int .i64 c.kind, .int .i64 c.K, .int .i64 c.N, .slice c.a c.n c.cap, .int .i64 c.val, .int .i64 c.m]
def callC (c : CallV) : List Value := [.int .i64 c.kind, .int .i64 c.K, .int .i64 c.N, .slice c.a c.n c.cap, .int .i64 c.val, .int .i64 c.m]
/-- Calls as a slice has them. -/
structure CallsR (w : World) (a : Option Addr) (n : Nat) (cs : List CallV) : Prop where
  len : cs.length = n
  cells : 0 < n → ∃ b off, a = some ⟨b, off, none⟩ ∧ b < w.heap.size ∧ ∀ (i : Nat) (c : CallV), cs[i]? = some c → ∀ j, j < 6 → w.cell? ⟨b, off + i * 6 + j, none⟩ = (callC c)[j]?
  rows : ∀ c ∈ cs, Tx.SliceR .u16 w c.a c.n c.cap (Tx.ints c.l) ∧ Tx.Fits c.l
theorem CallsR.below {w w' : World} {a : Option Addr} {n : Nat} {cs : List CallV} (h : CallsR w a n cs) (b : Below w.heap.size w w') : CallsR w' a n cs :=
  ⟨h.len, fun hn => by
    obtain ⟨g, off, e, hg, hc⟩ := h.cells hn
    exact ⟨g, off, e, Nat.lt_of_lt_of_le hg b.size, fun i c hi j hj => (b.cell (p := ⟨g, off + i * 6 + j, none⟩) hg).trans (hc i c hi j hj)⟩, fun c hc => ⟨(h.rows c hc).1.below b, (h.rows c hc).2⟩⟩

set_option maxHeartbeats 4000000 in
set_option maxRecDepth 100000 in
theorem light_any (a : Option Addr) (n cap : Nat) (cs : List CallV) (w : World) (h : CallsR w a n cs) :
    Calls Try.prog 21 #[.slice a n cap] w fun e w' => ∃ b, e = .returned (.bool b) ∧ (b = true → n ≤ 400 ∧ ∀ c ∈ cs, c.n ≤ 100) ∧ Below w.heap.size w w' := by
  have HC := Lib.hid h
  have hlen := h.len
  clear h
  by_cases hb : 400 < n
  · have t1 : (n : Int) > 400 := by omega
    go_enter Try.func21, Try.ntmps21
    go_wp2
    go_ret
    exact ⟨false, rfl, fun h => (by cases h), Below.refl _ _⟩
  · have t1 : ¬ ((n : Int) > 400) := by omega
    go_enter Try.func21, Try.ntmps21
    go_wp2_with fail
    clear t1
    go_loopw [10] (fun i wr => ∃ j : Nat, j ≤ n ∧ i = .int .i64 (j : Int) ∧ Hid (∀ c ∈ cs.take j, c.n ≤ 100) ∧ Below w.heap.size w wr) (fun i _ => n - (intOf i).toNat)
    case atStart => exact ⟨0, Nat.zero_le _, rfl, Lib.hid (fun c hc => by simp at hc), Below.refl _ _⟩
    case round =>
      obtain ⟨j, hj, rfl, HT, hbr⟩ := hrel
      by_cases hlt : j < n
      · obtain ⟨c, hc⟩ : ∃ c, cs[j]? = some c := ⟨_, List.getElem?_eq_getElem (by omega)⟩
        obtain ⟨b, off, rfl, hbl, hcell⟩ := (HC.out.below hbr).cells (by omega)
        have hcc := hcell j c hc
        have e0 : wr.cell? ⟨b, off + j * 6, none⟩ = some (.int .i64 c.kind) := hcc 0 (by decide)
        have e1 : wr.cell? ⟨b, off + j * 6 + 1, none⟩ = some (.int .i64 c.K) := hcc 1 (by decide)
        have e2 : wr.cell? ⟨b, off + j * 6 + 2, none⟩ = some (.int .i64 c.N) := hcc 2 (by decide)
        have e3 : wr.cell? ⟨b, off + j * 6 + 3, none⟩ = some (.slice c.a c.n c.cap) := hcc 3 (by decide)
        have e4 : wr.cell? ⟨b, off + j * 6 + 4, none⟩ = some (.int .i64 c.val) := hcc 4 (by decide)
        have e5 : wr.cell? ⟨b, off + j * 6 + 5, none⟩ = some (.int .i64 c.m) := hcc 5 (by decide)
        have t2 : decide ((j : Int) < (n : Int)) = true := by simp; omega
        have j0 : (0 : Int) ≤ (j : Int) := by omega
        have j1 : (j : Int) < (n : Int) := by omega
        have aw : IntKind.i64.wrap ((j : Int) + 1) = (j : Int) + 1 := IntWalk.i64_in _ (by omega)
        have hbx := Blk.new wr 59 (CallC c)
        have hb2 : Below w.heap.size w (wr.alloc (.cells (CallC c) 59)) := hbr.alloc hbr.size _
        have HX := Lib.hid hc
        have HBX := Lib.hid hbx
        have HB2 := Lib.hid hb2
        clear hcc hcell hc hbx hb2
        go_upto_region 6 with fail
        have x3 : (wr.alloc (.cells (CallC c) 59)).cell? ⟨wr.heap.size, 3, none⟩ = some (.slice c.a c.n c.cap) := by rw [HBX.out.cell]; rfl
        generalize wr.alloc (.cells (CallC c) 59) = w2 at *
        by_cases hc : c.n ≤ 100
        · have t3 : decide ((c.n : Int) > 100) = false := by simp; omega
          have t4 : decide (100 < (c.n : Int)) = false := t3
          go_wp2_with fail
          go_roundw
          case rel =>
            refine ⟨j + 1, by omega, by go_num, Lib.hid fun x hx => ?_, HB2.out⟩
            rw [List.take_add_one, HX.out] at hx
            rcases List.mem_append.1 hx with hx | hx
            · exact HT.out x hx
            · obtain rfl := List.mem_singleton.1 hx; exact hc
          case measure => simp [intOf]; omega
        · have t3 : decide ((c.n : Int) > 100) = true := by simp; omega
          have t4 : decide (100 < (c.n : Int)) = true := t3
          go_wp2
          go_ret
          exact ⟨false, rfl, fun h => (by cases h), HB2.out⟩
      · have hjn : n = j := by omega
        subst hjn
        have t2 : decide ((n : Int) < (n : Int)) = false := by simp
        go_wp2
        go_ret
        exact ⟨true, rfl, fun _ => ⟨by omega, fun c hc => HT.out c (by rw [List.take_of_length_le (by omega)]; exact hc)⟩, hbr⟩

theorem row_ptr {w : World} {O : Nat → Prop} {B : Nat} {e : TypeId} {g n cap i : Nat} {xs : List Value} {x : Value} (h : Rx w O B e (.slice (some ⟨g, 0, none⟩) n cap) n xs) (hi : i < n) (hx : xs[i]? = some x) : w.cell? ⟨g, i, none⟩ = some x := by
  rw [h.own.cellAt i (by omega)]; exact hx
def opn (X : List Cu) : Nat := (X.filter (fun x => !x.sh)).length
theorem opn_succ (X : List Cu) (j : Nat) (x : Cu) (h : X[j]? = some x) : opn (X.take (j + 1)) = opn (X.take j) + (if x.sh then 0 else 1) := by
  unfold opn
  rw [List.take_add_one, h, List.filter_append, List.length_append]
  cases hx : x.sh <;> simp [hx]
set_option maxHeartbeats 4000000 in
set_option maxRecDepth 100000 in
theorem same_any {w0 : World} {B T M : Nat} {A : List Ent} {D : List (Nat × Nat)} {O : Nat → Prop} {L : List Ent} {cl : Nat} {R : Nat → Prop} {lv cv dv : Value} {X : List Cu} (w : World) (h : Mem w0 w B T M A D O L cl R lv cv dv X) (r : Rel A D L cl X) (hL : L.length ≤ 1000) (hX : X.length ≤ 40) :
    Calls Try.prog 36 #[.pointer (some ⟨B, 0, none⟩)] w (Ret (.bool true) w) := by
  have HM := Lib.hid h
  have HR := Lib.hid r
  obtain ⟨AD, capD, rfl, hAD⟩ := own_shape h.rd.own
  have HAD := Lib.hid hAD
  obtain ⟨m, hm⟩ : ∃ m, X.length = m := ⟨_, rfl⟩
  have HXL := Lib.hid hm
  rw [hm] at hX
  have x0 : w.cell? ⟨B, 0, none⟩ = some (.pointer (some ⟨T, 0, none⟩)) := by rw [h.bb.blk.cell]; rfl
  have x1 : w.cell? ⟨B, 1, none⟩ = some (.pointer (some ⟨M, 0, none⟩)) := by rw [h.bb.blk.cell]; rfl
  have x3 : w.cell? ⟨B, 3, none⟩ = some (.slice AD m capD) := by rw [h.bb.blk.cell, ← hm]; rfl
  clear h r hAD hm
  go_enter Try.func36, Try.ntmps36
  go_wp2_with fail
  go_loopw [3, 12] (fun c i wr => ∃ j : Nat, j ≤ m ∧ i = .int .i64 (j : Int) ∧ c = .int .i64 (opn (X.take j) : Int) ∧ w = wr) (fun _ i _ => m - (intOf i).toNat)
  case atStart => exact ⟨0, Nat.zero_le _, rfl, rfl, rfl⟩
  case round =>
    obtain ⟨j, hj, rfl, rfl, rfl⟩ := hrel
    by_cases hlt : j < m
    · obtain ⟨g, rfl⟩ := HAD.out (by rw [HXL.out]; omega)
      obtain ⟨x, hx⟩ : ∃ x, X[j]? = some x := ⟨_, List.getElem?_eq_getElem (by rw [HXL.out]; exact hlt)⟩
      have xd : w.cell? ⟨g, j, none⟩ = some (.pointer (some ⟨x.d, 0, none⟩)) := row_ptr HM.out.rd (by rw [HXL.out]; exact hlt) (by rw [List.getElem?_map, hx]; rfl)
      have hdb := (HM.out.db x (List.mem_of_getElem? hx)).1
      have xs : w.cell? ⟨x.d, 2, none⟩ = some (.bool x.sh) := by rw [hdb.blk.cell]; rfl
      have hos := opn_succ X j x hx
      have HOS := Lib.hid hos
      obtain ⟨o, ho⟩ : ∃ o, opn (X.take j) = o := ⟨_, rfl⟩
      have HO := Lib.hid ho
      have hob : o ≤ 40 := by
        rw [← ho]
        have h1 := List.length_filter_le (fun x : Cu => !x.sh) (X.take j)
        rw [List.length_take] at h1
        unfold opn; omega
      rw [ho]
      have t1 : decide ((j : Int) < (m : Int)) = true := by simp; omega
      have j0 : (0 : Int) ≤ (j : Int) := by omega
      have j1 : (j : Int) < (m : Int) := by omega
      have aw : IntKind.i64.wrap ((j : Int) + 1) = (j : Int) + 1 := IntWalk.i64_in _ (by omega)
      have bw : IntKind.i64.wrap ((o : Int) + 1) = (o : Int) + 1 := IntWalk.i64_in _ (by omega)
      clear hx hdb hos ho
      rcases hsh : x.sh with _ | _
      all_goals
        rw [hsh] at xs
        go_wp2_with fail
        go_roundw
        case rel => exact ⟨j + 1, by omega, by go_num, by rw [HOS.out, HO.out, hsh]; first | rfl | go_num, trivial⟩
        case measure => simp [intOf]; omega
    · have hjn : m = j := by omega
      subst hjn
      have t1 : decide ((m : Int) < (m : Int)) = false := by simp
      have hdl := HR.out.dl
      have hop : opn (X.take m) = D.length := by rw [hdl]; unfold opn; rw [List.take_of_length_le (by rw [HXL.out]; exact Nat.le_refl _)]
      rw [hop]
      have hcl := HR.out.cpL
      have hAL : A.length ≤ 1000 := by rw [← hcl]; exact Nat.le_trans (List.length_filter_le _ _) hL
      have hDL : D.length ≤ 40 := by
        rw [hdl]; exact Nat.le_trans (List.length_filter_le _ _) (by rw [HXL.out]; exact hX)
      have h1 := rlen_any M lv L cl R w HM.out.rt (by omega)
      rw [hcl] at h1
      have h2 := tlen_any T A D O w HM.out.st.tab
      have h3 := storage_any T A D O w HM.out.st.tab (by omega) (by omega)
      obtain ⟨p, hp⟩ : ∃ p, A.length = p := ⟨_, rfl⟩
      obtain ⟨q, hq⟩ : ∃ q, D.length = q := ⟨_, rfl⟩
      have HPQ := Lib.hid (And.intro hp hq)
      rw [hp] at h1 h2 hAL
      rw [hq] at hDL
      rw [hq]
      have e1 : IntKind.i64.wrap (5 * (p : Int)) = 5 * (p : Int) := IntWalk.i64_in _ (by omega)
      have e2 : IntKind.i64.wrap (5 * (p : Int) + (q : Int)) = 5 * (p : Int) + (q : Int) := IntWalk.i64_in _ (by omega)
      have e3 : IntKind.i64.wrap (5 * (p : Int) + (q : Int) + 16) = 5 * (p : Int) + (q : Int) + 16 := IntWalk.i64_in _ (by omega)
      clear hdl hop hcl hp hq
      go_wp2_with fail
      refine h1.mono ?_
      rintro e w1 ⟨rfl, rfl⟩
      go_wp2_with fail
      refine h2.mono ?_
      rintro e w1 ⟨rfl, rfl⟩
      go_wp2_with fail
      refine h3.mono ?_
      rintro e w1 ⟨z, rfl, hz, u, rfl⟩
      rw [HPQ.out.1, HPQ.out.2] at hz
      have t5 : decide ((z : Int) ≤ 5 * (p : Int) + (q : Int) + 16) = true := by simp; omega
      go_wp2
      go_ret
      exact ⟨by simp, below_drewN (Below.refl _ _) u⟩
end Go.Proofs.Ytlgnjbdkkpjjaaa
