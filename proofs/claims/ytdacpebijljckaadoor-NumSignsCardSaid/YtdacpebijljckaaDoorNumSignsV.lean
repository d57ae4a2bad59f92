/- The statement NumSigns, from its walk and the laws of signs. -/
import Derived.Test.YtdacpebijljckaaDoorNumSignsW
set_option linter.unusedVariables false
namespace Go.Proofs.YtdacpebijljckaaDoor
open Go.RowKit

theorem signs_walk (a b : Int) (w : World) (wa : (Lit.int .i64 a).wf = true) (wb : (Lit.int .i64 b).wf = true) :
    Calls Tryd.prog 4 #[.int .i64 a, .int .i64 b] w fun e w' => e = .returned (.bool true) ∧ Below w.heap.size w w' := by
  have CA := fun W => num_any a W wa
  have CB := fun W => num_any b W wb
  have ha := numR_is a
  have hb := numR_is b
  generalize numR a = x at *
  obtain ⟨ka, na⟩ := x
  generalize numR b = x at *
  obtain ⟨kb, nb⟩ := x
  try simp only at ha hb
  have CP := mul_c ka na kb nb ha hb
  have CM := neg_c ka na ha
  have CQ := mul_c _ _ kb nb ha.neg hb
  have CD := div_c ka na kb nb ha hb
  have CL := neg_c kb nb hb
  have CE := div_c ka na _ _ ha hb.neg
  have hp := mulR_num ka na kb nb ha hb
  have hd := divR_num ka na kb nb ha hb
  rw [mul_negl ka na kb nb ha hb] at CQ
  rw [div_negr ka na kb nb ha hb] at CE
  generalize mulR ka na kb nb = x at *
  obtain ⟨pk, pn, ok⟩ := x
  generalize divR ka na kb nb = x at *
  obtain ⟨dk, dn, has⟩ := x
  try simp only at hp hd CP CD CQ CE
  have CNP := fun (h : ok = true) => neg_c pk pn (hp h)
  have CND := fun (h : has = true) => neg_c dk dn (hd h)
  cases ok <;> cases has
  · exact signs_core a b ka na kb nb pk pn 0 0 dk dn 0 0 _ _ _ _ false false w CA CB CP CM CQ CD CL CE (fun h => by cases h) (fun h => by cases h)
  · exact signs_core a b ka na kb nb pk pn 0 0 dk dn _ _ _ _ _ _ false true w CA CB CP CM CQ CD CL CE (fun h => by cases h) CND
  · exact signs_core a b ka na kb nb pk pn _ _ dk dn 0 0 _ _ _ _ true false w CA CB CP CM CQ CD CL CE CNP (fun h => by cases h)
  · exact signs_core a b ka na kb nb pk pn _ _ dk dn _ _ _ _ _ _ true true w CA CB CP CM CQ CD CL CE CNP CND
end Go.Proofs.YtdacpebijljckaaDoor
