/- Walks of the small functions of the records' layer. No condition. -/
import Derived.Test.YtjddnaefmikccaaTypes
import Derived.Test.YtjddnaefmikccaaDraw
import Derived.Test.YtjddnaefmikccaaRecSpec
set_option linter.unusedSimpArgs false
set_option linter.unusedVariables false
set_option maxRecDepth 100000
namespace Go.Proofs.Ytjddnaefmikccaa
open Go Go.Eng Go.RowKit Silo TryT

theorem num_ok {w : World} (n most : Int) : Calls Try.prog 50 #[I n, I most] w (Ret fun v w' => Below w.heap.size w w' ∧ v = .bool (decide (0 ≤ n) && decide (n ≤ most))) := by
  refine enter (n := 12) (res := #[.tmp 4]) Try.func50 rfl rfl rfl rfl ?_
  refine cseq <| cg <| za rfl <| cnil <| cseq <| cg <| zm rfl <| vq (Val.geq rfl rfl) <| zm rfl ?_
  apply WR.sc true 3 _ (fun w' => w = w')
  case hl | hg | hu | hv | hs | hoff | hd => rfl
  case hF => exact fun _ => rfl
  case hT =>
   intro hq6
   try simp only [tstS] at hq6
   simp only [List.take_succ_cons, List.take_zero]
   refine WR.on rfl rfl ?_
   refine zm rfl ?_
   refine WR.on rfl rfl ?_
   refine zm rfl ?_
   refine WR.on rfl rfl ?_
   refine vq (Val.leq rfl rfl) ?_
   exact WR.nil ⟨rfl, Sub.drop _ 3 _ rfl rfl, rfl⟩
  rintro _ rfl
  refine za rfl <| cnil ?_
  refine WC.ret1 rfl rfl ?_
  exact ⟨Below.refl _ _, rfl⟩

theorem between_ok {w : World} (n low high : Int) : Calls Try.prog 19 #[I n, I low, I high] w (Ret fun v w' => Below w.heap.size w w' ∧ v = .bool (decide (low ≤ n) && decide (n ≤ high))) := by
  refine enter (n := 15) (res := #[.tmp 6]) Try.func19 rfl rfl rfl rfl ?_
  refine cseq <| cg <| za rfl <| cnil <| cseq <| cg <| zm rfl <| zm rfl <| vq (Val.geq rfl rfl) ?_
  refine zm rfl ?_
  apply WR.sc true 3 _ (fun w' => w = w')
  case hl | hg | hu | hv | hs | hoff | hd => rfl
  case hF => exact fun _ => rfl
  case hT =>
   intro hq7
   try simp only [tstS] at hq7
   simp only [List.take_succ_cons, List.take_zero]
   refine WR.on rfl rfl ?_
   refine zm rfl ?_
   refine WR.on rfl rfl ?_
   refine zm rfl ?_
   refine WR.on rfl rfl ?_
   refine vq (Val.leq rfl rfl) ?_
   exact WR.nil ⟨rfl, Sub.drop _ 3 _ rfl rfl, rfl⟩
  rintro _ rfl
  refine za rfl <| cnil ?_
  refine WC.ret1 rfl rfl ?_
  exact ⟨Below.refl _ _, rfl⟩

end Go.Proofs.Ytjddnaefmikccaa
