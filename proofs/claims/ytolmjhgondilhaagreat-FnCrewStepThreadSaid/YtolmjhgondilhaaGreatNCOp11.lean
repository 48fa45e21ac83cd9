/- Plain data of the law's types as arguments. No conditions. -/
import Derived.Test.YtolmjhgondilhaaGreatNOpens
import Derived.Test.YtolmjhgondilhaaGreatNCH
import Derived.ProofKit
set_option maxRecDepth 20000
set_option linter.unusedSimpArgs false
namespace Go.Proofs.YtolmjhgondilhaaGreat
open Go Go.Abs

theorem op5:Opens Tryz.prog 5 Int (fun n=>[.int .u8 n]) (fun n:Int=>IntKind.u8.min<=n/\n<=IntKind.u8.max):=opens_int Tryz.underlying5
theorem op22:Opens Tryz.prog 22 (List Int) (fun l=>[.fsl (eL rU8 l)]) (fun l=>l.length<=maxLen/\∀x∈l,(fun n:Int=>IntKind.u8.min<=n/\n<=IntKind.u8.max) x):=opens_slice Tryz.underlying22 (of_decide_eq_true (by kernel_rfl)) (fun x y hy=>by simp at hy;first|(subst hy;rfl)|(rcases hy with rfl<;>rfl)) op5
end Go.Proofs.YtolmjhgondilhaaGreat
