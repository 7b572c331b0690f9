/- Inverses modulo 10007, all of them tried. -/
import Derived.Test.YtdpbfdjpeofbmaaA2
namespace Go.Proofs.Ytdpbfdjpeofbmaa.L
set_option maxRecDepth 100000
theorem invQ_all : (List.range 10007).all (fun i : Nat => i == 0 || decide (((i : Int) * invM (i : Int) 10007) % 10007 = 1)) = true := by decide +kernel
theorem invQ_mul {x : Int} (h0 : 0 < x) (h1 : x < 10007) : (x * invM x 10007) % 10007 = 1 := by
  have h := List.all_eq_true.1 invQ_all x.toNat (List.mem_range.2 (by omega))
  simp only [Bool.or_eq_true, beq_iff_eq, decide_eq_true_eq] at h
  rcases h with h | h
  · omega
  · rwa [Int.toNat_of_nonneg (by omega)] at h
end Go.Proofs.Ytdpbfdjpeofbmaa.L
