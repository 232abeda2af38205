/- What holds of every drawn mail: there are ninety of them. -/
import Derived.Test.YtknagbmhmjcnkaaDoorVLS2
import Derived.Test.YtknagbmhmjcnkaaDoorVLMo
import Derived.Test.YtknagbmhmjcnkaaDoorVLBo
import Derived.Test.YtknagbmhmjcnkaaDoorVLDr4
namespace Go.Proofs.YtknagbmhmjcnkaaDoor.L
open Go Go.VM
set_option maxRecDepth 100000
set_option maxHeartbeats 4000000
set_option linter.unusedSimpArgs false
set_option linter.unusedVariables false
def checkM (t : List UInt8) : Bool := mailOk t && ((headOf t [83, 85, 66, 74, 69, 67, 84]).2 && ((headOf t [115, 117, 98, 106, 101, 99, 116]).2 && ((headOf t [83, 85, 66, 74, 69, 67, 84]).1 == (headOf t [115, 117, 98, 106, 101, 99, 116]).1 && (!(headOf t [110, 111, 116, 104, 105, 110, 103]).2 && (decide ((bodyT t).length ≤ t.length) && t.drop (t.length - (bodyT t).length) == bodyT t)))))
theorem c0 : ∀ a ∈ ([[32, 104, 101, 108, 108, 111], [32, 82, 101, 58, 32, 104, 101, 108, 108, 111], [32, 111, 116, 104, 101, 114], [32, 102, 119, 100, 58, 32, 82, 69, 58, 32, 32, 72, 101, 108, 108, 111, 32], [], [32, 110, 101, 119, 115]] : List (List UInt8)), checkM ([83, 117, 98, 106, 101, 99, 116, 58] ++ a ++ [10]) = true := by decide +kernel
theorem c1 : ∀ a ∈ ([[32, 104, 101, 108, 108, 111], [32, 82, 101, 58, 32, 104, 101, 108, 108, 111], [32, 111, 116, 104, 101, 114], [32, 102, 119, 100, 58, 32, 82, 69, 58, 32, 32, 72, 101, 108, 108, 111, 32], [], [32, 110, 101, 119, 115]] : List (List UInt8)), ∀ e ∈ ([[116, 101, 120, 116], [98, 111, 100, 121, 32, 111, 102, 32, 105, 116, 10], [], [97, 10, 10, 98]] : List (List UInt8)), checkM ([83, 117, 98, 106, 101, 99, 116, 58] ++ a ++ [10] ++ [10] ++ e) = true := by decide +kernel
theorem c2 : ∀ a ∈ ([[32, 104, 101, 108, 108, 111], [32, 82, 101, 58, 32, 104, 101, 108, 108, 111], [32, 111, 116, 104, 101, 114], [32, 102, 119, 100, 58, 32, 82, 69, 58, 32, 32, 72, 101, 108, 108, 111, 32], [], [32, 110, 101, 119, 115]] : List (List UInt8)), ∀ f ∈ ([[97, 110, 110], [98, 111, 98]] : List (List UInt8)), checkM ([83, 117, 98, 106, 101, 99, 116, 58] ++ a ++ [10] ++ [70, 114, 111, 109, 58, 32] ++ f ++ [10]) = true := by decide +kernel
theorem c3 : ∀ a ∈ ([[32, 104, 101, 108, 108, 111], [32, 82, 101, 58, 32, 104, 101, 108, 108, 111], [32, 111, 116, 104, 101, 114], [32, 102, 119, 100, 58, 32, 82, 69, 58, 32, 32, 72, 101, 108, 108, 111, 32], [], [32, 110, 101, 119, 115]] : List (List UInt8)), ∀ f ∈ ([[97, 110, 110], [98, 111, 98]] : List (List UInt8)), ∀ e ∈ ([[116, 101, 120, 116], [98, 111, 100, 121, 32, 111, 102, 32, 105, 116, 10], [], [97, 10, 10, 98]] : List (List UInt8)), checkM ([83, 117, 98, 106, 101, 99, 116, 58] ++ a ++ [10] ++ [70, 114, 111, 109, 58, 32] ++ f ++ [10] ++ [10] ++ e) = true := by decide +kernel
theorem mailO_check {c : Cur} (h : curI c) : checkM (mailO c).1 = true := by
  have ja := pickO_in (c := c) (l := [[32, 104, 101, 108, 108, 111], [32, 82, 101, 58, 32, 104, 101, 108, 108, 111], [32, 111, 116, 104, 101, 114], [32, 102, 119, 100, 58, 32, 82, 69, 58, 32, 32, 72, 101, 108, 108, 111, 32], [], [32, 110, 101, 119, 115]]) h (by decide)
  have jb := belO_in (c := (mA c).2) (n := 2) ja.1
  have jc := pickO_in (c := (mB c).2) (l := [[97, 110, 110], [98, 111, 98]]) jb.1 (by decide)
  have jd : curI (mD c) := by unfold mD; split; exact jc.1; exact jb.1
  have je := belO_in (n := 6) jd
  have jf := pickO_in (c := (mE c).2) (l := [[116, 101, 120, 116], [98, 111, 100, 121, 32, 111, 102, 32, 105, 116, 10], [], [97, 10, 10, 98]]) je.1 (by decide)
  have ka : (mA c).1 ∈ ([[32, 104, 101, 108, 108, 111], [32, 82, 101, 58, 32, 104, 101, 108, 108, 111], [32, 111, 116, 104, 101, 114], [32, 102, 119, 100, 58, 32, 82, 69, 58, 32, 32, 72, 101, 108, 108, 111, 32], [], [32, 110, 101, 119, 115]] : List (List UInt8)) := ja.2
  have kc : (mC c).1 ∈ ([[97, 110, 110], [98, 111, 98]] : List (List UInt8)) := jc.2
  have kf : (mF c).1 ∈ ([[116, 101, 120, 116], [98, 111, 100, 121, 32, 111, 102, 32, 105, 116, 10], [], [97, 10, 10, 98]] : List (List UInt8)) := jf.2
  unfold mailO
  split
  · unfold mS
    split
    · exact c2 _ ka _ kc
    · exact c0 _ ka
  · unfold mS
    split
    · exact c3 _ ka _ kc _ kf
    · exact c1 _ ka _ kf
end Go.Proofs.YtknagbmhmjcnkaaDoor.L
