import Derived.Test.YtjjnjnnfebifnaaGreatDoorV1
set_option linter.all false
namespace Go.Ev
open Go
theorem run_m1 : memoRun E1 100000 35 m1 = true := by kernel_rfl
end Go.Ev
