import Derived.Test.YtjjnjnnfebifnaaGreatDoorV1
set_option linter.all false
namespace Go.Ev
open Go
theorem run_m5 : memoRun E1 100000 76 m5 = true := by kernel_rfl
end Go.Ev
