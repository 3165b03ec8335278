import Derived.Test.YtjjnjnnfebifnaaGreatDoorV1
set_option linter.all false
namespace Go.Ev
open Go
theorem run_m0 : memoRun E1 100000 73 m0 = true := by kernel_rfl
end Go.Ev
