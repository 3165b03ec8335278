import Derived.Test.YtjjnjnnfebifnaaGreatDoorV1
set_option linter.all false
namespace Go.Ev
open Go
theorem run_m6 : memoRun E1 100000 78 m6 = true := by kernel_rfl
end Go.Ev
