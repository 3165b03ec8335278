import Derived.Test.YtjjnjnnfebifnaaGreatDoorV1
set_option linter.all false
namespace Go.Ev
open Go
theorem run_m3 : memoRun E1 100000 74 m3 = true := by kernel_rfl
end Go.Ev
