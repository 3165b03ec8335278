import Derived.Test.YtjjnjnnfebifnaaGreatDoorV1
set_option linter.all false
namespace Go.Ev
open Go
theorem run_m4 : memoRun E1 100000 75 m4 = true := by kernel_rfl
end Go.Ev
