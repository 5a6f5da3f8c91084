/- Step 1 of the chapter's example. -/
import Derived.Test.YtfheonbdapkgkaaCpuLiveD
namespace Go.Vx
open Go Go.Proofs
theorem lv1_ok : lv1.OK Try.prog := Memo.ok (glive_ok 9) mixed (N := 40) lv1 Try.func13 (by kernel_rfl) (by kernel_rfl)
end Go.Vx

/- Step 2 of the chapter's example. -/
namespace Go.Vx
open Go Go.Proofs
theorem lv2_ok : lv2.OK Try.prog := Memo.ok (glive_ok 9) mixed (N := 40) lv2 Try.func13 (by kernel_rfl) (by kernel_rfl)
end Go.Vx

/- Step 3 of the chapter's example. -/
namespace Go.Vx
open Go Go.Proofs
theorem lv3_ok : lv3.OK Try.prog := Memo.ok (glive_ok 9) mixed (N := 40) lv3 Try.func13 (by kernel_rfl) (by kernel_rfl)
end Go.Vx

/- Step 4 of the chapter's example. -/
namespace Go.Vx
open Go Go.Proofs
theorem lv4_ok : lv4.OK Try.prog := Memo.ok (glive_ok 9) mixed (N := 40) lv4 Try.func13 (by kernel_rfl) (by kernel_rfl)
end Go.Vx

/- Step 5 of the chapter's example. -/
namespace Go.Vx
open Go Go.Proofs
theorem lv5_ok : lv5.OK Try.prog := Memo.ok (glive_ok 9) mixed (N := 40) lv5 Try.func13 (by kernel_rfl) (by kernel_rfl)
end Go.Vx
