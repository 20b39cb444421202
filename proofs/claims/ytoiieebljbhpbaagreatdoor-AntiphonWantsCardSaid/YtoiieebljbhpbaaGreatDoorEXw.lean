import Derived.Test.YtoiieebljbhpbaaGreatDoorM06
import Derived.Test.YtoiieebljbhpbaaGreatDoorM18
import Derived.Test.YtoiieebljbhpbaaGreatDoorGd
import Derived.Test.YtoiieebljbhpbaaGreatDoorTy
namespace Go.Proofs
open Go.Ab
set_option maxRecDepth 100000 in
theorem Td.sh2e {q : List AV} (h : Sh2E Tryz.prog 37 q) : ∃ x : Td, q = x.enc := by
 have k := sh2_struct Tryz.ty37 h;clear h;obtain ⟨_, _, rfl, h0, k⟩ := k;obtain ⟨x0, rfl, _⟩ := sh2_int (k := .i64) (by kernel_rfl) h0;obtain ⟨_, _, rfl, h1, k⟩ := k;obtain ⟨x1, rfl, _⟩ := sh2_string (by kernel_rfl) h1;obtain ⟨_, _, rfl, h2, k⟩ := k;obtain ⟨x2, rfl, _⟩ := sh2_string (by kernel_rfl) h2;obtain ⟨_, _, rfl, h3, k⟩ := k;obtain ⟨x3, rfl, _⟩ := sh2_int (k := .i64) (by kernel_rfl) h3;obtain ⟨_, _, rfl, h4, k⟩ := k;obtain ⟨x4, rfl, _⟩ := sh2_int (k := .i64) (by kernel_rfl) h4;obtain ⟨_, _, rfl, h5, k⟩ := k;obtain ⟨x5, rfl, _⟩ := sh2_int (k := .i64) (by kernel_rfl) h5;obtain ⟨_, _, rfl, h6, k⟩ := k;obtain ⟨x6, rfl, _⟩ := sh2_int (k := .i64) (by kernel_rfl) h6;obtain ⟨_, _, rfl, h7, k⟩ := k;obtain ⟨x7, rfl⟩ := sh2_bool (by kernel_rfl) h7;obtain ⟨_, _, rfl, h8, k⟩ := k;obtain ⟨x8, rfl⟩ := sh2_bool (by kernel_rfl) h8;obtain ⟨_, _, rfl, h9, k⟩ := k;obtain ⟨x9, rfl, _, _⟩ := sh2_ints (k := .u32) (e := 54) (by kernel_rfl) (by kernel_rfl) h9;obtain rfl := k;exact ⟨Td.mk x0 x1 x2 x3 x4 x5 x6 x7 x8 x9, by simp⟩
set_option maxRecDepth 100000 in
theorem gTopAntiphonWants_call : ∀ xs, ShAll2 Tryz.prog Tryz.f3.params.toList xs → ∃ o : Prop, o ∧ qao Tryz.prog 3 xs [] { av := .lit (.bool true), obl := o } := by
 intro xs h;rw [show Tryz.f3.params.toList = [22, 3] by kernel_rfl] at h;obtain ⟨_, _, rfl, h0, h⟩ := shAll2_cons h;obtain ⟨_, _, rfl, h1, h⟩ := shAll2_cons h;obtain rfl := shAll2_nil h;have h0 := shV2_flat (d := .slice 37) (by kernel_rfl) (fun _ q => by cases q) h0;obtain ⟨_, q0, x0E, _⟩ := sh2_slice (e := 37) (by kernel_rfl) h0;cases q0;obtain ⟨x0, rfl, _⟩ := rows_of (enc := Td.enc) (wf := fun _ => True) (fun r hr => by obtain ⟨y, hy⟩ := Td.sh2e (x0E r hr); exact ⟨y, hy, trivial⟩);have h1 := shV2_flat (d := .int .i64) (by kernel_rfl) (fun _ q => by cases q) h1;obtain ⟨x1, q1, _⟩ := sh2_int (k := .i64) (by kernel_rfl) h1;cases q1;exact ⟨True, trivial, gg.can x0 x1 true (antiphonWants_plain x0 x1)⟩
end Go.Proofs
