/- Part of this proof; laid by program. -/
import Derived.Test.YtpnhjkiligohnaaGreatDoorJ22
import Derived.Test.YtpnhjkiligohnaaGreatDoorJ20
import Derived.Test.YtpnhjkiligohnaaGreatDoorJ21
namespace Go.Proofs.YtpnhjkiligohnaaGreatDoor
open Go.Vm Go.Vm.Rn Go.Vm.Rn.Q
set_option maxRecDepth 100000
theorem spg24_ok : spg24.ok (run primsN tabN 1000 40 F.mesh_Mesh_move) spw3 = true := by kernel_rfl
theorem spg25_ok : spg25.ok (run primsN tabN 1000 40 F.node_Node_Tick) spw1 = true := by kernel_rfl
theorem spg26_ok : spg26.ok (run primsN tabN 1000 40 F.node_Node_Tick) spw2 = true := by kernel_rfl
theorem spg27_ok : spg27.ok (run primsN tabN 1000 40 F.mesh_Mesh_move) spw3 = true := by kernel_rfl
theorem spg28_ok : spg28.ok (run primsN tabN 1000 40 F.mesh_Mesh_move) spw3 = true := by kernel_rfl
theorem spg29_ok : spg29.ok (run primsN tabN 1000 40 F.node_Node_Tick) spw1 = true := by kernel_rfl
theorem spg30_ok : spg30.ok (run primsN tabN 1000 40 F.node_Node_Tick) spw2 = true := by kernel_rfl
theorem spg31_ok : spg31.ok (run primsN tabN 1000 40 F.mesh_Mesh_move) spw3 = true := by kernel_rfl
theorem spg32_ok : spg32.ok (run primsN tabN 1000 40 F.mesh_Mesh_move) spw3 = true := by kernel_rfl
theorem spg33_ok : spg33.ok (run primsN tabN 1000 40 F.node_Node_Tick) spw1 = true := by kernel_rfl
theorem spg34_ok : spg34.ok (run primsN tabN 1000 40 F.node_Node_Tick) spw2 = true := by kernel_rfl
theorem spg35_ok : spg35.ok (run primsN tabN 1000 40 F.mesh_Mesh_move) spw3 = true := by kernel_rfl
end Go.Proofs.YtpnhjkiligohnaaGreatDoor
