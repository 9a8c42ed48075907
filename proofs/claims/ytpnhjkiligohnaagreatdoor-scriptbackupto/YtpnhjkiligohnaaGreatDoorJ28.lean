/- Part of this proof; laid by program. -/
import Derived.Test.YtpnhjkiligohnaaGreatDoorJ22
import Derived.Test.YtpnhjkiligohnaaGreatDoorJ20
import Derived.Test.YtpnhjkiligohnaaGreatDoorJ21
namespace Go.Proofs.YtpnhjkiligohnaaGreatDoor
open Go.Vm Go.Vm.Rn Go.Vm.Rn.Q
set_option maxRecDepth 100000
theorem spg60_ok : spg60.ok (run primsN tabN 1000 40 F.mesh_Mesh_move) spw3 = true := by kernel_rfl
theorem spg61_ok : spg61.ok (run primsN tabN 1000 40 F.node_Node_Tick) spw1 = true := by kernel_rfl
theorem spg62_ok : spg62.ok (run primsN tabN 1000 40 F.node_Node_Tick) spw2 = true := by kernel_rfl
theorem spg63_ok : spg63.ok (run primsN tabN 1000 40 F.mesh_Mesh_move) spw3 = true := by kernel_rfl
theorem spg64_ok : spg64.ok (run primsN tabN 1000 40 F.mesh_Mesh_move) spw3 = true := by kernel_rfl
theorem spg65_ok : spg65.ok (run primsN tabN 1000 40 F.node_Node_Tick) spw1 = true := by kernel_rfl
theorem spg66_ok : spg66.ok (run primsN tabN 1000 40 F.node_Node_Tick) spw2 = true := by kernel_rfl
theorem spg67_ok : spg67.ok (run primsN tabN 1000 40 F.mesh_Mesh_move) spw3 = true := by kernel_rfl
theorem spg68_ok : spg68.ok (run primsN tabN 1000 40 F.mesh_Mesh_move) spw3 = true := by kernel_rfl
theorem spg69_ok : spg69.ok (run primsN tabN 1000 40 F.node_Node_Tick) spw1 = true := by kernel_rfl
theorem spg70_ok : spg70.ok (run primsN tabN 1000 40 F.node_Node_Tick) spw2 = true := by kernel_rfl
theorem spg71_ok : spg71.ok (run primsN tabN 1000 40 F.mesh_Mesh_move) spw3 = true := by kernel_rfl
end Go.Proofs.YtpnhjkiligohnaaGreatDoor
