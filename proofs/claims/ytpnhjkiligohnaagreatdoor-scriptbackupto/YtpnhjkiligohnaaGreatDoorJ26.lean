/- Part of this proof; laid by program. -/
import Derived.Test.YtpnhjkiligohnaaGreatDoorJ22
import Derived.Test.YtpnhjkiligohnaaGreatDoorJ20
import Derived.Test.YtpnhjkiligohnaaGreatDoorJ21
namespace Go.Proofs.YtpnhjkiligohnaaGreatDoor
open Go.Vm Go.Vm.Rn Go.Vm.Rn.Q
set_option maxRecDepth 100000
theorem spg36_ok : spg36.ok (run primsN tabN 1000 40 F.mesh_Mesh_move) spw3 = true := by kernel_rfl
theorem spg37_ok : spg37.ok (run primsN tabN 1000 40 F.node_Node_Tick) spw1 = true := by kernel_rfl
theorem spg38_ok : spg38.ok (run primsN tabN 1000 40 F.node_Node_Tick) spw2 = true := by kernel_rfl
theorem spg39_ok : spg39.ok (run primsN tabN 1000 40 F.mesh_Mesh_move) spw3 = true := by kernel_rfl
theorem spg40_ok : spg40.ok (run primsN tabN 1000 40 F.mesh_Mesh_move) spw3 = true := by kernel_rfl
theorem spg41_ok : spg41.ok (run primsN tabN 1000 40 F.node_Node_Tick) spw1 = true := by kernel_rfl
theorem spg42_ok : spg42.ok (run primsN tabN 1000 40 F.node_Node_Tick) spw2 = true := by kernel_rfl
theorem spg43_ok : spg43.ok (run primsN tabN 1000 40 F.mesh_Mesh_move) spw3 = true := by kernel_rfl
theorem spg44_ok : spg44.ok (run primsN tabN 1000 40 F.mesh_Mesh_move) spw3 = true := by kernel_rfl
theorem spg45_ok : spg45.ok (run primsN tabN 1000 40 F.node_Node_Tick) spw1 = true := by kernel_rfl
theorem spg46_ok : spg46.ok (run primsN tabN 1000 40 F.node_Node_Tick) spw2 = true := by kernel_rfl
theorem spg47_ok : spg47.ok (run primsN tabN 1000 40 F.mesh_Mesh_move) spw3 = true := by kernel_rfl
end Go.Proofs.YtpnhjkiligohnaaGreatDoor
