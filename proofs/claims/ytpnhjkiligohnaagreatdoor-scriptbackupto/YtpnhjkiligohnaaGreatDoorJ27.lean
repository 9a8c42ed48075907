/- Part of this proof; laid by program. -/
import Derived.Test.YtpnhjkiligohnaaGreatDoorJ22
import Derived.Test.YtpnhjkiligohnaaGreatDoorJ20
import Derived.Test.YtpnhjkiligohnaaGreatDoorJ21
namespace Go.Proofs.YtpnhjkiligohnaaGreatDoor
open Go.Vm Go.Vm.Rn Go.Vm.Rn.Q
set_option maxRecDepth 100000
theorem spg48_ok : spg48.ok (run primsN tabN 1000 40 F.mesh_Mesh_move) spw3 = true := by kernel_rfl
theorem spg49_ok : spg49.ok (run primsN tabN 1000 40 F.node_Node_Tick) spw1 = true := by kernel_rfl
theorem spg50_ok : spg50.ok (run primsN tabN 1000 40 F.node_Node_Tick) spw2 = true := by kernel_rfl
theorem spg51_ok : spg51.ok (run primsN tabN 1000 40 F.mesh_Mesh_move) spw3 = true := by kernel_rfl
theorem spg52_ok : spg52.ok (run primsN tabN 1000 40 F.mesh_Mesh_move) spw3 = true := by kernel_rfl
theorem spg53_ok : spg53.ok (run primsN tabN 1000 40 F.node_Node_Tick) spw1 = true := by kernel_rfl
theorem spg54_ok : spg54.ok (run primsN tabN 1000 40 F.node_Node_Tick) spw2 = true := by kernel_rfl
theorem spg55_ok : spg55.ok (run primsN tabN 1000 40 F.mesh_Mesh_move) spw3 = true := by kernel_rfl
theorem spg56_ok : spg56.ok (run primsN tabN 1000 40 F.mesh_Mesh_move) spw3 = true := by kernel_rfl
theorem spg57_ok : spg57.ok (run primsN tabN 1000 40 F.node_Node_Tick) spw1 = true := by kernel_rfl
theorem spg58_ok : spg58.ok (run primsN tabN 1000 40 F.node_Node_Tick) spw2 = true := by kernel_rfl
theorem spg59_ok : spg59.ok (run primsN tabN 1000 40 F.mesh_Mesh_move) spw3 = true := by kernel_rfl
end Go.Proofs.YtpnhjkiligohnaaGreatDoor
