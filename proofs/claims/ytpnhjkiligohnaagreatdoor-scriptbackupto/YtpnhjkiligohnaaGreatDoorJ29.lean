/- Part of this proof; laid by program. -/
import Derived.Test.YtpnhjkiligohnaaGreatDoorJ22
import Derived.Test.YtpnhjkiligohnaaGreatDoorJ20
import Derived.Test.YtpnhjkiligohnaaGreatDoorJ21
namespace Go.Proofs.YtpnhjkiligohnaaGreatDoor
open Go.Vm Go.Vm.Rn Go.Vm.Rn.Q
set_option maxRecDepth 100000
theorem spg72_ok : spg72.ok (run primsN tabN 1000 40 F.mesh_Mesh_move) spw3 = true := by kernel_rfl
theorem spg73_ok : spg73.ok (run primsN tabN 1000 40 F.node_Node_Tick) spw1 = true := by kernel_rfl
theorem spg74_ok : spg74.ok (run primsN tabN 1000 40 F.node_Node_Tick) spw2 = true := by kernel_rfl
theorem spg75_ok : spg75.ok (run primsN tabN 1000 40 F.mesh_Mesh_move) spw3 = true := by kernel_rfl
theorem spg76_ok : spg76.ok (run primsN tabN 1000 40 F.mesh_Mesh_move) spw3 = true := by kernel_rfl
theorem spg77_ok : spg77.ok (run primsN tabN 1000 40 F.node_Node_Tick) spw1 = true := by kernel_rfl
theorem spg78_ok : spg78.ok (run primsN tabN 1000 40 F.node_Node_Tick) spw2 = true := by kernel_rfl
theorem spg79_ok : spg79.ok (run primsN tabN 1000 40 F.mesh_Mesh_move) spw3 = true := by kernel_rfl
theorem spg80_ok : spg80.ok (run primsN tabN 1000 40 F.mesh_Mesh_move) spw3 = true := by kernel_rfl
theorem spg82_ok : spg82.ok (run primsN tabN 1000 40 F.mesh_Mesh_Told) spw3 = true := by kernel_rfl
end Go.Proofs.YtpnhjkiligohnaaGreatDoor
