/- Part of this proof; laid by program. -/
import Derived.Test.YtpnhjkiligohnaaGreatDoorJ11
import Derived.Test.YtpnhjkiligohnaaGreatDoorJ12
import Derived.Test.YtpnhjkiligohnaaGreatDoorJ13
import Derived.Test.YtpnhjkiligohnaaGreatDoorJ14
namespace Go.Proofs.YtpnhjkiligohnaaGreatDoor
open Go.Vm Go.Vm.Rn
set_option maxRecDepth 20000
def tab : T FC := .n (.n (.n (.n (.n (.n (.n (.n (.n (.e) (some ⟨8, d_seen_Set_Add, s_seen_Set_Add⟩) (.e)) (none) (.n (.e) (some ⟨12, d_slices_order2CmpFunc_api_Mark, s_slices_order2CmpFunc_api_Mark⟩) (.e))) (some ⟨10, d_ref23_data, s_ref23_data⟩) (.n (.n (.e) (some ⟨9, d_disk_Disk_Cut, s_disk_Disk_Cut⟩) (.e)) (some ⟨105, d_snap_Get, s_snap_Get⟩) (.e))) (some ⟨1, d_law23_start, s_law23_start⟩) (.n (.n (.n (.e) (some ⟨9, d_slices_Index_int_int, s_slices_Index_int_int⟩) (.e)) (some ⟨12, d_routes_Table_Heard, s_routes_Table_Heard⟩) (.e)) (some ⟨91, d_node_Node_works, s_node_Node_works⟩) (.n (.n (.e) (some ⟨11, d_slices_partitionEqualOrdered_string, s_slices_partitionEqualOrdered_string⟩) (.e)) (some ⟨19, d_slices_pdqsortOrdered_int, s_slices_pdqsortOrdered_int⟩) (.e)))) (some ⟨3, d_mesh_Mesh_Size, s_mesh_Mesh_Size⟩) (.n (.n (.n (.n (.e) (some ⟨5, d_msg_Same, s_msg_Same⟩) (.e)) (some ⟨4, d_hdlc_Encode, s_hdlc_Encode⟩) (.e)) (some ⟨6, d_mesh_Mesh_bytes, s_mesh_Mesh_bytes⟩) (.n (.n (.e) (some ⟨7, d_recv_Receiver_check, s_recv_Receiver_check⟩) (.e)) (some ⟨7, d_control_numbered, s_control_numbered⟩) (.e))) (some ⟨13, d_ref23_line, s_ref23_line⟩) (.n (.n (.n (.e) (some ⟨10, d_slices_insertionSortCmpFunc_api_Mark, s_slices_insertionSortCmpFunc_api_Mark⟩) (.e)) (some ⟨8, d_disk_named, s_disk_named⟩) (.e)) (some ⟨3, d_link_Link_Up, s_link_Link_Up⟩) (.n (.n (.e) (some ⟨10, d_slices_insertionSortCmpFunc_api_Id, s_slices_insertionSortCmpFunc_api_Id⟩) (.e)) (some ⟨9, d_custody_Custody_turn, s_custody_Custody_turn⟩) (.e))))) (some ⟨18, d_script_Decode, s_script_Decode⟩) (.n (.n (.n (.n (.n (.e) (some ⟨11, d_stuff_Unstuff, s_stuff_Unstuff⟩) (.e)) (some ⟨4, d_sender_New, s_sender_New⟩) (.n (.e) (some ⟨9, d_window_has, s_window_has⟩) (.e))) (some ⟨13, d_mesh_Mesh_near, s_mesh_Mesh_near⟩) (.n (.n (.e) (some ⟨6, d_msg_Put, s_msg_Put⟩) (.e)) (some ⟨3, d_custody_Custody_Held, s_custody_Custody_Held⟩) (.e))) (some ⟨6, d_mesh_Mesh_Step, s_mesh_Mesh_Step⟩) (.n (.n (.n (.e) (some ⟨10, d_slices_insertionSortCmpFunc_store_place, s_slices_insertionSortCmpFunc_store_place⟩) (.e)) (some ⟨26, d_hop_Put, s_hop_Put⟩) (.e)) (some ⟨6, d_link_Link_Receive, s_link_Link_Receive⟩) (.n (.n (.e) (some ⟨12, d_slices_siftDownCmpFunc_api_Mark, s_slices_siftDownCmpFunc_api_Mark⟩) (.e)) (some ⟨5, d_slices_Contains_int_int, s_slices_Contains_int_int⟩) (.e)))) (some ⟨65, d_script_step, s_script_step⟩) (.n (.n (.n (.n (.e) (some ⟨11, d_slices_partialInsertionSortOrdered_int, s_slices_partialInsertionSortOrdered_int⟩) (.e)) (some ⟨13, d_link_Link_fits, s_link_Link_fits⟩) (.e)) (some ⟨3, d_msg_Check, s_msg_Check⟩) (.n (.n (.e) (some ⟨11, d_slices_medianOrdered_int, s_slices_medianOrdered_int⟩) (.e)) (some ⟨9, d_msg_GetId, s_msg_GetId⟩) (.e))) (some ⟨12, d_mesh_Mesh_ways, s_mesh_Mesh_ways⟩) (.n (.n (.n (.e) (some ⟨3, d_cmp_isNaN_int, s_cmp_isNaN_int⟩) (.e)) (none) (.e)) (some ⟨15, d_disk_Disk_Crash, s_disk_Disk_Crash⟩) (.n (.n (.e) (some ⟨12, d_recv_Receiver_Kept, s_recv_Receiver_Kept⟩) (.e)) (some ⟨12, d_wal_Name, s_wal_Name⟩) (.e)))))) (some ⟨6, d_law23_ScriptDecodes, s_law23_ScriptDecodes⟩) (.n (.n (.n (.n (.n (.n (.e) (some ⟨2, d_slices_SortFunc_api_Id_api_Id, s_slices_SortFunc_api_Id_api_Id⟩) (.e)) (some ⟨3, d_custody_Custody_sweep, s_custody_Custody_sweep⟩) (.n (.e) (some ⟨12, d_slices_siftDownCmpFunc_api_Id, s_slices_siftDownCmpFunc_api_Id⟩) (.e))) (some ⟨10, d_ref23_lay, s_ref23_lay⟩) (.n (.n (.e) (some ⟨6, d_seen_Set_May, s_seen_Set_May⟩) (.e)) (some ⟨18, d_store_Store_Apply, s_store_Store_Apply⟩) (.e))) (some ⟨10, d_script_lays, s_script_lays⟩) (.n (.n (.n (.e) (some ⟨9, d_disk_Disk_Append, s_disk_Disk_Append⟩) (.e)) (some ⟨6, d_sender_Sender_Again, s_sender_Sender_Again⟩) (.e)) (some ⟨6, d_node_Node_Take, s_node_Node_Take⟩) (.n (.n (.e) (some ⟨5, d_wal_Log_Drop_1, s_wal_Log_Drop_1⟩) (.e)) (some ⟨5, d_window_Way, s_window_Way⟩) (.e)))) (some ⟨5, d_mesh_Mesh_State, s_mesh_Mesh_State⟩) (.n (.n (.n (.n (.e) (some ⟨11, d_slices_heapSortOrdered_int, s_slices_heapSortOrdered_int⟩) (.e)) (some ⟨8, d_control_Check, s_control_Check⟩) (.e)) (some ⟨6, d_mesh_Mesh_compact, s_mesh_Mesh_compact⟩) (.n (.n (.e) (some ⟨10, d_slices_siftDownOrdered_int, s_slices_siftDownOrdered_int⟩) (.e)) (some ⟨52, d_link_Link_comes, s_link_Link_comes⟩) (.e))) (some ⟨2, d_script_lays_1, s_script_lays_1⟩) (.n (.n (.n (.e) (some ⟨10, d_slices_reverseRangeCmpFunc_api_Mark, s_slices_reverseRangeCmpFunc_api_Mark⟩) (.e)) (some ⟨5, d_seen_Set_Marks_1, s_seen_Set_Marks_1⟩) (.e)) (some ⟨9, d_line_Line_Drop, s_line_Line_Drop⟩) (.n (.n (.e) (some ⟨10, d_slices_reverseRangeCmpFunc_api_Id, s_slices_reverseRangeCmpFunc_api_Id⟩) (.e)) (some ⟨3, d_math_bits_TrailingZeros32, s_math_bits_TrailingZeros32⟩) (.e))))) (some ⟨133, d_script_Encode, s_script_Encode⟩) (.n (.n (.n (.n (.n (.e) (some ⟨1, d_recv_Receiver_Forget, s_recv_Receiver_Forget⟩) (.e)) (some ⟨14, d_hop_Desk_Reset, s_hop_Desk_Reset⟩) (.e)) (some ⟨66, d_node_Node_Receive, s_node_Node_Receive⟩) (.n (.n (.e) (some ⟨5, d_disk_Disk_Safe, s_disk_Disk_Safe⟩) (.e)) (some ⟨10, d_bits_Put, s_bits_Put⟩) (.e))) (some ⟨5, d_script_scale, s_script_scale⟩) (.n (.n (.n (.e) (some ⟨10, d_slices_reverseRangeCmpFunc_store_place, s_slices_reverseRangeCmpFunc_store_place⟩) (.e)) (some ⟨46, d_routes_Table_Next, s_routes_Table_Next⟩) (.e)) (some ⟨12, d_routes_Table_Tick, s_routes_Table_Tick⟩) (.n (.n (.e) (some ⟨3, d_record_rows, s_record_rows⟩) (.e)) (some ⟨1, d_slices_Sort_string_string, s_slices_Sort_string_string⟩) (.e)))) (some ⟨13, d_ref23_others, s_ref23_others⟩) (.n (.n (.n (.n (.e) (some ⟨3, d_math_bits_Len32, s_math_bits_Len32⟩) (.e)) (some ⟨10, d_hop_Desk_Ack, s_hop_Desk_Ack⟩) (.e)) (some ⟨17, d_custody_Open, s_custody_Open⟩) (.n (.n (.e) (some ⟨50, d_slices_choosePivotOrdered_string, s_slices_choosePivotOrdered_string⟩) (.e)) (some ⟨6, d_custody_Custody_Find, s_custody_Custody_Find⟩) (.e))) (some ⟨10, d_mesh_Mesh_move, s_mesh_Mesh_move⟩) (.n (.n (.n (.e) (some ⟨11, d_wal_Log_remove, s_wal_Log_remove⟩) (.e)) (some ⟨7, d_disk_Disk_Remove, s_disk_Disk_Remove⟩) (.e)) (some ⟨13, d_seen_Set_Marks, s_seen_Set_Marks⟩) (.n (.n (.e) (some ⟨7, d_slices_medianAdjacentOrdered_string, s_slices_medianAdjacentOrdered_string⟩) (.e)) (some ⟨10, d_store_nexts, s_store_nexts⟩) (.e))))))) (none) (.n (.n (.n (.n (.n (.n (.n (.e) (some ⟨11, d_wal_Log_Append, s_wal_Log_Append⟩) (.e)) (some ⟨3, d_routes_node, s_routes_node⟩) (.n (.e) (some ⟨9, d_record_First, s_record_First⟩) (.e))) (some ⟨5, d_msg_Text, s_msg_Text⟩) (.n (.n (.e) (some ⟨4, d_slices_Reverse_int_int, s_slices_Reverse_int_int⟩) (.e)) (some ⟨12, d_wal_Open, s_wal_Open⟩) (.e))) (some ⟨5, d_script_Encode_1, s_script_Encode_1⟩) (.n (.n (.n (.e) (some ⟨6, d_wal_Log_length, s_wal_Log_length⟩) (.e)) (some ⟨4, d_sender_Sender_Under, s_sender_Sender_Under⟩) (.e)) (some ⟨3, d_node_Node_Down, s_node_Node_Down⟩) (.n (.n (.e) (some ⟨10, d_snap_lay, s_snap_lay⟩) (.e)) (some ⟨5, d_window_Each, s_window_Each⟩) (.e)))) (some ⟨14, d_mesh_Mesh_Told, s_mesh_Mesh_Told⟩) (.n (.n (.n (.n (.e) (some ⟨7, d_store_Store_Find, s_store_Store_Find⟩) (.e)) (some ⟨4, d_control_kind, s_control_kind⟩) (.e)) (some ⟨5, d_mesh_Mesh_start, s_mesh_Mesh_start⟩) (.n (.n (.e) (some ⟨4, d_recv_Receiver_Missing, s_recv_Receiver_Missing⟩) (.e)) (some ⟨1, d_link_Link_reset, s_link_Link_reset⟩) (.e))) (some ⟨6, d_script_Text, s_script_Text⟩) (.n (.n (.n (.e) (some ⟨13, d_slices_breakPatternsCmpFunc_api_Mark, s_slices_breakPatternsCmpFunc_api_Mark⟩) (.e)) (some ⟨5, d_store_Store_Held_1, s_store_Store_Held_1⟩) (.e)) (some ⟨21, d_routes_Table_Vector, s_routes_Table_Vector⟩) (.n (.n (.e) (some ⟨13, d_slices_breakPatternsCmpFunc_api_Id, s_slices_breakPatternsCmpFunc_api_Id⟩) (.e)) (some ⟨21, d_slices_pdqsortCmpFunc_api_Mark, s_slices_pdqsortCmpFunc_api_Mark⟩) (.e))))) (some ⟨12, d_ref23_Decode, s_ref23_Decode⟩) (.n (.n (.n (.n (.n (.e) (some ⟨4, d_sender_Sender_Reset, s_sender_Sender_Reset⟩) (.e)) (some ⟨2, d_link_Link_setup, s_link_Link_setup⟩) (.n (.e) (some ⟨12, d_slices_order2CmpFunc_api_Id, s_slices_order2CmpFunc_api_Id⟩) (.e))) (some ⟨3, d_line_Line_Tick, s_line_Line_Tick⟩) (.n (.n (.e) (some ⟨7, d_record_Put, s_record_Put⟩) (.e)) (some ⟨6, d_hop_Desk_Back, s_hop_Desk_Back⟩) (.e))) (some ⟨3, d_node_Node_State, s_node_Node_State⟩) (.n (.n (.n (.e) (some ⟨13, d_slices_breakPatternsCmpFunc_store_place, s_slices_breakPatternsCmpFunc_store_place⟩) (.e)) (some ⟨5, d_routes_Table_near, s_routes_Table_near⟩) (.e)) (some ⟨3, d_custody_Custody_Failed, s_custody_Custody_Failed⟩) (.n (.n (.e) (some ⟨13, d_slices_medianCmpFunc_api_Mark, s_slices_medianCmpFunc_api_Mark⟩) (.e)) (some ⟨3, d_custody_Custody_ready, s_custody_Custody_ready⟩) (.e)))) (some ⟨5, d_ref23_SameStep, s_ref23_SameStep⟩) (.n (.n (.n (.n (.e) (some ⟨11, d_slices_partitionEqualOrdered_int, s_slices_partitionEqualOrdered_int⟩) (.e)) (some ⟨42, d_hop_Get, s_hop_Get⟩) (.e)) (some ⟨4, d_seen_New, s_seen_New⟩) (.n (.n (.e) (some ⟨11, d_slices_heapSortOrdered_string, s_slices_heapSortOrdered_string⟩) (.e)) (some ⟨5, d_custody_Custody_Seen, s_custody_Custody_Seen⟩) (.e))) (some ⟨4, d_disk_New, s_disk_New⟩) (.n (.n (.n (.e) (some ⟨41, d_seen_right, s_seen_right⟩) (.e)) (some ⟨3, d_math_bits_TrailingZeros, s_math_bits_TrailingZeros⟩) (.e)) (some ⟨16, d_disk_Disk_ready, s_disk_Disk_ready⟩) (.n (.n (.e) (some ⟨10, d_slices_order2Ordered_int, s_slices_order2Ordered_int⟩) (.e)) (some ⟨7, d_snap_Get_1, s_snap_Get_1⟩) (.e)))))) (some ⟨9, d_law23_ScriptBack, s_law23_ScriptBack⟩) (.n (.n (.n (.n (.n (.n (.e) (some ⟨5, d_msg_Less, s_msg_Less⟩) (.e)) (some ⟨37, d_custody_Custody_replay, s_custody_Custody_replay⟩) (.n (.e) (some ⟨13, d_slices_medianCmpFunc_api_Id, s_slices_medianCmpFunc_api_Id⟩) (.e))) (some ⟨7, d_node_in, s_node_in⟩) (.n (.n (.e) (some ⟨10, d_slices_BinarySearch_int_int, s_slices_BinarySearch_int_int⟩) (.e)) (some ⟨1, d_recv_Receiver_Reset, s_recv_Receiver_Reset⟩) (.e))) (some ⟨79, d_ref23_encodeStep, s_ref23_encodeStep⟩) (.n (.n (.n (.e) (some ⟨10, d_disk_Disk_Rename, s_disk_Disk_Rename⟩) (.e)) (some ⟨3, d_sender_Sender_Len, s_sender_Sender_Len⟩) (.e)) (some ⟨16, d_hdlc_Decoder_Feed, s_hdlc_Decoder_Feed⟩) (.n (.n (.e) (some ⟨9, d_slices_medianAdjacentCmpFunc_store_place, s_slices_medianAdjacentCmpFunc_store_place⟩) (.e)) (some ⟨5, d_sender_Sender_Push, s_sender_Sender_Push⟩) (.e)))) (some ⟨5, d_script_Decode_1, s_script_Decode_1⟩) (.n (.n (.n (.n (.e) (some ⟨50, d_slices_choosePivotOrdered_int, s_slices_choosePivotOrdered_int⟩) (.e)) (some ⟨4, d_link_Link_ua, s_link_Link_ua⟩) (.e)) (some ⟨30, d_store_Store_State, s_store_Store_State⟩) (.n (.n (.e) (some ⟨3, d_slices_xorshift_Next, s_slices_xorshift_Next⟩) (.e)) (some ⟨4, d_link_Link_ready, s_link_Link_ready⟩) (.e))) (some ⟨5, d_ref23_less, s_ref23_less⟩) (.n (.n (.n (.e) (some ⟨13, d_slices_partitionEqualCmpFunc_api_Mark, s_slices_partitionEqualCmpFunc_api_Mark⟩) (.e)) (none) (.e)) (some ⟨10, d_line_Line_Insert, s_line_Line_Insert⟩) (.n (.n (.e) (some ⟨13, d_slices_partitionEqualCmpFunc_api_Id, s_slices_partitionEqualCmpFunc_api_Id⟩) (.e)) (some ⟨8, d_disk_Disk_there, s_disk_Disk_there⟩) (.e))))) (some ⟨3, d_script_Check, s_script_Check⟩) (.n (.n (.n (.n (.n (.e) (some ⟨3, d_link_Link_answer, s_link_Link_answer⟩) (.e)) (some ⟨4, d_link_Link_Out, s_link_Link_Out⟩) (.e)) (some ⟨6, d_mesh_Mesh_submit, s_mesh_Mesh_submit⟩) (.n (.n (.e) (some ⟨12, d_crc_Step, s_crc_Step⟩) (.e)) (some ⟨3, d_crc_Add, s_crc_Add⟩) (.e))) (some ⟨6, d_ref23_among, s_ref23_among⟩) (.n (.n (.n (.e) (some ⟨13, d_slices_partitionEqualCmpFunc_store_place, s_slices_partitionEqualCmpFunc_store_place⟩) (.e)) (some ⟨12, d_disk_Disk_Names, s_disk_Disk_Names⟩) (.e)) (some ⟨5, d_link_Link_Tick, s_link_Link_Tick⟩) (.n (.e) (some ⟨5, d_custody_Custody_told, s_custody_Custody_told⟩) (.e)))) (some ⟨9, d_ref23_Links, s_ref23_Links⟩) (.n (.n (.n (.n (.e) (some ⟨3, d_window_Reduce, s_window_Reduce⟩) (.e)) (some ⟨10, d_hop_Desk_Refuse, s_hop_Desk_Refuse⟩) (.e)) (some ⟨15, d_link_New, s_link_New⟩) (.n (.n (.e) (some ⟨11, d_slices_partialInsertionSortOrdered_string, s_slices_partialInsertionSortOrdered_string⟩) (.e)) (some ⟨6, d_hop_Desk_Is, s_hop_Desk_Is⟩) (.e))) (some ⟨7, d_mesh_Mesh_node, s_mesh_Mesh_node⟩) (.n (.n (.n (.e) (some ⟨4, d_wal_Log_open_1, s_wal_Log_open_1⟩) (.e)) (some ⟨9, d_disk_Disk_Read, s_disk_Disk_Read⟩) (.e)) (none) (.n (.n (.e) (some ⟨3, d_cmp_isNaN_string, s_cmp_isNaN_string⟩) (.e)) (some ⟨13, d_wal_Log_open, s_wal_Log_open⟩) (.e)))))))) (none) (.n (.n (.n (.n (.n (.n (.n (.n (.e) (some ⟨13, d_store_PutEv, s_store_PutEv⟩) (.e)) (some ⟨7, d_msg_Check_1, s_msg_Check_1⟩) (.n (.e) (some ⟨6, d_record_rows_1, s_record_rows_1⟩) (.e))) (none) (.n (.n (.e) (some ⟨4, d_wal_Log_open_2, s_wal_Log_open_2⟩) (.e)) (some ⟨96, d_store_From, s_store_From⟩) (.e))) (some ⟨26, d_script_Run, s_script_Run⟩) (.n (.n (.n (.e) (some ⟨19, d_slices_pdqsortOrdered_string, s_slices_pdqsortOrdered_string⟩) (.e)) (some ⟨1, d_slices_Sort_int_int, s_slices_Sort_int_int⟩) (.e)) (some ⟨4, d_node_Node_Delivered, s_node_Node_Delivered⟩) (.n (.n (.e) (some ⟨12, d_slices_partitionOrdered_string, s_slices_partitionOrdered_string⟩) (.e)) (some ⟨3, d_math_bits_Len, s_math_bits_Len⟩) (.e)))) (some ⟨3, d_mesh_Mesh_Steps, s_mesh_Mesh_Steps⟩) (.n (.n (.n (.n (.e) (some ⟨5, d_store_Store_Seen, s_store_Store_Seen⟩) (.e)) (some ⟨2, d_hdlc_Decoder_byte, s_hdlc_Decoder_byte⟩) (.e)) (some ⟨34, d_mesh_Mesh_crash, s_mesh_Mesh_crash⟩) (.n (.n (.e) (some ⟨3, d_window_Next, s_window_Next⟩) (.e)) (some ⟨5, d_control_Check_1, s_control_Check_1⟩) (.e))) (some ⟨3, d_strconv_Itoa, s_strconv_Itoa⟩) (.n (.n (.n (.e) (some ⟨13, d_slices_heapSortCmpFunc_api_Mark, s_slices_heapSortCmpFunc_api_Mark⟩) (.e)) (some ⟨2, d_slices_SortFunc_store_place_store_place, s_slices_SortFunc_store_place_store_place⟩) (.e)) (some ⟨9, d_node_Node_push, s_node_Node_push⟩) (.n (.n (.e) (some ⟨13, d_slices_heapSortCmpFunc_api_Id, s_slices_heapSortCmpFunc_api_Id⟩) (.e)) (some ⟨21, d_slices_pdqsortCmpFunc_store_place, s_slices_pdqsortCmpFunc_store_place⟩) (.e))))) (some ⟨6, d_ref23_Same, s_ref23_Same⟩) (.n (.n (.n (.n (.n (.e) (some ⟨3, d_crc_Right, s_crc_Right⟩) (.e)) (some ⟨5, d_recv_New, s_recv_New⟩) (.n (.e) (some ⟨10, d_slices_order2Ordered_string, s_slices_order2Ordered_string⟩) (.e))) (some ⟨58, d_mesh_Mesh_behind, s_mesh_Mesh_behind⟩) (.n (.n (.e) (some ⟨3, d_wal_Log_ready, s_wal_Log_ready⟩) (.e)) (some ⟨25, d_hop_Desk_Plan, s_hop_Desk_Plan⟩) (.e))) (some ⟨5, d_mesh_Mesh_is, s_mesh_Mesh_is⟩) (.n (.n (.n (.e) (some ⟨13, d_slices_heapSortCmpFunc_store_place, s_slices_heapSortCmpFunc_store_place⟩) (.e)) (some ⟨6, d_link_Link_Push, s_link_Link_Push⟩) (.e)) (some ⟨4, d_link_Link_In, s_link_Link_In⟩) (.n (.n (.e) (some ⟨9, d_slices_medianAdjacentCmpFunc_api_Mark, s_slices_medianAdjacentCmpFunc_api_Mark⟩) (.e)) (some ⟨8, d_routes_Table_cost, s_routes_Table_cost⟩) (.e)))) (some ⟨6, d_ref23_SameLinks, s_ref23_SameLinks⟩) (.n (.n (.n (.n (.e) (some ⟨5, d_cmp_Less_int, s_cmp_Less_int⟩) (.e)) (some ⟨4, d_link_Link_send, s_link_Link_send⟩) (.e)) (some ⟨5, d_store_in, s_store_in⟩) (.n (.n (.e) (some ⟨8, d_slices_insertionSortOrdered_string, s_slices_insertionSortOrdered_string⟩) (.e)) (some ⟨58, d_hop_Check, s_hop_Check⟩) (.e))) (some ⟨4, d_line_New, s_line_New⟩) (.n (.n (.n (.e) (some ⟨5, d_crc_down, s_crc_down⟩) (.e)) (none) (.e)) (some ⟨5, d_node_Node_Compact, s_node_Node_Compact⟩) (.n (.n (.e) (some ⟨9, d_window_Missing, s_window_Missing⟩) (.e)) (some ⟨25, d_crc_Sum, s_crc_Sum⟩) (.e)))))) (some ⟨6, d_law23_ScriptEncodes, s_law23_ScriptEncodes⟩) (.n (.n (.n (.n (.n (.n (.e) (some ⟨5, d_hop_Desk_Offered_1, s_hop_Desk_Offered_1⟩) (.e)) (some ⟨52, d_custody_Custody_load, s_custody_Custody_load⟩) (.n (.e) (some ⟨9, d_slices_medianAdjacentCmpFunc_api_Id, s_slices_medianAdjacentCmpFunc_api_Id⟩) (.e))) (some ⟨7, d_store_New, s_store_New⟩) (.n (.n (.e) (some ⟨6, d_seen_Set_of, s_seen_Set_of⟩) (.e)) (some ⟨13, d_custody_Custody_put, s_custody_Custody_put⟩) (.e))) (some ⟨6, d_ref23_encodeSet, s_ref23_encodeSet⟩) (.n (.n (.n (.e) (some ⟨7, d_disk_Disk_Sync, s_disk_Disk_Sync⟩) (.e)) (some ⟨4, d_link_Link_data, s_link_Link_data⟩) (.e)) (some ⟨3, d_node_Node_ready, s_node_Node_ready⟩) (.n (.n (.e) (some ⟨12, d_slices_siftDownCmpFunc_store_place, s_slices_siftDownCmpFunc_store_place⟩) (.e)) (some ⟨5, d_msg_PutId, s_msg_PutId⟩) (.e)))) (some ⟨7, d_ref22_CheckLinks, s_ref22_CheckLinks⟩) (.n (.n (.n (.n (.e) (some ⟨11, d_slices_breakPatternsOrdered_int, s_slices_breakPatternsOrdered_int⟩) (.e)) (some ⟨5, d_link_Link_sabme, s_link_Link_sabme⟩) (.e)) (some ⟨6, d_disk_Disk_Arm, s_disk_Disk_Arm⟩) (.n (.n (.e) (some ⟨3, d_slices_nextPowerOfTwo, s_slices_nextPowerOfTwo⟩) (.e)) (some ⟨5, d_link_Link_again, s_link_Link_again⟩) (.e))) (some ⟨10, d_ref23_lays, s_ref23_lays⟩) (.n (.n (.n (.e) (some ⟨13, d_slices_partialInsertionSortCmpFunc_api_Mark, s_slices_partialInsertionSortCmpFunc_api_Mark⟩) (.e)) (some ⟨12, d_slices_Compare_int_int, s_slices_Compare_int_int⟩) (.e)) (some ⟨7, d_line_Line_Flip, s_line_Line_Flip⟩) (.n (.n (.e) (some ⟨13, d_slices_partialInsertionSortCmpFunc_api_Id, s_slices_partialInsertionSortCmpFunc_api_Id⟩) (.e)) (some ⟨3, d_math_bits_TrailingZeros64, s_math_bits_TrailingZeros64⟩) (.e))))) (some ⟨10, d_ref23_Encode, s_ref23_Encode⟩) (.n (.n (.n (.n (.n (.e) (some ⟨77, d_recv_Receiver_Take, s_recv_Receiver_Take⟩) (.e)) (some ⟨66, d_node_Node_offer, s_node_Node_offer⟩) (.e)) (some ⟨63, d_node_Node_Tick, s_node_Node_Tick⟩) (.n (.n (.e) (some ⟨21, d_slices_pdqsortCmpFunc_api_Id, s_slices_pdqsortCmpFunc_api_Id⟩) (.e)) (some ⟨17, d_stuff_Stuff, s_stuff_Stuff⟩) (.e))) (some ⟨3, d_script_most, s_script_most⟩) (.n (.n (.n (.e) (some ⟨13, d_slices_partialInsertionSortCmpFunc_store_place, s_slices_partialInsertionSortCmpFunc_store_place⟩) (.e)) (some ⟨11, d_custody_Custody_Submit, s_custody_Custody_Submit⟩) (.e)) (some ⟨10, d_node_Node_near, s_node_Node_near⟩) (.n (.n (.e) (some ⟨3, d_slices_isNaN_int, s_slices_isNaN_int⟩) (.e)) (some ⟨5, d_wal_Log_Begin, s_wal_Log_Begin⟩) (.e)))) (some ⟨9, d_ref23_settings, s_ref23_settings⟩) (.n (.n (.n (.n (.e) (some ⟨9, d_window_Each_1, s_window_Each_1⟩) (.e)) (some ⟨5, d_custody_Custody_Release, s_custody_Custody_Release⟩) (.e)) (some ⟨4, d_hop_New, s_hop_New⟩) (.n (.n (.e) (some ⟨8, d_slices_reverseRangeOrdered_string, s_slices_reverseRangeOrdered_string⟩) (.e)) (some ⟨5, d_custody_Custody_Hold, s_custody_Custody_Hold⟩) (.e))) (some ⟨44, d_mesh_Mesh_calm, s_mesh_Mesh_calm⟩) (.n (.n (.n (.e) (some ⟨16, d_wal_Log_segments, s_wal_Log_segments⟩) (.e)) (some ⟨31, d_custody_Custody_snaps, s_custody_Custody_snaps⟩) (.e)) (none) (.n (.n (.e) (some ⟨11, d_slices_medianOrdered_string, s_slices_medianOrdered_string⟩) (.e)) (some ⟨21, d_seen_From, s_seen_From⟩) (.e))))))) (none) (.n (.n (.n (.n (.n (.n (.n (.e) (some ⟨4, d_wal_Log_Sync, s_wal_Log_Sync⟩) (.e)) (some ⟨3, d_disk_Disk_Down, s_disk_Disk_Down⟩) (.n (.e) (some ⟨2, d_slices_rotateLeft_int, s_slices_rotateLeft_int⟩) (.e))) (some ⟨17, d_script_hex, s_script_hex⟩) (.n (.n (.e) (some ⟨6, d_store_form, s_store_form⟩) (.e)) (some ⟨17, d_store_GetEv, s_store_GetEv⟩) (.e))) (some ⟨3, d_script_settings, s_script_settings⟩) (.n (.n (.n (.e) (some ⟨89, d_snap_Put, s_snap_Put⟩) (.e)) (some ⟨1, d_link_Link_anew, s_link_Link_anew⟩) (.e)) (some ⟨28, d_line_Line_Put, s_line_Line_Put⟩) (.n (.n (.e) (some ⟨13, d_disk_Disk_Used, s_disk_Disk_Used⟩) (.e)) (some ⟨7, d_window_In, s_window_In⟩) (.e)))) (some ⟨5, d_mesh_Mesh_Up, s_mesh_Mesh_Up⟩) (.n (.n (.n (.n (.e) (some ⟨8, d_slices_insertionSortOrdered_int, s_slices_insertionSortOrdered_int⟩) (.e)) (some ⟨41, d_bits_Get, s_bits_Get⟩) (.e)) (some ⟨5, d_disk_Disk_Limit, s_disk_Disk_Limit⟩) (.n (.n (.e) (some ⟨5, d_seen_Set_Has, s_seen_Set_Has⟩) (.e)) (some ⟨1, d_link_Link_heard, s_link_Link_heard⟩) (.e))) (some ⟨5, d_script_lower, s_script_lower⟩) (.n (.n (.n (.e) (some ⟨56, d_slices_choosePivotCmpFunc_api_Mark, s_slices_choosePivotCmpFunc_api_Mark⟩) (.e)) (some ⟨2, d_slices_SortFunc_api_Mark_api_Mark, s_slices_SortFunc_api_Mark_api_Mark⟩) (.e)) (some ⟨11, d_node_Node_Submit, s_node_Node_Submit⟩) (.n (.n (.e) (some ⟨56, d_slices_choosePivotCmpFunc_api_Id, s_slices_choosePivotCmpFunc_api_Id⟩) (.e)) (some ⟨7, d_cmp_Compare_int, s_cmp_Compare_int⟩) (.e))))) (some ⟨1, d_law23_awake, s_law23_awake⟩) (.n (.n (.n (.n (.n (.e) (some ⟨5, d_link_Link_ack, s_link_Link_ack⟩) (.e)) (some ⟨3, d_link_Link_Resets, s_link_Link_Resets⟩) (.e)) (some ⟨5, d_line_Line_Take, s_line_Line_Take⟩) (.n (.n (.e) (some ⟨5, d_wal_Log_told, s_wal_Log_told⟩) (.e)) (some ⟨3, d_control_bit, s_control_bit⟩) (.e))) (some ⟨4, d_script_fields, s_script_fields⟩) (.n (.n (.n (.e) (some ⟨56, d_slices_choosePivotCmpFunc_store_place, s_slices_choosePivotCmpFunc_store_place⟩) (.e)) (some ⟨41, d_routes_Table_Cost, s_routes_Table_Cost⟩) (.e)) (some ⟨24, d_node_Node_word, s_node_Node_word⟩) (.n (.n (.e) (some ⟨18, d_wal_number, s_wal_number⟩) (.e)) (some ⟨6, d_store_Store_Fresh, s_store_Store_Fresh⟩) (.e)))) (some ⟨6, d_ref23_take, s_ref23_take⟩) (.n (.n (.n (.n (.e) (some ⟨12, d_slices_partitionOrdered_int, s_slices_partitionOrdered_int⟩) (.e)) (some ⟨11, d_node_Node_offered, s_node_Node_offered⟩) (.e)) (some ⟨25, d_routes_New, s_routes_New⟩) (.n (.n (.e) (some ⟨11, d_slices_breakPatternsOrdered_string, s_slices_breakPatternsOrdered_string⟩) (.e)) (some ⟨5, d_custody_Custody_Deliver, s_custody_Custody_Deliver⟩) (.e))) (some ⟨7, d_mesh_Mesh_boot, s_mesh_Mesh_boot⟩) (.n (.n (.n (.e) (some ⟨13, d_seen_Set_Gaps, s_seen_Set_Gaps⟩) (.e)) (some ⟨14, d_custody_Custody_has, s_custody_Custody_has⟩) (.e)) (some ⟨29, d_store_Store_Held, s_store_Store_Held⟩) (.n (.n (.e) (some ⟨10, d_slices_siftDownOrdered_string, s_slices_siftDownOrdered_string⟩) (.e)) (some ⟨5, d_snap_Check, s_snap_Check⟩) (.e)))))) (some ⟨7, d_law23_ScriptMeshes, s_law23_ScriptMeshes⟩) (.n (.n (.n (.n (.n (.n (.e) (some ⟨17, d_crc_Fcs, s_crc_Fcs⟩) (.e)) (some ⟨4, d_custody_Custody_boot, s_custody_Custody_boot⟩) (.n (.e) (some ⟨7, d_window_Sort, s_window_Sort⟩) (.e))) (some ⟨71, d_node_New, s_node_New⟩) (.n (.e) (some ⟨14, d_hop_Desk_Offered, s_hop_Desk_Offered⟩) (.e))) (some ⟨126, d_mesh_New, s_mesh_New⟩) (.n (.n (.n (.e) (some ⟨7, d_wal_Log_Drop, s_wal_Log_Drop⟩) (.e)) (some ⟨3, d_recv_Receiver_Waits, s_recv_Receiver_Waits⟩) (.e)) (some ⟨11, d_control_Get, s_control_Get⟩) (.n (.n (.e) (some ⟨13, d_slices_medianCmpFunc_store_place, s_slices_medianCmpFunc_store_place⟩) (.e)) (some ⟨4, d_link_Link_goes, s_link_Link_goes⟩) (.e)))) (some ⟨10, d_script_links, s_script_links⟩) (.n (.n (.n (.n (.e) (some ⟨8, d_slices_reverseRangeOrdered_int, s_slices_reverseRangeOrdered_int⟩) (.e)) (some ⟨2, d_link_Link_dm, s_link_Link_dm⟩) (.e)) (none) (.n (.n (.e) (some ⟨7, d_slices_medianAdjacentOrdered_int, s_slices_medianAdjacentOrdered_int⟩) (.e)) (some ⟨7, d_msg_Get, s_msg_Get⟩) (.e))) (some ⟨5, d_node_Check, s_node_Check⟩) (.n (.n (.n (.e) (some ⟨14, d_slices_partitionCmpFunc_api_Mark, s_slices_partitionCmpFunc_api_Mark⟩) (.e)) (some ⟨3, d_math_bits_Len64, s_math_bits_Len64⟩) (.e)) (some ⟨3, d_line_Line_Len, s_line_Line_Len⟩) (.n (.n (.e) (some ⟨14, d_slices_partitionCmpFunc_api_Id, s_slices_partitionCmpFunc_api_Id⟩) (.e)) (some ⟨3, d_disk_Disk_changed, s_disk_Disk_changed⟩) (.e))))) (some ⟨25, d_script_Play, s_script_Play⟩) (.n (.n (.n (.n (.n (.e) (some ⟨4, d_msg_CheckMsg, s_msg_CheckMsg⟩) (.e)) (some ⟨23, d_control_Put, s_control_Put⟩) (.e)) (some ⟨6, d_mesh_Mesh_tick, s_mesh_Mesh_tick⟩) (.n (.n (.e) (some ⟨7, d_sender_Sender_Ack, s_sender_Sender_Ack⟩) (.e)) (some ⟨4, d_hdlc_Decoder_end, s_hdlc_Decoder_end⟩) (.e))) (some ⟨11, d_ref23_some, s_ref23_some⟩) (.n (.n (.n (.e) (some ⟨14, d_slices_partitionCmpFunc_store_place, s_slices_partitionCmpFunc_store_place⟩) (.e)) (some ⟨7, d_custody_Custody_Compact, s_custody_Custody_Compact⟩) (.e)) (some ⟨12, d_hop_Desk_Tick, s_hop_Desk_Tick⟩) (.n (.n (.e) (some ⟨2, d_slices_rotateRight_int, s_slices_rotateRight_int⟩) (.e)) (some ⟨6, d_custody_Custody_lay, s_custody_Custody_lay⟩) (.e)))) (some ⟨54, d_ref23_step, s_ref23_step⟩) (.n (.n (.n (.n (.e) (some ⟨6, d_sender_Sender_Send, s_sender_Sender_Send⟩) (.e)) (some ⟨30, d_routes_Table_Hear, s_routes_Table_Hear⟩) (.e)) (some ⟨1, d_hdlc_New, s_hdlc_New⟩) (.n (.n (.e) (some ⟨5, d_cmp_Less_string, s_cmp_Less_string⟩) (.e)) (some ⟨8, d_hop_Desk_to, s_hop_Desk_to⟩) (.e))) (some ⟨3, d_custody_Custody_State, s_custody_Custody_State⟩) (.n (.n (.n (.e) (some ⟨6, d_record_Scan, s_record_Scan⟩) (.e)) (some ⟨4, d_custody_name, s_custody_name⟩) (.e)) (none) (.n (.n (.e) (some ⟨12, d_slices_order2CmpFunc_store_place, s_slices_order2CmpFunc_store_place⟩) (.e)) (some ⟨9, d_store_Store_May, s_store_Store_May⟩) (.e))))))))
end Go.Proofs.YtpnhjkiligohnaaGreatDoor
namespace Go.Vm.Rn
open Go.Vm
def All2 {α β : Type} (Q : α → β → Prop) : List α → List β → Prop
  | [], [] => True
  | a :: l, b :: r => Q a b ∧ All2 Q l r
  | _, _ => False
namespace All2
variable {α β γ : Type} {Q Q' : α → β → Prop}
theorem len : ∀ {l : List α} {r : List β}, All2 Q l r → l.length = r.length
  | [], [], _ => rfl
  | _ :: _, _ :: _, h => congrArg (· + 1) (len h.2)
  | [], _ :: _, h => h.elim
  | _ :: _, [], h => h.elim
theorem imp (hq : ∀ a b, Q a b → Q' a b) : ∀ {l : List α} {r : List β}, All2 Q l r → All2 Q' l r
  | [], [], _ => trivial
  | _ :: _, _ :: _, h => ⟨hq _ _ h.1, imp hq h.2⟩
  | [], _ :: _, h => h.elim
  | _ :: _, [], h => h.elim
theorem drop : ∀ (n : Nat) {l : List α} {r : List β}, All2 Q l r → All2 Q (l.drop n) (r.drop n)
  | 0, _, _, h => h
  | _ + 1, [], [], _ => trivial
  | n + 1, _ :: _, _ :: _, h => drop n h.2
  | _ + 1, [], _ :: _, h => h.elim
  | _ + 1, _ :: _, [], h => h.elim
theorem take : ∀ (n : Nat) {l : List α} {r : List β}, All2 Q l r → All2 Q (l.take n) (r.take n)
  | 0, _, _, _ => by simp [All2]
  | _ + 1, [], [], _ => trivial
  | n + 1, _ :: _, _ :: _, h => ⟨h.1, take n h.2⟩
  | _ + 1, [], _ :: _, h => h.elim
  | _ + 1, _ :: _, [], h => h.elim
theorem append : ∀ {l l' : List α} {r r' : List β}, All2 Q l r → All2 Q l' r' → All2 Q (l ++ l') (r ++ r')
  | [], _, [], _, _, h => h
  | _ :: _, _, _ :: _, _, h, h' => ⟨h.1, append h.2 h'⟩
  | [], _, _ :: _, _, h, _ => h.elim
  | _ :: _, _, [], _, h, _ => h.elim
theorem at_ : ∀ {l : List α} {r : List β}, All2 Q l r → ∀ {k : Nat} {a : α}, l[k]? = some a → ∃ b, r[k]? = some b ∧ Q a b
  | _ :: _, _ :: _, h, 0, a, ha => ⟨_, rfl, by simp at ha; subst ha; exact h.1⟩
  | _ :: _, _ :: _, h, k + 1, a, ha => by simpa using at_ h.2 (k := k) (a := a) (by simpa using ha)
  | [], [], _, _, _, ha => by simp at ha
  | [], _ :: _, h, _, _, _ => h.elim
  | _ :: _, [], h, _, _, _ => h.elim
theorem set : ∀ {l : List α} {r : List β}, All2 Q l r → ∀ {k : Nat} {a : α} {b : β}, Q a b → All2 Q (l.set k a) (r.set k b)
  | [], [], _, _, _, _, _ => trivial
  | _ :: _, _ :: _, h, 0, _, _, hq => ⟨hq, h.2⟩
  | _ :: _, _ :: _, h, _ + 1, _, _, hq => ⟨h.1, set h.2 hq⟩
  | [], _ :: _, h, _, _, _, _ => h.elim
  | _ :: _, [], h, _, _, _, _ => h.elim
theorem map {f : β → γ} {Q'' : α → γ → Prop} (hf : ∀ a b, Q a b → Q'' a (f b)) : ∀ {l : List α} {r : List β}, All2 Q l r → All2 Q'' l (r.map f)
  | [], [], _ => trivial
  | _ :: _, _ :: _, h => ⟨hf _ _ h.1, map hf h.2⟩
  | [], _ :: _, h => h.elim
  | _ :: _, [], h => h.elim
theorem fn (hq : ∀ a b b', Q a b → Q a b' → b = b') : ∀ {l : List α} {r r' : List β}, All2 Q l r → All2 Q l r' → r = r'
  | [], [], [], _, _ => rfl
  | _ :: _, _ :: _, _ :: _, h, h' => by rw [hq _ _ _ h.1 h'.1, fn hq h.2 h'.2]
  | [], _ :: _, _, h, _ => h.elim
  | [], [], _ :: _, _, h => h.elim
  | _ :: _, [], _, h, _ => h.elim
  | _ :: _, _ :: _, [], _, h => h.elim
end All2
theorem cB_s {b : Bool} {t : R} {y : Out} (h : cB b t fail = some y) : b = true ∧ t = some y := by cases b <;> simp_all [cB, fail]
theorem oV_s {α : Type} {x : Option α} {K : α → R} {y : Out} (h : oV x K = some y) : ∃ v, x = some v ∧ K v = some y := by cases x <;> simp_all [oV, fail]
theorem fN_eq (k : Nat → R) (n : Nat) : fN k n = k n := by cases n <;> rfl
theorem fI_eq (k : Int → R) (n : Int) : fI k n = k n := by cases n <;> simp only [fI, fN_eq]
theorem kB_s {b : Bool} {K : V → R} : kB b K = K (.c (.t b)) := by cases b <;> rfl
theorem lenK_eq {α : Type} (l : List α) (K : Nat → R) : lenK l K = K l.length := by
  unfold lenK; rw [fN_eq]; congr 1
  induction l with
  | nil => rfl
  | cons a r ih => simp only [List.length_cons, ← ih]
theorem appK_eq {α : Type} : ∀ (l r : List α) (K : List α → R), appK l r K = K (l ++ r)
  | [], _, _ => rfl
  | a :: l, r, K => appK_eq l r fun r' => K (a :: r')
theorem repK_eq {α : Type} (l : List α) : ∀ (n : Nat) (K : List α → R), repK l n K = K (List.replicate n l).flatten
  | 0, _ => rfl
  | n + 1, K => by
    have h : repK l (n + 1) K = repK l n fun r => appK l r K := rfl
    rw [h, repK_eq l n, appK_eq]; rfl
theorem dropK_s {α : Type} {y : Out} : ∀ {n : Nat} {l : List α} {K : List α → R}, dropK n l K = some y → n ≤ l.length ∧ K (l.drop n) = some y
  | 0, _, _, h => ⟨Nat.zero_le _, h⟩
  | _ + 1, [], _, h => by cases h
  | n + 1, _ :: l, K, h => by
    obtain ⟨h1, h2⟩ := dropK_s (n := n) (l := l) (K := K) h
    exact ⟨Nat.succ_le_succ h1, h2⟩
theorem takeK_s {α : Type} {y : Out} : ∀ {n : Nat} {l : List α} {K : List α → R}, takeK n l K = some y → n ≤ l.length ∧ K (l.take n) = some y
  | 0, _, _, h => ⟨Nat.zero_le _, h⟩
  | _ + 1, [], _, h => by cases h
  | n + 1, a :: l, K, h => by
    obtain ⟨h1, h2⟩ := takeK_s (n := n) (l := l) (K := fun r => K (a :: r)) h
    exact ⟨Nat.succ_le_succ h1, h2⟩
theorem overK_s {α : Type} {y : Out} : ∀ {vs l : List α} {K : List α → R}, overK vs l K = some y → vs.length ≤ l.length ∧ K (vs ++ l.drop vs.length) = some y
  | [], _, _, h => ⟨Nat.zero_le _, h⟩
  | _ :: _, [], _, h => by cases h
  | v :: vs, a :: l, K, h => by
    obtain ⟨h1, h2⟩ := overK_s (vs := vs) (l := l) (K := fun r => K (v :: r)) h
    exact ⟨Nat.succ_le_succ h1, h2⟩
theorem splK_s {α : Type} {y : Out} : ∀ {o : Nat} {l vs : List α} {K : List α → R}, splK o l vs K = some y → o + vs.length ≤ l.length ∧ K (splice l o vs) = some y
  | 0, l, vs, K, h => by
    obtain ⟨h1, h2⟩ := overK_s (vs := vs) (l := l) (K := K) h
    exact ⟨by omega, by simpa [splice] using h2⟩
  | _ + 1, [], _, _, h => by cases h
  | o + 1, a :: l, vs, K, h => by
    obtain ⟨h1, h2⟩ := splK_s (o := o) (l := l) (vs := vs) (K := fun r => K (a :: r)) h
    refine ⟨by simp only [List.length_cons]; omega, ?_⟩
    have e : splice (a :: l) (o + 1) vs = a :: splice l o vs := by simp [splice, Nat.add_right_comm o 1]
    rw [e]; exact h2
theorem nthK_s {α : Type} {y : Out} : ∀ {l : List α} {k : Nat} {K : α → R}, nthK l k K = some y → ∃ a, l[k]? = some a ∧ K a = some y
  | [], _, _, h => by cases h
  | a :: _, 0, _, h => ⟨a, rfl, h⟩
  | _ :: l, k + 1, K, h => by simpa using nthK_s (l := l) (k := k) (K := K) h
theorem setK_s {α : Type} {y : Out} : ∀ {l : List α} {k : Nat} {x : α} {K : List α → R}, setK l k x K = some y → k < l.length ∧ K (l.set k x) = some y
  | [], _, _, _, h => by cases h
  | _ :: l, 0, _, _, h => ⟨by simp, h⟩
  | a :: l, k + 1, x, K, h => by
    obtain ⟨h1, h2⟩ := setK_s (l := l) (k := k) (x := x) (K := fun r => K (a :: r)) h
    exact ⟨by simp only [List.length_cons]; omega, h2⟩
theorem delK_s {α : Type} {y : Out} : ∀ {l : List α} {k : Nat} {K : List α → R}, delK l k K = some y → k < l.length ∧ K (l.eraseIdx k) = some y
  | [], _, _, h => by cases h
  | _ :: l, 0, _, h => ⟨by simp, h⟩
  | a :: l, k + 1, K, h => by
    obtain ⟨h1, h2⟩ := delK_s (l := l) (k := k) (K := fun r => K (a :: r)) h
    exact ⟨by simp only [List.length_cons]; omega, h2⟩
theorem takeC_s {cs : List C} {o n : Nat} {K : List C → R} {y : Out} (h : takeC cs o n K = some y) : o + n ≤ cs.length ∧ K ((cs.drop o).take n) = some y := by
  obtain ⟨h1, h2⟩ := dropK_s h
  obtain ⟨h3, h4⟩ := takeK_s h2
  rw [List.length_drop] at h3
  exact ⟨by omega, h4⟩
namespace T
variable {α : Type}
theorem get_1 (l r : T α) (v : Option α) (m : Nat) : (T.n l v r).get (m + 1) = if Nat.beq (m % 2) 1 then r.get (m / 2) else l.get (m / 2) := by
  show (Bool.rec (l.get (m / 2)) (r.get (m / 2)) (Nat.beq (m % 2) 1) : Option α) = _
  cases Nat.beq (m % 2) 1 <;> rfl
noncomputable def put (t : T α) (k : Nat) (x : Option α) : T α := t.set k x id
theorem set_put {ρ : Type} : ∀ (t : T α) (k : Nat) (x : Option α) (K : T α → ρ), t.set k x K = K (t.put k x)
  | .e, _, _, _ => rfl
  | .n _ _ _, 0, _, _ => rfl
  | .n l v r, m + 1, x, K => by
    unfold put
    show (Bool.rec (l.set (m / 2) x fun l' => K (.n l' v r)) (r.set (m / 2) x fun r' => K (.n l v r')) (Nat.beq (m % 2) 1) : ρ) = K (Bool.rec (motive := fun _ => T α) (l.set (m / 2) x fun l' => id (.n l' v r)) (r.set (m / 2) x fun r' => id (.n l v r')) (Nat.beq (m % 2) 1))
    cases Nat.beq (m % 2) 1
    · show l.set (m / 2) x _ = K (l.set (m / 2) x _)
      rw [set_put l, set_put l]; rfl
    · show r.set (m / 2) x _ = K (r.set (m / 2) x _)
      rw [set_put r, set_put r]; rfl
theorem put_n (l r : T α) (v : Option α) (m : Nat) (x : Option α) : (T.n l v r).put (m + 1) x = if Nat.beq (m % 2) 1 then .n l v (r.put (m / 2) x) else .n (l.put (m / 2) x) v r := by
  unfold put
  show (Bool.rec (l.set (m / 2) x fun l' => id (.n l' v r)) (r.set (m / 2) x fun r' => id (.n l v r')) (Nat.beq (m % 2) 1) : T α) = _
  cases Nat.beq (m % 2) 1
  · show l.set (m / 2) x _ = _
    rw [set_put l]; rfl
  · show r.set (m / 2) x _ = _
    rw [set_put r]; rfl
theorem get_one : ∀ {f k j : Nat} {x : Option α} {y : α}, (T.one f k x).get j = some y → j = k ∧ x = some y
  | 0, _, _, _, _, h => by cases h
  | _ + 1, 0, 0, x, y, h => ⟨rfl, h⟩
  | _ + 1, 0, j + 1, x, y, h => by
    have e : ∀ f, (T.one (f + 1) 0 x : T α) = .n .e x .e := fun _ => rfl
    rw [e, get_1] at h
    split at h <;> cases h
  | f + 1, m + 1, j, x, y, h => by
    have e : (T.one (f + 1) (m + 1) x : T α) = Bool.rec (.n (T.one f (m / 2) x) none .e) (.n .e none (T.one f (m / 2) x)) (Nat.beq (m % 2) 1) := rfl
    rw [e] at h
    cases hm : Nat.beq (m % 2) 1 with
    | true =>
      rw [hm] at h
      have hm' : m % 2 = 1 := Nat.eq_of_beq_eq_true hm
      cases j with
      | zero => cases h
      | succ j =>
        replace h : (T.n .e none (T.one f (m / 2) x) : T α).get (j + 1) = some y := h
        rw [get_1] at h
        split at h
        · rename_i hj
          have hj' : j % 2 = 1 := Nat.eq_of_beq_eq_true hj
          obtain ⟨h1, h2⟩ := get_one h
          exact ⟨by omega, h2⟩
        · cases h
    | false =>
      rw [hm] at h
      have hm' : m % 2 ≠ 1 := fun e => by rw [e] at hm; cases hm
      cases j with
      | zero => cases h
      | succ j =>
        replace h : (T.n (T.one f (m / 2) x) none .e : T α).get (j + 1) = some y := h
        rw [get_1] at h
        split at h
        · cases h
        · rename_i hj
          have hj' : j % 2 ≠ 1 := fun e => by rw [e] at hj; exact hj rfl
          obtain ⟨h1, h2⟩ := get_one h
          exact ⟨by omega, h2⟩
theorem get_put : ∀ {t : T α} {k j : Nat} {x : Option α} {y : α}, (t.put k x).get j = some y → (j = k ∧ x = some y) ∨ (j ≠ k ∧ t.get j = some y)
  | .e, k, j, x, y, h => .inl (get_one (f := 40) (show (T.one 40 k x).get j = some y from h))
  | .n _ _ _, 0, 0, x, y, h => .inl ⟨rfl, h⟩
  | .n l v r, 0, j + 1, x, y, h => by
    have e : (T.n l v r).put 0 x = .n l x r := rfl
    rw [e, get_1] at h
    exact .inr ⟨by omega, by rw [get_1]; exact h⟩
  | .n l v r, m + 1, 0, x, y, h => by
    rw [put_n] at h
    refine .inr ⟨by omega, ?_⟩
    split at h <;> exact h
  | .n l v r, m + 1, j + 1, x, y, h => by
    rw [put_n] at h
    rw [get_1]
    cases hm : Nat.beq (m % 2) 1 <;> cases hj : Nat.beq (j % 2) 1 <;> simp only [hm, Bool.false_eq_true, if_false, if_true] at h <;> rw [get_1, hj] at h <;> simp only [Bool.false_eq_true, if_false, if_true] at h ⊢
    · have hm' : m % 2 ≠ 1 := fun e => by rw [e] at hm; cases hm
      have hj' : j % 2 ≠ 1 := fun e => by rw [e] at hj; cases hj
      rcases get_put h with ⟨h1, h2⟩ | ⟨h1, h2⟩
      · exact .inl ⟨by omega, h2⟩
      · exact .inr ⟨by omega, h2⟩
    · have hm' : m % 2 ≠ 1 := fun e => by rw [e] at hm; cases hm
      have hj' : j % 2 = 1 := Nat.eq_of_beq_eq_true hj
      exact .inr ⟨by omega, h⟩
    · have hj' : j % 2 ≠ 1 := fun e => by rw [e] at hj; cases hj
      have hm' : m % 2 = 1 := Nat.eq_of_beq_eq_true hm
      exact .inr ⟨by omega, h⟩
    · have hm' : m % 2 = 1 := Nat.eq_of_beq_eq_true hm
      have hj' : j % 2 = 1 := Nat.eq_of_beq_eq_true hj
      rcases get_put h with ⟨h1, h2⟩ | ⟨h1, h2⟩
      · exact .inl ⟨by omega, h2⟩
      · exact .inr ⟨by omega, h2⟩
end T
structure E where
  addr : Nat
  cap : Nat
  nil : Bool
  sp : List Value
def strB (l : List Nat) : ByteArray := ⟨(l.map UInt8.ofNat).toArray⟩
def C.val (σ : List E) : C → Option Value
  | .n q x => some (.int q x)
  | .t x => some (.bool x)
  | .s x => some (.string (strB x))
  | .p a o => (σ[a]?).map fun e => .pointer (some ⟨e.addr, o, none⟩)
  | .np => some (.pointer none)
  | .l a o x y => (σ[a]?).map fun e => .slice (some ⟨e.addr, o, none⟩) x y
  | .g a o d x => (σ[a]?).bind fun e => if e.nil = true then (if x = 0 ∧ o = 0 ∧ d = 0 then some (.slice none 0 0) else none) else (if d + x ≤ e.cap then some (.slice (some ⟨e.addr, o, none⟩) x (e.cap - d)) else none)
  | .nl => some (.slice none 0 0)
  | .m a => (σ[a]?).map fun e => .map (some e.addr)
  | .nm => some (.map none)
  | .b _ _ => none
  | .f x => some (.func (.func x) #[] #[])
  | .fm x a o => (σ[a]?).map fun e => .func (.func x) #[.pointer (some ⟨e.addr, o, none⟩)] #[]
  | .h a o d k z w => (σ[a]?).bind fun e => if e.nil = false ∧ d + k ≤ e.cap then some (.slice (subA (some ⟨e.addr, o, none⟩) k (e.cap - d) z) 0 (if w then 0 else e.cap - d - k)) else none
  | .ni => some .nilIface
  | .nf => some .nilFunc
  | .xx a d lo hi => (σ[a]?).bind fun e => match e.sp with | [.int .i64 u] => if lo ≤ u + d ∧ u + d ≤ hi then some (.int .i64 (u + d)) else none | _ => none
def CR (σ : List E) (c : C) (v : Value) : Prop := c.val σ = some v
def SCR (σ : List E) (nb : Nat) (c : C) (x : SC) : Prop := match c with | .b j o => j < nb ∧ x = .bx j o | c => ∃ v, c.val σ = some v ∧ x = .v v
def WR (σ : List E) (w : W) (v : Value) : Prop := match w with | .c x => CR σ x v | .ag l => ∃ vs, All2 (CR σ) l vs ∧ v = .agg vs.toArray | .fn g l => ∃ vs, All2 (CR σ) l vs ∧ v = .func (.func g) #[] vs.toArray
def VR (σ : List E) (nb : Nat) (v : V) (sv : SV) : Prop :=
  match v with
  | .c x => (∃ sc, SCR σ nb x sc ∧ sv = .c sc) ∨ (∃ b, x = .t b ∧ sv = .sb b)
  | .ag l => ∃ cs, All2 (SCR σ nb) l cs ∧ sv = .ag cs
  | .fn g l => (∃ cs, All2 (SCR σ nb) l cs ∧ sv = .fn g cs) ∨ (∃ vs, All2 (CR σ) l vs ∧ sv = .c (.v (.func (.func g) #[] vs.toArray)))
  | .tp l => ∃ vs, All2 (WR σ) l vs ∧ sv = .c (.v (.tuple vs.toArray))
  | .sl j n => j < nb ∧ sv = .sl j n
  | .dead => sv = .dead
def OVR (σ : List E) (v : V) (x : Value) : Prop := match v with | .c c => CR σ c x | .ag l => WR σ (.ag l) x | .fn g l => WR σ (.fn g l) x | .tp l => ∃ vs, All2 (WR σ) l vs ∧ x = .tuple vs.toArray | _ => False
def EnR (σ : List E) (e : En) (m : MapEntry) : Prop := WR σ e.key m.key ∧ WR σ e.val m.val ∧ m.born = e.born
def mR (σ : List E) (m : Option Nat) (x : Option Nat) : Prop := match m with | none => x = none | some a => ∃ e, σ[a]? = some e ∧ x = some e.addr
def OR (σ : List E) (e : E) (o : O) (M : Mem) : Prop :=
  match o with
  | .row T l => e.nil = false ∧ ∃ vs, All2 (CR σ) l vs ∧ M e.addr = some (.cells vs.toArray T (0, 0))
  | .ro T l => e.nil = false ∧ ∃ vs, All2 (CR σ) l vs ∧ M e.addr = some (.cells vs.toArray T (vs.length, vs.length + 1))
  | .gr T z l => ∃ vs, All2 (CR σ) l vs ∧ ((e.nil = true ∧ l = [] ∧ e.cap = 0) ∨ (e.nil = false ∧ M e.addr = some (.cells (vs ++ e.sp).toArray T (0, 0)) ∧ (vs ++ e.sp).length = e.cap * z))
  | .mp es c => e.nil = false ∧ ∃ ms, All2 (EnR σ) es ms ∧ M e.addr = some (.map ms.toArray c)
  | .it m a s t => e.nil = false ∧ ∃ x, mR σ m x ∧ M e.addr = some (.mapIter x a s.toArray t)
  | .si l p => e.nil = false ∧ M e.addr = some (.stringIter (strB l) p)
def BR (σ : List E) (nb : Nat) (b : B) (x : BE) : Prop := match b with | .live T l => ∃ cs, All2 (SCR σ nb) l cs ∧ x = .live T cs | .gone a => ∃ e, σ[a]? = some e ∧ x = .gone e.addr | .dark => ∃ a, x = .gone a
def FR (σ : List E) (nb : Nat) (s : S) (fr : List (Nat × SV)) : Prop := ∀ d v, s.fget d = some v → v ≠ .dead ∧ ∃ sv, lk fr d = some sv ∧ VR σ nb v sv
structure HR (σ : List E) (H : T O) (M : Mem) : Prop where
  has : ∀ a o, H.get a = some o → ∃ e, σ[a]? = some e ∧ OR σ e o M
  inj : ∀ a b oa ob ea eb, H.get a = some oa → H.get b = some ob → σ[a]? = some ea → σ[b]? = some eb → ea.nil = false → eb.nil = false → ea.addr = eb.addr → a = b
structure SR (σ : List E) (s : S) (t : St) : Prop where
  n : s.n = σ.length
  fr : FR σ t.bx.length s t.fr
  bx : All2 (BR σ t.bx.length) s.bx t.bx
  h : HR σ s.H t.M
def S.rd (s : S) (a : Nat) : Prop := match s.g with | none => True | some l => mem a l = true
structure QR (σ : List E) (nb : Nat) (s : S) (t : St) : Prop where
  fr : FR σ nb s t.fr
  bx : All2 (BR σ nb) s.bx t.bx
  h : ∀ a o, s.rd a → s.H.get a = some o → ∃ e, σ[a]? = some e ∧ OR σ e o t.M
theorem SR.q {σ : List E} {s : S} {t : St} (h : SR σ s t) : QR σ t.bx.length s t := ⟨h.fr, h.bx, fun a o _ ha => h.h.has a o ha⟩
theorem C.val_mono {σ : List E} (τ : List E) {c : C} {v : Value} (h : c.val σ = some v) : c.val (σ ++ τ) = some v := by
  have key : ∀ {a : Nat} {e : E}, σ[a]? = some e → (σ ++ τ)[a]? = some e := fun {a e} he => by
    rw [List.getElem?_append_left (List.getElem?_eq_some_iff.1 he).1]; exact he
  cases c with
  | p a o => simp only [C.val, Option.map_eq_some_iff] at h ⊢; obtain ⟨e, h1, h2⟩ := h; exact ⟨e, key h1, h2⟩
  | l a o n c => simp only [C.val, Option.map_eq_some_iff] at h ⊢; obtain ⟨e, h1, h2⟩ := h; exact ⟨e, key h1, h2⟩
  | m a => simp only [C.val, Option.map_eq_some_iff] at h ⊢; obtain ⟨e, h1, h2⟩ := h; exact ⟨e, key h1, h2⟩
  | g a o d n => simp only [C.val, Option.bind_eq_some_iff] at h ⊢; obtain ⟨e, h1, h2⟩ := h; exact ⟨e, key h1, h2⟩
  | fm g a o => simp only [C.val, Option.map_eq_some_iff] at h ⊢; obtain ⟨e, h1, h2⟩ := h; exact ⟨e, key h1, h2⟩
  | h a o d k z w => simp only [C.val, Option.bind_eq_some_iff] at h ⊢; obtain ⟨e, h1, h2⟩ := h; exact ⟨e, key h1, h2⟩
  | xx a d lo hi => simp only [C.val, Option.bind_eq_some_iff] at h ⊢; obtain ⟨e, h1, h2⟩ := h; exact ⟨e, key h1, h2⟩
  | _ => exact h
theorem CR.mono {σ : List E} (τ : List E) {c : C} {v : Value} (h : CR σ c v) : CR (σ ++ τ) c v := C.val_mono τ h
theorem SCR.mono {σ : List E} {nb nb' : Nat} (τ : List E) (hn : nb ≤ nb') {c : C} {x : SC} (h : SCR σ nb c x) : SCR (σ ++ τ) nb' c x := by
  cases c with
  | b j o => exact ⟨Nat.lt_of_lt_of_le h.1 hn, h.2⟩
  | _ => obtain ⟨v, h1, h2⟩ := h; exact ⟨v, C.val_mono τ h1, h2⟩
theorem WR.mono {σ : List E} (τ : List E) {w : W} {v : Value} (h : WR σ w v) : WR (σ ++ τ) w v := by
  cases w with
  | c x => exact CR.mono τ h
  | ag l => obtain ⟨vs, h1, h2⟩ := h; exact ⟨vs, h1.imp fun _ _ => CR.mono τ, h2⟩
  | fn g l => obtain ⟨vs, h1, h2⟩ := h; exact ⟨vs, h1.imp fun _ _ => CR.mono τ, h2⟩
theorem VR.mono {σ : List E} {nb nb' : Nat} (τ : List E) (hn : nb ≤ nb') {v : V} {sv : SV} (h : VR σ nb v sv) : VR (σ ++ τ) nb' v sv := by
  cases v with
  | c x => exact h.imp (fun ⟨sc, h1, h2⟩ => ⟨sc, h1.mono τ hn, h2⟩) id
  | ag l => obtain ⟨cs, h1, h2⟩ := h; exact ⟨cs, h1.imp fun _ _ => SCR.mono τ hn, h2⟩
  | fn g l => exact h.imp (fun ⟨cs, h1, h2⟩ => ⟨cs, h1.imp fun _ _ => SCR.mono τ hn, h2⟩) (fun ⟨vs, h1, h2⟩ => ⟨vs, h1.imp fun _ _ => CR.mono τ, h2⟩)
  | tp l => obtain ⟨vs, h1, h2⟩ := h; exact ⟨vs, h1.imp fun _ _ => WR.mono τ, h2⟩
  | sl j n => exact ⟨Nat.lt_of_lt_of_le h.1 hn, h.2⟩
  | dead => exact h
theorem at_mono {σ : List E} (τ : List E) {a : Nat} {e : E} (he : σ[a]? = some e) : (σ ++ τ)[a]? = some e := by
  rw [List.getElem?_append_left (List.getElem?_eq_some_iff.1 he).1]; exact he
theorem EnR.mono {σ : List E} (τ : List E) {e : En} {m : MapEntry} (h : EnR σ e m) : EnR (σ ++ τ) e m := ⟨h.1.mono τ, h.2.1.mono τ, h.2.2⟩
theorem OR.mono {σ : List E} (τ : List E) {e : E} {o : O} {M : Mem} (h : OR σ e o M) : OR (σ ++ τ) e o M := by
  cases o with
  | row T l => obtain ⟨h0, vs, h1, h2⟩ := h; exact ⟨h0, vs, h1.imp fun _ _ => CR.mono τ, h2⟩
  | ro T l => obtain ⟨h0, vs, h1, h2⟩ := h; exact ⟨h0, vs, h1.imp fun _ _ => CR.mono τ, h2⟩
  | gr T z l => obtain ⟨vs, h1, h2⟩ := h; exact ⟨vs, h1.imp fun _ _ => CR.mono τ, h2⟩
  | mp es c => obtain ⟨h0, ms, h1, h2⟩ := h; exact ⟨h0, ms, h1.imp fun _ _ => EnR.mono τ, h2⟩
  | it m a s t =>
    obtain ⟨h0, x, h1, h2⟩ := h
    refine ⟨h0, x, ?_, h2⟩
    cases m with
    | none => exact h1
    | some a => obtain ⟨e, h3, h4⟩ := h1; exact ⟨e, at_mono τ h3, h4⟩
  | si l p => exact h
theorem BR.mono {σ : List E} {nb nb' : Nat} (τ : List E) (hn : nb ≤ nb') {b : B} {x : BE} (h : BR σ nb b x) : BR (σ ++ τ) nb' b x := by
  cases b with
  | live T l => obtain ⟨cs, h1, h2⟩ := h; exact ⟨cs, h1.imp fun _ _ => SCR.mono τ hn, h2⟩
  | gone a => obtain ⟨e, h1, h2⟩ := h; exact ⟨e, at_mono τ h1, h2⟩
  | dark => exact h
theorem FR.mono {σ : List E} {nb nb' : Nat} (τ : List E) (hn : nb ≤ nb') {s : S} {fr : List (Nat × SV)} (h : FR σ nb s fr) : FR (σ ++ τ) nb' s fr := fun d v hd => by
  obtain ⟨h0, sv, h1, h2⟩ := h d v hd
  exact ⟨h0, sv, h1, h2.mono τ hn⟩
theorem CR.fn {σ : List E} {c : C} {v v' : Value} (h : CR σ c v) (h' : CR σ c v') : v = v' := by unfold CR at h h'; rw [h] at h'; exact Option.some.inj h'
theorem CR.sc {σ : List E} {nb : Nat} {c : C} {v : Value} (h : CR σ c v) : SCR σ nb c (.v v) := by
  cases c with
  | b j o => cases h
  | _ => exact ⟨v, h, rfl⟩
theorem C.val_xx {σ : List E} {a : Nat} {d lo hi : Int} {v : Value} (h : (C.xx a d lo hi).val σ = some v) : ∃ e n, σ[a]? = some e ∧ e.sp = [.int .i64 n] ∧ lo ≤ n + d ∧ n + d ≤ hi ∧ v = .int .i64 (n + d) := by
  simp only [C.val, Option.bind_eq_some_iff] at h
  obtain ⟨e, h1, h2⟩ := h
  split at h2
  · rename_i n hn
    split at h2
    · rename_i hb
      cases h2
      exact ⟨e, n, h1, hn, hb.1, hb.2, rfl⟩
    · cases h2
  · cases h2
theorem CR.one {σ : List E} {c : C} {v : Value} (h : CR σ c v) : v.oneCell' = true := by
  unfold CR at h
  by_cases hx : ∃ a d lo hi, c = .xx a d lo hi
  · obtain ⟨a, d, lo, hi, rfl⟩ := hx
    obtain ⟨e, n, -, -, -, -, rfl⟩ := C.val_xx h
    rfl
  cases c <;> simp only [C.val, Option.map_eq_some_iff, Option.bind_eq_some_iff, Option.some.injEq, reduceCtorEq] at h <;> first
    | exact (hx ⟨_, _, _, _, rfl⟩).elim
    | (subst h; rfl)
    | (obtain ⟨e, -, rfl⟩ := h; rfl)
    | (obtain ⟨e, -, h⟩ := h; split at h <;> split at h <;> first | (cases h; rfl) | cases h)
    | (obtain ⟨e, -, h⟩ := h; split at h <;> first | (cases h; rfl) | cases h)
theorem norm_c {σ : List E} {nb : Nat} {c : C} {v : Value} (h : CR σ c v) : VR σ nb (.c c) (norm v) := by
  have h1 := h.one
  cases v with
  | bool b =>
    right
    refine ⟨b, ?_, rfl⟩
    unfold CR at h
    by_cases hx : ∃ a d lo hi, c = .xx a d lo hi
    · obtain ⟨a, d, lo, hi, rfl⟩ := hx
      obtain ⟨e, n, -, -, -, -, h⟩ := C.val_xx h
      cases h
    cases c <;> simp only [C.val, Option.map_eq_some_iff, Option.bind_eq_some_iff, Option.some.injEq, reduceCtorEq, and_false, exists_false] at h <;> first
      | exact (hx ⟨_, _, _, _, rfl⟩).elim
      | (cases h; rfl)
      | (obtain ⟨e, -, h⟩ := h; split at h <;> split at h <;> cases h)
      | (obtain ⟨e, -, h⟩ := h; split at h <;> cases h)
  | agg cs => cases h1
  | tuple cs => cases h1
  | _ => exact .inl ⟨_, h.sc, rfl⟩
theorem normW {σ : List E} {nb : Nat} {w : W} {v : Value} (h : WR σ w v) : VR σ nb (V.ofW w) (norm v) := by
  cases w with
  | c x => exact norm_c h
  | ag l =>
    obtain ⟨vs, h1, rfl⟩ := h
    exact ⟨vs.map .v, h1.map fun _ _ h => CR.sc h, by simp [norm]⟩
  | fn g l =>
    obtain ⟨vs, h1, rfl⟩ := h
    exact .inr ⟨vs, h1, rfl⟩
theorem normO {σ : List E} {nb : Nat} {v : V} {x : Value} (h : OVR σ v x) : VR σ nb v (norm x) := by
  cases v with
  | c c => exact norm_c h
  | ag l => exact normW (w := .ag l) h
  | fn g l => exact normW (w := .fn g l) h
  | tp l => obtain ⟨vs, h1, rfl⟩ := h; exact ⟨vs, h1, rfl⟩
  | sl j n => exact h.elim
  | dead => exact h.elim
theorem strB_of (s : ByteArray) : strB (s.toList.map UInt8.toNat) = s := by
  unfold strB
  have : (s.toList.map UInt8.toNat).map UInt8.ofNat = s.toList := by
    rw [List.map_map]
    conv => rhs; rw [← List.map_id s.toList]
    apply List.map_congr_left
    intro a _
    simp
  rw [this, ByteArray.toList_eq]
theorem C.ofV_s {v : Value} {c : C} (h : C.ofV v = some c) (σ : List E) : CR σ c v := by
  unfold C.ofV at h
  split at h <;> first
    | (cases h; rfl)
    | (cases h; simp only [CR, C.val, strB_of])
    | cases h
theorem ofVs_s {y : Out} (σ : List E) : ∀ {vs : List Value} {K : List C → R}, ofVs vs K = some y → ∃ l, All2 (CR σ) l vs ∧ K l = some y
  | [], K, h => ⟨[], trivial, h⟩
  | v :: vs, K, h => by
    obtain ⟨c, h1, h2⟩ := oV_s (K := fun c => ofVs vs fun r => K (c :: r)) h
    obtain ⟨l, h3, h4⟩ := ofVs_s σ (vs := vs) (K := fun r => K (c :: r)) h2
    exact ⟨c :: l, ⟨C.ofV_s h1 σ, h3⟩, h4⟩
theorem ofV_s {v : Value} {K : V → R} {y : Out} (h : V.ofV v K = some y) (σ : List E) (nb : Nat) : ∃ x, (∃ w, (x = .c w ∧ CR σ w v ∨ ∃ l cs, x = .ag l ∧ v = .agg cs ∧ All2 (CR σ) l cs.toList)) ∧ VR σ nb x (normC v) ∧ K x = some y := by
  unfold V.ofV at h
  split at h
  · rename_i cs
    obtain ⟨l, h1, h2⟩ := ofVs_s σ h
    exact ⟨.ag l, ⟨.ni, .inr ⟨l, cs, rfl, rfl, h1⟩⟩, ⟨cs.toList.map .v, h1.map fun _ _ h => CR.sc h, rfl⟩, h2⟩
  · rename_i hv
    obtain ⟨c, h1, h2⟩ := oV_s h
    have h3 := C.ofV_s h1 σ
    refine ⟨.c c, ⟨c, .inl ⟨rfl, h3⟩⟩, .inl ⟨.v v, h3.sc, ?_⟩, h2⟩
    cases v <;> first | rfl | exact absurd rfl (hv _)
section
variable {σ : List E} {s : S} {t : St} {y : Out} {nb : Nat}
theorem ev_s {x : Operand} {K : V → R} (h : ev s x K = some y) (hf : FR σ nb s t.fr) {k : SV → Prop} (hk : ∀ v sv, v ≠ .dead → VR σ nb v sv → K v = some y → k sv) : Vm.ev t x k := by
  cases x with
  | tmp d =>
    obtain ⟨v, h1, h2⟩ := oV_s (K := K) h
    obtain ⟨h0, sv, h3, h4⟩ := hf d v h1
    show evO (lk t.fr d) k
    rw [h3]
    have h5 := hk v sv h0 h4 h2
    cases sv with
    | dead =>
      exfalso
      cases v with
      | c x => rcases h4 with ⟨_, _, h⟩ | ⟨_, _, h⟩ <;> cases h
      | ag l => obtain ⟨_, _, h⟩ := h4; cases h
      | fn g l => rcases h4 with ⟨_, _, h⟩ | ⟨_, _, h⟩ <;> cases h
      | tp l => obtain ⟨_, _, h⟩ := h4; cases h
      | sl j n => cases h4.2
      | dead => exact h0 rfl
    | _ => exact h5
  | const v =>
    obtain ⟨x, ⟨w, hx⟩, h1, h2⟩ := ofV_s (K := K) h σ nb
    refine hk x _ ?_ h1 h2
    rintro rfl
    rcases hx with ⟨h, _⟩ | ⟨_, _, h, _⟩ <;> cases h
  | func f => exact hk (.c (.f f)) _ (by simp) (.inl ⟨.v (.func (.func f) #[] #[]), CR.sc (c := .f f) rfl, rfl⟩) h
  | global g => cases h
end
end Go.Vm.Rn
